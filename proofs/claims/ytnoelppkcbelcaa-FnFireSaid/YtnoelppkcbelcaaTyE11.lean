import Derived.Test.YtnoelppkcbelcaaTyK
set_option linter.unusedVariables false
set_option linter.unusedSimpArgs false
set_option maxHeartbeats 0
set_option maxRecDepth 100000
namespace Go.Proofs.Ytnoelppkcbelcaa.Ty
open Go Go.RowKit
theorem r56_7 : roundB L64 (hin 56 noHow true) 200 runD (runH 7) (runH 8) runEX = true := by kernel_rfl
theorem r56_8 : roundB L64 (hin 56 noHow true) 200 runD (runH 8) (runH 9) runEX = true := by kernel_rfl
theorem r56_9 : roundB L64 (hin 56 noHow true) 200 runD (runH 9) (runH 10) runEX = true := by kernel_rfl
theorem r56_10 : roundB L64 (hin 56 noHow true) 200 runD (runH 10) (runH 11) runEX = true := by kernel_rfl
theorem r56_11 : roundB L64 (hin 56 noHow true) 200 runD (runH 11) (runH 12) runEX = true := by kernel_rfl
theorem r56_12 : roundB L64 (hin 56 noHow true) 200 runD (runH 12) (runH 13) runEX = true := by kernel_rfl
theorem r56_13 : roundB L64 (hin 56 noHow true) 200 runD (runH 13) (runH 14) runEX = true := by kernel_rfl
end Go.Proofs.Ytnoelppkcbelcaa.Ty
