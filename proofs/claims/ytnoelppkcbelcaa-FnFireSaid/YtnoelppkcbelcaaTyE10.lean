import Derived.Test.YtnoelppkcbelcaaTyK
set_option linter.unusedVariables false
set_option linter.unusedSimpArgs false
set_option maxHeartbeats 0
set_option maxRecDepth 100000
namespace Go.Proofs.Ytnoelppkcbelcaa.Ty
open Go Go.RowKit
theorem r56_0 : roundB L64 (hin 56 noHow true) 200 runD (runH 0) (runH 1) runEX = true := by kernel_rfl
theorem r56_1 : roundB L64 (hin 56 noHow true) 200 runD (runH 1) (runH 2) runEX = true := by kernel_rfl
theorem r56_2 : roundB L64 (hin 56 noHow true) 200 runD (runH 2) (runH 3) runEX = true := by kernel_rfl
theorem r56_3 : roundB L64 (hin 56 noHow true) 200 runD (runH 3) (runH 4) runEX = true := by kernel_rfl
theorem r56_4 : roundB L64 (hin 56 noHow true) 200 runD (runH 4) (runH 5) runEX = true := by kernel_rfl
theorem r56_5 : roundB L64 (hin 56 noHow true) 200 runD (runH 5) (runH 6) runEX = true := by kernel_rfl
theorem r56_6 : roundB L64 (hin 56 noHow true) 200 runD (runH 6) (runH 7) runEX = true := by kernel_rfl
end Go.Proofs.Ytnoelppkcbelcaa.Ty
