import Derived.Test.YtnoelppkcbelcaaTyK
set_option linter.unusedVariables false
set_option linter.unusedSimpArgs false
set_option maxHeartbeats 0
set_option maxRecDepth 100000
namespace Go.Proofs.Ytnoelppkcbelcaa.Ty
open Go Go.RowKit
theorem r56_14 : roundB L64 (hin 56 noHow true) 200 runD (runH 14) (runH 15) runEX = true := by kernel_rfl
theorem r56_15 : roundB L64 (hin 56 noHow true) 200 runD (runH 15) (runH 16) runEX = true := by kernel_rfl
theorem r56_16 : roundB L64 (hin 56 noHow true) 200 runD (runH 16) (runH 17) runEX = true := by kernel_rfl
theorem r56_17 : roundB L64 (hin 56 noHow true) 200 runD (runH 17) (runH 18) runEX = true := by kernel_rfl
theorem r56_18 : roundB L64 (hin 56 noHow true) 200 runD (runH 18) (runH 19) runEX = true := by kernel_rfl
theorem r56_19 : roundB L64 (hin 56 noHow true) 200 runD (runH 19) (runH 20) runEX = true := by kernel_rfl
theorem r56_20 : lastB L64 (hin 56 noHow true) 200 runD (runH 20) runEX = true := by kernel_rfl
theorem e56_0 : covers (analyze L64 Try.f56 hinR56 200 [CPU, RANY, EV, ii 1 20] none) ([⟨.one (.agg (shot 20)), [], none⟩]) = true := by kernel_rfl
end Go.Proofs.Ytnoelppkcbelcaa.Ty
