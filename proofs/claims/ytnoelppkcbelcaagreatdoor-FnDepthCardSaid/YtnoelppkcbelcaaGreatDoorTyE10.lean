import Derived.Test.YtnoelppkcbelcaaGreatDoorTyK
set_option linter.unusedVariables false
set_option linter.unusedSimpArgs false
set_option maxHeartbeats 0
set_option maxRecDepth 100000
namespace Go.Proofs.YtnoelppkcbelcaaGreatDoor.Ty
open Go Go.RowKit
theorem r18_0 : roundB L64 (hin 18 noHow true) 200 runD (runH 0) (runH 1) runEX = true := by kernel_rfl
theorem r18_1 : roundB L64 (hin 18 noHow true) 200 runD (runH 1) (runH 2) runEX = true := by kernel_rfl
theorem r18_2 : roundB L64 (hin 18 noHow true) 200 runD (runH 2) (runH 3) runEX = true := by kernel_rfl
theorem r18_3 : roundB L64 (hin 18 noHow true) 200 runD (runH 3) (runH 4) runEX = true := by kernel_rfl
theorem r18_4 : roundB L64 (hin 18 noHow true) 200 runD (runH 4) (runH 5) runEX = true := by kernel_rfl
theorem r18_5 : roundB L64 (hin 18 noHow true) 200 runD (runH 5) (runH 6) runEX = true := by kernel_rfl
theorem r18_6 : roundB L64 (hin 18 noHow true) 200 runD (runH 6) (runH 7) runEX = true := by kernel_rfl
end Go.Proofs.YtnoelppkcbelcaaGreatDoor.Ty
