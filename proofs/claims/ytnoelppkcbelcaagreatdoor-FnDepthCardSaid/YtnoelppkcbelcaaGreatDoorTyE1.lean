import Derived.Test.YtnoelppkcbelcaaGreatDoorTyK
set_option linter.unusedVariables false
set_option linter.unusedSimpArgs false
set_option maxHeartbeats 0
set_option maxRecDepth 100000
namespace Go.Proofs.YtnoelppkcbelcaaGreatDoor.Ty
open Go Go.RowKit
theorem e36_3 : covers (analyze L49 Tryz.f36 (hin 36 noHow true) 200 [CPU, RAMG 512 512] none) (stepOut) = true := by kernel_rfl
end Go.Proofs.YtnoelppkcbelcaaGreatDoor.Ty
