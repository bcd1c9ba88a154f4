import Derived.Test.YtnoelppkcbelcaaGreatDoorTyK
set_option linter.unusedVariables false
set_option linter.unusedSimpArgs false
set_option maxHeartbeats 0
set_option maxRecDepth 100000
namespace Go.Proofs.YtnoelppkcbelcaaGreatDoor.Ty
open Go Go.RowKit
theorem e44_0 : covers (analyze L57 Tryz.f44 (hin 44 noHow true) 200 [cur, ii 60 60] none) (c1 (.slice [u8] 60 240 none)) = true := by kernel_rfl
end Go.Proofs.YtnoelppkcbelcaaGreatDoor.Ty
