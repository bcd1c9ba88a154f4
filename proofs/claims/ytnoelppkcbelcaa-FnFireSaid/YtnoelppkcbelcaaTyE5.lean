import Derived.Test.YtnoelppkcbelcaaTyK
set_option linter.unusedVariables false
set_option linter.unusedSimpArgs false
set_option maxHeartbeats 0
set_option maxRecDepth 100000
namespace Go.Proofs.Ytnoelppkcbelcaa.Ty
open Go Go.RowKit
theorem e90_0 : covers (analyze L57 Try.f90 (hin 90 noHow true) 200 [cur, ii 60 60] none) (c1 (.slice [u8] 60 240 none)) = true := by kernel_rfl
end Go.Proofs.Ytnoelppkcbelcaa.Ty
