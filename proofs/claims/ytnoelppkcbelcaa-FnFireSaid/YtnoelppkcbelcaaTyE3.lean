import Derived.Test.YtnoelppkcbelcaaTyK
set_option linter.unusedVariables false
set_option linter.unusedSimpArgs false
set_option maxHeartbeats 0
set_option maxRecDepth 100000
namespace Go.Proofs.Ytnoelppkcbelcaa.Ty
open Go Go.RowKit
theorem e85_7 : covers (analyze L49 Try.f85 (hin 85 noHow true) 200 [CPU, RAMG 2048 2048] none) (stepOut) = true := by kernel_rfl
end Go.Proofs.Ytnoelppkcbelcaa.Ty
