import Derived.Test.YtnoelppkcbelcaaTyK
set_option linter.unusedVariables false
set_option linter.unusedSimpArgs false
set_option maxHeartbeats 0
set_option maxRecDepth 100000
namespace Go.Proofs.Ytnoelppkcbelcaa.Ty
open Go Go.RowKit
theorem e78_0 : covers (analyze L61 Try.f78 (hin 78 (how1 2 7 4) true) 200 [cur] none) ([⟨SB 0 100, [], none⟩]) = true := by kernel_rfl
end Go.Proofs.Ytnoelppkcbelcaa.Ty
