import Derived.Test.YtnoelppkcbelcaaTyK
set_option linter.unusedVariables false
set_option linter.unusedSimpArgs false
set_option maxHeartbeats 0
set_option maxRecDepth 100000
namespace Go.Proofs.Ytnoelppkcbelcaa.Ty
open Go Go.RowKit
theorem e59_0 : covers (analyze L4 Try.f59 (hin 59 noHow true) 200 [cur] none) (c1 sU8) = true := by kernel_rfl
theorem e119_0 : covers (analyze L10 Try.f119 (hin 119 noHow true) 200 [U8] none) ([⟨.one (.agg [.str, .int .i64 0 13 none]), [], none⟩]) = true := by kernel_rfl
theorem e97_0 : covers (analyze L11 Try.f97 (hin 97 noHow true) 200 [U8] none) (c1 .str) = true := by kernel_rfl
theorem e100_0 : covers (analyze L12 Try.f100 (hin 100 noHow true) 200 [U8] none) (c1 (.int .i64 (-1) 13 none)) = true := by kernel_rfl
theorem e94_0 : covers (analyze L13 Try.f94 (hin 94 noHow true) 200 [U8] none) (c1 (.int .i64 0 3 none)) = true := by kernel_rfl
theorem e93_0 : covers (analyze L14 Try.f93 (hin 93 noHow true) 200 [U8] none) (c1 (.int .i64 0 12 none)) = true := by kernel_rfl
theorem e118_0 : covers (analyze L25 Try.f118 (hin 118 noHow true) 200 [FL, BB] none) (c1 sU8) = true := by kernel_rfl
theorem e143_0 : covers (analyze L26 Try.f143 (hin 143 noHow true) 200 [U8, U8, FL] none) (outB8) = true := by kernel_rfl
theorem e144_0 : covers (analyze L27 Try.f144 (hin 144 noHow true) 200 [U8, U8, FL] none) (outB8) = true := by kernel_rfl
theorem e145_0 : covers (analyze L28 Try.f145 (hin 145 noHow true) 200 [U8, U8, FL] none) (outFL) = true := by kernel_rfl
theorem e146_0 : covers (analyze L29 Try.f146 (hin 146 noHow true) 200 [U8, U8, FL] none) (outFL) = true := by kernel_rfl
theorem e122_0 : covers (analyze L37 Try.f122 (hin 122 noHow true) 200 [FL, STR] none) (outFL) = true := by kernel_rfl
theorem e123_0 : covers (analyze L38 Try.f123 (hin 123 noHow true) 200 [FL, STR] none) (c1 b_) = true := by kernel_rfl
theorem e147_0 : covers (analyze L39 Try.f147 (hin 147 noHow true) 200 [CPU, ii (-1) 13] none) (c1 (.int .i64 0 255 none)) = true := by kernel_rfl
theorem e120_0 : covers (analyze L40 Try.f120 (hin 120 noHow true) 200 [STR, U8, FL] none) (outB8) = true := by kernel_rfl
theorem e125_0 : covers (analyze L41 Try.f125 (hin 125 noHow true) 200 [CPU, STR, U8] none) (outCPU) = true := by kernel_rfl
theorem e99_0 : covers (analyze L42 Try.f99 (hin 99 noHow true) 200 [CPU, STR, ii (-1) 13] none) (outCPU) = true := by kernel_rfl
theorem e85_0 : covers (analyze L49 Try.f85 (hin 85 noHow true) 200 [CPU, RAMG 0 255] none) (stepOut) = true := by kernel_rfl
theorem e85_2 : covers (analyze L49 Try.f85 (hin 85 noHow true) 200 [CPU, RAMG 257 511] none) (stepOut) = true := by kernel_rfl
theorem e85_4 : covers (analyze L49 Try.f85 (hin 85 noHow true) 200 [CPU, RAMG 513 1023] none) (stepOut) = true := by kernel_rfl
end Go.Proofs.Ytnoelppkcbelcaa.Ty
