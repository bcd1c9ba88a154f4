import Derived.Test.YtnoelppkcbelcaaGreatDoorTyK
set_option linter.unusedVariables false
set_option linter.unusedSimpArgs false
set_option maxHeartbeats 0
set_option maxRecDepth 100000
namespace Go.Proofs.YtnoelppkcbelcaaGreatDoor.Ty
open Go Go.RowKit
theorem e45_0 : covers (analyze L4 Tryz.f45 (hin 45 noHow true) 200 [cur] none) (c1 sU8) = true := by kernel_rfl
theorem e26_0 : covers (analyze L10 Tryz.f26 (hin 26 noHow true) 200 [U8] none) ([⟨.one (.agg [.str, .int .i64 0 13 none]), [], none⟩]) = true := by kernel_rfl
theorem e15_0 : covers (analyze L11 Tryz.f15 (hin 15 noHow true) 200 [U8] none) (c1 .str) = true := by kernel_rfl
theorem e55_0 : covers (analyze L12 Tryz.f55 (hin 55 noHow true) 200 [U8] none) (c1 (.int .i64 (-1) 13 none)) = true := by kernel_rfl
theorem e50_0 : covers (analyze L13 Tryz.f50 (hin 50 noHow true) 200 [U8] none) (c1 (.int .i64 0 3 none)) = true := by kernel_rfl
theorem e49_0 : covers (analyze L14 Tryz.f49 (hin 49 noHow true) 200 [U8] none) (c1 (.int .i64 0 12 none)) = true := by kernel_rfl
theorem e66_0 : covers (analyze L25 Tryz.f66 (hin 66 noHow true) 200 [FL, BB] none) (c1 sU8) = true := by kernel_rfl
theorem e84_0 : covers (analyze L26 Tryz.f84 (hin 84 noHow true) 200 [U8, U8, FL] none) (outB8) = true := by kernel_rfl
theorem e85_0 : covers (analyze L27 Tryz.f85 (hin 85 noHow true) 200 [U8, U8, FL] none) (outB8) = true := by kernel_rfl
theorem e86_0 : covers (analyze L28 Tryz.f86 (hin 86 noHow true) 200 [U8, U8, FL] none) (outFL) = true := by kernel_rfl
theorem e87_0 : covers (analyze L29 Tryz.f87 (hin 87 noHow true) 200 [U8, U8, FL] none) (outFL) = true := by kernel_rfl
theorem e70_0 : covers (analyze L37 Tryz.f70 (hin 70 noHow true) 200 [FL, STR] none) (outFL) = true := by kernel_rfl
theorem e71_0 : covers (analyze L38 Tryz.f71 (hin 71 noHow true) 200 [FL, STR] none) (c1 b_) = true := by kernel_rfl
theorem e88_0 : covers (analyze L39 Tryz.f88 (hin 88 noHow true) 200 [CPU, ii (-1) 13] none) (c1 (.int .i64 0 255 none)) = true := by kernel_rfl
theorem e68_0 : covers (analyze L40 Tryz.f68 (hin 68 noHow true) 200 [STR, U8, FL] none) (outB8) = true := by kernel_rfl
theorem e73_0 : covers (analyze L41 Tryz.f73 (hin 73 noHow true) 200 [CPU, STR, U8] none) (outCPU) = true := by kernel_rfl
theorem e54_0 : covers (analyze L42 Tryz.f54 (hin 54 noHow true) 200 [CPU, STR, ii (-1) 13] none) (outCPU) = true := by kernel_rfl
theorem e36_0 : covers (analyze L49 Tryz.f36 (hin 36 noHow true) 200 [CPU, RAMG 0 255] none) (stepOut) = true := by kernel_rfl
theorem e36_2 : covers (analyze L49 Tryz.f36 (hin 36 noHow true) 200 [CPU, RAMG 257 511] none) (stepOut) = true := by kernel_rfl
theorem e36_4 : covers (analyze L49 Tryz.f36 (hin 36 noHow true) 200 [CPU, RAMG 513 1023] none) (stepOut) = true := by kernel_rfl
end Go.Proofs.YtnoelppkcbelcaaGreatDoor.Ty
