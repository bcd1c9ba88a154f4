import Derived.Test.YtnoelppkcbelcaaTyK
set_option linter.unusedVariables false
set_option linter.unusedSimpArgs false
set_option maxHeartbeats 0
set_option maxRecDepth 100000
namespace Go.Proofs.Ytnoelppkcbelcaa.Ty
open Go Go.RowKit
theorem e84_7 : covers (analyze L52 Try.f84 (hin 84 noHow true) 200 [RAMG 2048 2048, U16] none) (c1 b_) = true := by kernel_rfl
theorem e84_8 : covers (analyze L52 Try.f84 (hin 84 noHow true) 200 [RAMG 2049 4095, U16] none) (c1 b_) = true := by kernel_rfl
theorem e84_9 : covers (analyze L52 Try.f84 (hin 84 noHow true) 200 [RAMG 4096 4096, U16] none) (c1 b_) = true := by kernel_rfl
theorem e92_0 : covers (analyze L53 Try.f92 (hin 92 noHow true) 200 [cur] none) (c1 sU8) = true := by kernel_rfl
theorem e86_0 : covers (analyze L54 Try.f86 (hin 86 noHow true) 200 [cur] none) (c1 sU16) = true := by kernel_rfl
theorem e91_0 : covers (analyze L55 Try.f91 (hin 91 noHow true) 200 [cur] none) (outFL) = true := by kernel_rfl
theorem e77_0 : covers (analyze L56 Try.f77 (hin 77 noHow true) 200 [cur] none) (outCPU) = true := by kernel_rfl
theorem e79_0 : covers (analyze L59 Try.f79 (hin 79 (how1 0 8 300) true) 200 [RAMG 0 255, U16, SB 0 300] none) (ranyOut) = true := by kernel_rfl
theorem e79_1 : covers (analyze L59 Try.f79 (hin 79 (how1 0 8 300) true) 200 [RAMG 256 256, U16, SB 0 300] none) (ranyOut) = true := by kernel_rfl
theorem e79_2 : covers (analyze L59 Try.f79 (hin 79 (how1 0 8 300) true) 200 [RAMG 257 511, U16, SB 0 300] none) (ranyOut) = true := by kernel_rfl
theorem e79_3 : covers (analyze L59 Try.f79 (hin 79 (how1 0 8 300) true) 200 [RAMG 512 512, U16, SB 0 300] none) (ranyOut) = true := by kernel_rfl
theorem e79_4 : covers (analyze L59 Try.f79 (hin 79 (how1 0 8 300) true) 200 [RAMG 513 1023, U16, SB 0 300] none) (ranyOut) = true := by kernel_rfl
theorem e79_5 : covers (analyze L59 Try.f79 (hin 79 (how1 0 8 300) true) 200 [RAMG 1024 1024, U16, SB 0 300] none) (ranyOut) = true := by kernel_rfl
theorem e79_6 : covers (analyze L59 Try.f79 (hin 79 (how1 0 8 300) true) 200 [RAMG 1025 2047, U16, SB 0 300] none) (ranyOut) = true := by kernel_rfl
theorem e79_7 : covers (analyze L59 Try.f79 (hin 79 (how1 0 8 300) true) 200 [RAMG 2048 2048, U16, SB 0 300] none) (ranyOut) = true := by kernel_rfl
theorem e79_8 : covers (analyze L59 Try.f79 (hin 79 (how1 0 8 300) true) 200 [RAMG 2049 4095, U16, SB 0 300] none) (ranyOut) = true := by kernel_rfl
theorem e79_9 : covers (analyze L59 Try.f79 (hin 79 (how1 0 8 300) true) 200 [RAMG 4096 4096, U16, SB 0 300] none) (ranyOut) = true := by kernel_rfl
theorem e76_0 : covers (analyze L60 Try.f76 (hin 76 (how1 0 5 4096) true) 200 [cur] none) (ranyOut) = true := by kernel_rfl
theorem e55_0 : covers (analyze L62 Try.f55 (hin 55 noHow true) 200 [cur] none) ([⟨.tup [.agg cpC, .agg [.slice [u8] 0 4096 none]], [], none⟩]) = true := by kernel_rfl
theorem e57_0 : covers (analyze L63 Try.f57 (hin 57 noHow true) 200 [cur] none) ([⟨.one (.cell (.slice [i64, .bool] 0 3 none)), [], none⟩]) = true := by kernel_rfl
end Go.Proofs.Ytnoelppkcbelcaa.Ty
