import Derived.Test.YtnoelppkcbelcaaGreatDoorTyK
set_option linter.unusedVariables false
set_option linter.unusedSimpArgs false
set_option maxHeartbeats 0
set_option maxRecDepth 100000
namespace Go.Proofs.YtnoelppkcbelcaaGreatDoor.Ty
open Go Go.RowKit
theorem e35_7 : covers (analyze L52 Tryz.f35 (hin 35 noHow true) 200 [RAMG 2048 2048, U16] none) (c1 b_) = true := by kernel_rfl
theorem e35_8 : covers (analyze L52 Tryz.f35 (hin 35 noHow true) 200 [RAMG 2049 4095, U16] none) (c1 b_) = true := by kernel_rfl
theorem e35_9 : covers (analyze L52 Tryz.f35 (hin 35 noHow true) 200 [RAMG 4096 4096, U16] none) (c1 b_) = true := by kernel_rfl
theorem e48_0 : covers (analyze L53 Tryz.f48 (hin 48 noHow true) 200 [cur] none) (c1 sU8) = true := by kernel_rfl
theorem e46_0 : covers (analyze L54 Tryz.f46 (hin 46 noHow true) 200 [cur] none) (c1 sU16) = true := by kernel_rfl
theorem e47_0 : covers (analyze L55 Tryz.f47 (hin 47 noHow true) 200 [cur] none) (outFL) = true := by kernel_rfl
theorem e28_0 : covers (analyze L56 Tryz.f28 (hin 28 noHow true) 200 [cur] none) (outCPU) = true := by kernel_rfl
theorem e31_0 : covers (analyze L59 Tryz.f31 (hin 31 (how1 0 8 300) true) 200 [RAMG 0 255, U16, SB 0 300] none) (ranyOut) = true := by kernel_rfl
theorem e31_1 : covers (analyze L59 Tryz.f31 (hin 31 (how1 0 8 300) true) 200 [RAMG 256 256, U16, SB 0 300] none) (ranyOut) = true := by kernel_rfl
theorem e31_2 : covers (analyze L59 Tryz.f31 (hin 31 (how1 0 8 300) true) 200 [RAMG 257 511, U16, SB 0 300] none) (ranyOut) = true := by kernel_rfl
theorem e31_3 : covers (analyze L59 Tryz.f31 (hin 31 (how1 0 8 300) true) 200 [RAMG 512 512, U16, SB 0 300] none) (ranyOut) = true := by kernel_rfl
theorem e31_4 : covers (analyze L59 Tryz.f31 (hin 31 (how1 0 8 300) true) 200 [RAMG 513 1023, U16, SB 0 300] none) (ranyOut) = true := by kernel_rfl
theorem e31_5 : covers (analyze L59 Tryz.f31 (hin 31 (how1 0 8 300) true) 200 [RAMG 1024 1024, U16, SB 0 300] none) (ranyOut) = true := by kernel_rfl
theorem e31_6 : covers (analyze L59 Tryz.f31 (hin 31 (how1 0 8 300) true) 200 [RAMG 1025 2047, U16, SB 0 300] none) (ranyOut) = true := by kernel_rfl
theorem e31_7 : covers (analyze L59 Tryz.f31 (hin 31 (how1 0 8 300) true) 200 [RAMG 2048 2048, U16, SB 0 300] none) (ranyOut) = true := by kernel_rfl
theorem e31_8 : covers (analyze L59 Tryz.f31 (hin 31 (how1 0 8 300) true) 200 [RAMG 2049 4095, U16, SB 0 300] none) (ranyOut) = true := by kernel_rfl
theorem e31_9 : covers (analyze L59 Tryz.f31 (hin 31 (how1 0 8 300) true) 200 [RAMG 4096 4096, U16, SB 0 300] none) (ranyOut) = true := by kernel_rfl
theorem e27_0 : covers (analyze L60 Tryz.f27 (hin 27 (how1 0 5 4096) true) 200 [cur] none) (ranyOut) = true := by kernel_rfl
theorem e17_0 : covers (analyze L62 Tryz.f17 (hin 17 noHow true) 200 [cur] none) ([⟨.tup [.agg cpC, .agg [.slice [u8] 0 4096 none]], [], none⟩]) = true := by kernel_rfl
theorem e19_0 : covers (analyze L63 Tryz.f19 (hin 19 noHow true) 200 [cur] none) ([⟨.one (.cell (.slice [i64, .bool] 0 3 none)), [], none⟩]) = true := by kernel_rfl
end Go.Proofs.YtnoelppkcbelcaaGreatDoor.Ty
