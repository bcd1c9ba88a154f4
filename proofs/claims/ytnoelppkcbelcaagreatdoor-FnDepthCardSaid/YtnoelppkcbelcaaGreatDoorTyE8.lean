import Derived.Test.YtnoelppkcbelcaaGreatDoorTyK
set_option linter.unusedVariables false
set_option linter.unusedSimpArgs false
set_option maxHeartbeats 0
set_option maxRecDepth 100000
namespace Go.Proofs.YtnoelppkcbelcaaGreatDoor.Ty
open Go Go.RowKit
theorem e36_6 : covers (analyze L49 Tryz.f36 (hin 36 noHow true) 200 [CPU, RAMG 1025 2047] none) (stepOut) = true := by kernel_rfl
theorem e36_8 : covers (analyze L49 Tryz.f36 (hin 36 noHow true) 200 [CPU, RAMG 2049 4095] none) (stepOut) = true := by kernel_rfl
theorem e34_0 : covers (analyze L50 Tryz.f34 (hin 34 noHow true) 200 [CPU, RAMG 0 255, BB] none) (stepOut) = true := by kernel_rfl
theorem e34_1 : covers (analyze L50 Tryz.f34 (hin 34 noHow true) 200 [CPU, RAMG 256 256, BB] none) (stepOut) = true := by kernel_rfl
theorem e34_2 : covers (analyze L50 Tryz.f34 (hin 34 noHow true) 200 [CPU, RAMG 257 511, BB] none) (stepOut) = true := by kernel_rfl
theorem e34_3 : covers (analyze L50 Tryz.f34 (hin 34 noHow true) 200 [CPU, RAMG 512 512, BB] none) (stepOut) = true := by kernel_rfl
theorem e34_4 : covers (analyze L50 Tryz.f34 (hin 34 noHow true) 200 [CPU, RAMG 513 1023, BB] none) (stepOut) = true := by kernel_rfl
theorem e34_5 : covers (analyze L50 Tryz.f34 (hin 34 noHow true) 200 [CPU, RAMG 1024 1024, BB] none) (stepOut) = true := by kernel_rfl
theorem e34_6 : covers (analyze L50 Tryz.f34 (hin 34 noHow true) 200 [CPU, RAMG 1025 2047, BB] none) (stepOut) = true := by kernel_rfl
theorem e34_7 : covers (analyze L50 Tryz.f34 (hin 34 noHow true) 200 [CPU, RAMG 2048 2048, BB] none) (stepOut) = true := by kernel_rfl
theorem e34_8 : covers (analyze L50 Tryz.f34 (hin 34 noHow true) 200 [CPU, RAMG 2049 4095, BB] none) (stepOut) = true := by kernel_rfl
theorem e34_9 : covers (analyze L50 Tryz.f34 (hin 34 noHow true) 200 [CPU, RAMG 4096 4096, BB] none) (stepOut) = true := by kernel_rfl
theorem e33_0 : covers (analyze L51 Tryz.f33 (hin 33 noHow true) 200 [EV, ii 0 20, BB] none) (c1 b_) = true := by kernel_rfl
theorem e35_0 : covers (analyze L52 Tryz.f35 (hin 35 noHow true) 200 [RAMG 0 255, U16] none) (c1 b_) = true := by kernel_rfl
theorem e35_1 : covers (analyze L52 Tryz.f35 (hin 35 noHow true) 200 [RAMG 256 256, U16] none) (c1 b_) = true := by kernel_rfl
theorem e35_2 : covers (analyze L52 Tryz.f35 (hin 35 noHow true) 200 [RAMG 257 511, U16] none) (c1 b_) = true := by kernel_rfl
theorem e35_3 : covers (analyze L52 Tryz.f35 (hin 35 noHow true) 200 [RAMG 512 512, U16] none) (c1 b_) = true := by kernel_rfl
theorem e35_4 : covers (analyze L52 Tryz.f35 (hin 35 noHow true) 200 [RAMG 513 1023, U16] none) (c1 b_) = true := by kernel_rfl
theorem e35_5 : covers (analyze L52 Tryz.f35 (hin 35 noHow true) 200 [RAMG 1024 1024, U16] none) (c1 b_) = true := by kernel_rfl
theorem e35_6 : covers (analyze L52 Tryz.f35 (hin 35 noHow true) 200 [RAMG 1025 2047, U16] none) (c1 b_) = true := by kernel_rfl
end Go.Proofs.YtnoelppkcbelcaaGreatDoor.Ty
