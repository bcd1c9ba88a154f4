import Derived.Test.YtnoelppkcbelcaaTyK
set_option linter.unusedVariables false
set_option linter.unusedSimpArgs false
set_option maxHeartbeats 0
set_option maxRecDepth 100000
namespace Go.Proofs.Ytnoelppkcbelcaa.Ty
open Go Go.RowKit
theorem e85_6 : covers (analyze L49 Try.f85 (hin 85 noHow true) 200 [CPU, RAMG 1025 2047] none) (stepOut) = true := by kernel_rfl
theorem e85_8 : covers (analyze L49 Try.f85 (hin 85 noHow true) 200 [CPU, RAMG 2049 4095] none) (stepOut) = true := by kernel_rfl
theorem e83_0 : covers (analyze L50 Try.f83 (hin 83 noHow true) 200 [CPU, RAMG 0 255, BB] none) (stepOut) = true := by kernel_rfl
theorem e83_1 : covers (analyze L50 Try.f83 (hin 83 noHow true) 200 [CPU, RAMG 256 256, BB] none) (stepOut) = true := by kernel_rfl
theorem e83_2 : covers (analyze L50 Try.f83 (hin 83 noHow true) 200 [CPU, RAMG 257 511, BB] none) (stepOut) = true := by kernel_rfl
theorem e83_3 : covers (analyze L50 Try.f83 (hin 83 noHow true) 200 [CPU, RAMG 512 512, BB] none) (stepOut) = true := by kernel_rfl
theorem e83_4 : covers (analyze L50 Try.f83 (hin 83 noHow true) 200 [CPU, RAMG 513 1023, BB] none) (stepOut) = true := by kernel_rfl
theorem e83_5 : covers (analyze L50 Try.f83 (hin 83 noHow true) 200 [CPU, RAMG 1024 1024, BB] none) (stepOut) = true := by kernel_rfl
theorem e83_6 : covers (analyze L50 Try.f83 (hin 83 noHow true) 200 [CPU, RAMG 1025 2047, BB] none) (stepOut) = true := by kernel_rfl
theorem e83_7 : covers (analyze L50 Try.f83 (hin 83 noHow true) 200 [CPU, RAMG 2048 2048, BB] none) (stepOut) = true := by kernel_rfl
theorem e83_8 : covers (analyze L50 Try.f83 (hin 83 noHow true) 200 [CPU, RAMG 2049 4095, BB] none) (stepOut) = true := by kernel_rfl
theorem e83_9 : covers (analyze L50 Try.f83 (hin 83 noHow true) 200 [CPU, RAMG 4096 4096, BB] none) (stepOut) = true := by kernel_rfl
theorem e82_0 : covers (analyze L51 Try.f82 (hin 82 noHow true) 200 [EV, ii 0 20, BB] none) (c1 b_) = true := by kernel_rfl
theorem e84_0 : covers (analyze L52 Try.f84 (hin 84 noHow true) 200 [RAMG 0 255, U16] none) (c1 b_) = true := by kernel_rfl
theorem e84_1 : covers (analyze L52 Try.f84 (hin 84 noHow true) 200 [RAMG 256 256, U16] none) (c1 b_) = true := by kernel_rfl
theorem e84_2 : covers (analyze L52 Try.f84 (hin 84 noHow true) 200 [RAMG 257 511, U16] none) (c1 b_) = true := by kernel_rfl
theorem e84_3 : covers (analyze L52 Try.f84 (hin 84 noHow true) 200 [RAMG 512 512, U16] none) (c1 b_) = true := by kernel_rfl
theorem e84_4 : covers (analyze L52 Try.f84 (hin 84 noHow true) 200 [RAMG 513 1023, U16] none) (c1 b_) = true := by kernel_rfl
theorem e84_5 : covers (analyze L52 Try.f84 (hin 84 noHow true) 200 [RAMG 1024 1024, U16] none) (c1 b_) = true := by kernel_rfl
theorem e84_6 : covers (analyze L52 Try.f84 (hin 84 noHow true) 200 [RAMG 1025 2047, U16] none) (c1 b_) = true := by kernel_rfl
end Go.Proofs.Ytnoelppkcbelcaa.Ty
