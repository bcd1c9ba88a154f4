-- Written by this session's own program (wip/myprint.py) over the kit's print of the translation. Lean checks it.
import Derived.Test.YtidencofapcliaaMCx0
import Derived.Test.YtidencofapcliaaMCx1
namespace Go.Proofs.Ytidencofapcliaa.MC
open Go.RowKit Go.Proofs.YtidencofapcliaaW.PrintWords Go.Proofs.YtidencofapcliaaW.PrintLast Go.Proofs.YtidencofapcliaaW.PrintMore
attribute [local go_sem] max2_int min2_int max_two min_two max_three min_three max_four min_four   -- for this text's walks alone
set_option linter.unusedVariables false
set_option linter.unusedSimpArgs false

/-! ### spec_CpuText: function 18 -/
def spec_CpuText.f (k : Nat) (a0_0 : Int) (a0_1 : Int) (a0_2 : Int) (a0_3 : Int) (a0_4 : Int) (a0_5 : Bool) (a0_6 : Bool) (a0_7 : Bool) (a0_8 : Bool) (a0_9 : Bool) (a0_10 : Bool) : Option (ByteArray) := (spec_HexText.f k (wrap64 (a0_0)) 2).bind fun t114 => (if 2 + t114.size ≤ 9223372036854775807 then (if ((⟨#[65, 61]⟩ : ByteArray) ++ t114).size + 3 ≤ 9223372036854775807 then ((spec_HexText.f k (wrap64 (a0_1)) 2).bind fun t115 => (if (((⟨#[65, 61]⟩ : ByteArray) ++ t114) ++ (⟨#[32, 88, 61]⟩ : ByteArray)).size + t115.size ≤ 9223372036854775807 then (if ((((⟨#[65, 61]⟩ : ByteArray) ++ t114) ++ (⟨#[32, 88, 61]⟩ : ByteArray)) ++ t115).size + 3 ≤ 9223372036854775807 then ((spec_HexText.f k (wrap64 (a0_2)) 2).bind fun t116 => (if (((((⟨#[65, 61]⟩ : ByteArray) ++ t114) ++ (⟨#[32, 88, 61]⟩ : ByteArray)) ++ t115) ++ (⟨#[32, 89, 61]⟩ : ByteArray)).size + t116.size ≤ 9223372036854775807 then (if ((((((⟨#[65, 61]⟩ : ByteArray) ++ t114) ++ (⟨#[32, 88, 61]⟩ : ByteArray)) ++ t115) ++ (⟨#[32, 89, 61]⟩ : ByteArray)) ++ t116).size + 3 ≤ 9223372036854775807 then ((spec_HexText.f k (wrap64 (a0_3)) 2).bind fun t117 => (if (((((((⟨#[65, 61]⟩ : ByteArray) ++ t114) ++ (⟨#[32, 88, 61]⟩ : ByteArray)) ++ t115) ++ (⟨#[32, 89, 61]⟩ : ByteArray)) ++ t116) ++ (⟨#[32, 83, 61]⟩ : ByteArray)).size + t117.size ≤ 9223372036854775807 then (if ((((((((⟨#[65, 61]⟩ : ByteArray) ++ t114) ++ (⟨#[32, 88, 61]⟩ : ByteArray)) ++ t115) ++ (⟨#[32, 89, 61]⟩ : ByteArray)) ++ t116) ++ (⟨#[32, 83, 61]⟩ : ByteArray)) ++ t117).size + 4 ≤ 9223372036854775807 then ((spec_HexText.f k (wrap64 (a0_4)) 4).bind fun t118 => (if (((((((((⟨#[65, 61]⟩ : ByteArray) ++ t114) ++ (⟨#[32, 88, 61]⟩ : ByteArray)) ++ t115) ++ (⟨#[32, 89, 61]⟩ : ByteArray)) ++ t116) ++ (⟨#[32, 83, 61]⟩ : ByteArray)) ++ t117) ++ (⟨#[32, 80, 67, 61]⟩ : ByteArray)).size + t118.size ≤ 9223372036854775807 then (if ((((((((((⟨#[65, 61]⟩ : ByteArray) ++ t114) ++ (⟨#[32, 88, 61]⟩ : ByteArray)) ++ t115) ++ (⟨#[32, 89, 61]⟩ : ByteArray)) ++ t116) ++ (⟨#[32, 83, 61]⟩ : ByteArray)) ++ t117) ++ (⟨#[32, 80, 67, 61]⟩ : ByteArray)) ++ t118).size + 1 ≤ 9223372036854775807 then ((spec_l05Flags.f a0_5 a0_6 a0_7 a0_8 a0_9 a0_10).bind fun t119 => (if (((((((((((⟨#[65, 61]⟩ : ByteArray) ++ t114) ++ (⟨#[32, 88, 61]⟩ : ByteArray)) ++ t115) ++ (⟨#[32, 89, 61]⟩ : ByteArray)) ++ t116) ++ (⟨#[32, 83, 61]⟩ : ByteArray)) ++ t117) ++ (⟨#[32, 80, 67, 61]⟩ : ByteArray)) ++ t118) ++ (⟨#[32]⟩ : ByteArray)).size + t119.size ≤ 9223372036854775807 then (some ((((((((((((⟨#[65, 61]⟩ : ByteArray) ++ t114) ++ (⟨#[32, 88, 61]⟩ : ByteArray)) ++ t115) ++ (⟨#[32, 89, 61]⟩ : ByteArray)) ++ t116) ++ (⟨#[32, 83, 61]⟩ : ByteArray)) ++ t117) ++ (⟨#[32, 80, 67, 61]⟩ : ByteArray)) ++ t118) ++ (⟨#[32]⟩ : ByteArray)) ++ t119)) else (none))) else (none)) else (none))) else (none)) else (none))) else (none)) else (none))) else (none)) else (none))) else (none)) else (none))
theorem spec_CpuText.mono : ∀ a0 a1 a2 a3 a4 a5 a6 a7 a8 a9 a10 k, LeO (spec_CpuText.f k a0 a1 a2 a3 a4 a5 a6 a7 a8 a9 a10) (spec_CpuText.f (k + 1) a0 a1 a2 a3 a4 a5 a6 a7 a8 a9 a10) := by
 intro a0 a1 a2 a3 a4 a5 a6 a7 a8 a9 a10 k
 unfold spec_CpuText.f
 repeat' first
   | (with_reducible exact spec_HexText.mono _ _ _)
   | (with_reducible exact LeO.refl _)
   | (with_reducible exact LeO.none _)
   | (with_reducible refine LeO.ite ?_ ?_)
   | (with_reducible refine LeO.bind ?_ (fun _ => ?_))
   | exact spec_HexText.mono _ _ _
   | exact LeO.none _
   | refine LeO.ite ?_ ?_
   | refine LeO.bind ?_ (fun _ => ?_)
def spec_CpuText.T1 : Bool × List (List Nat × List Nat) := (true, [([], []), ([0], [0]), ([1], [1]), ([2], [2]), ([3], [3]), ([4], [4]), ([], []), ([6], [6]), ([7], [7]), ([8, 3], [8]), ([5, 9], [5, 9]), ([10], [10]), ([], []), ([12], [12]), ([13], [13]), ([14, 9], [14]), ([11, 15], [11, 15]), ([16], [16]), ([], []), ([18], [18]), ([19], [19]), ([20, 15], [20]), ([17, 21], [17, 21]), ([22], [22]), ([], []), ([24], [24]), ([25], [25]), ([26, 21], [26]), ([23, 27], [23, 27]), ([28], [28]), ([], []), ([30], [30]), ([31, 27], [31]), ([29, 32], [29, 32]), ([33, 32, 0, 1, 2, 3, 4, 5, 6, 7, 8, 9, 10, 11, 12, 13, 14, 15, 16, 17, 18, 19, 20, 21, 22, 23, 24, 25, 26, 27, 28, 29, 30, 31, 32, 33], [33])])
def spec_CpuText.B1 : List Nat := [0, 1, 3, 7, 15, 31, 0, 64, 192, 463, 1023, 2047, 0, 4096, 12288, 29647, 65535, 131071, 0, 262144, 786432, 1897423, 4194303, 8388607, 0, 16777216, 50331648, 121435087, 268435455, 536870911, 0, 1073741824, 3476878287, 8589934591, 17179869183]
theorem spec_CpuText.tab1 : rtab .any (opsOf Try.f18 1) = spec_CpuText.T1 := by kernel_rfl
theorem spec_CpuText.bits1 : waitsOk spec_CpuText.T1.2 spec_CpuText.B1 = true := by kernel_rfl
set_option maxHeartbeats 8000000 in
set_option maxRecDepth 100000 in
theorem spec_CpuText.calls (k : Nat) (a0_0 : Int) (a0_1 : Int) (a0_2 : Int) (a0_3 : Int) (a0_4 : Int) (a0_5 : Bool) (a0_6 : Bool) (a0_7 : Bool) (a0_8 : Bool) (a0_9 : Bool) (a0_10 : Bool) (r : ByteArray) (w : World) (h : spec_CpuText.f k a0_0 a0_1 a0_2 a0_3 a0_4 a0_5 a0_6 a0_7 a0_8 a0_9 a0_10 = some r) :
  Calls Try.prog 18 #[.agg #[.int .u8 a0_0, .int .u8 a0_1, .int .u8 a0_2, .int .u8 a0_3, .int .u16 a0_4, .bool a0_5, .bool a0_6, .bool a0_7, .bool a0_8, .bool a0_9, .bool a0_10]] w fun e w' => e = .returned (.string r) ∧ Below w.heap.size w w' := by
 have hu32 := Try.underlying32
 have hu30 := Try.underlying30
 have HB := Aside0.mk (Below.refl w.heap.size w)
 have H : ((spec_HexText.f k (wrap64 (a0_0)) 2).bind fun t114 => (if 2 + t114.size ≤ 9223372036854775807 then (if ((⟨#[65, 61]⟩ : ByteArray) ++ t114).size + 3 ≤ 9223372036854775807 then ((spec_HexText.f k (wrap64 (a0_1)) 2).bind fun t115 => (if (((⟨#[65, 61]⟩ : ByteArray) ++ t114) ++ (⟨#[32, 88, 61]⟩ : ByteArray)).size + t115.size ≤ 9223372036854775807 then (if ((((⟨#[65, 61]⟩ : ByteArray) ++ t114) ++ (⟨#[32, 88, 61]⟩ : ByteArray)) ++ t115).size + 3 ≤ 9223372036854775807 then ((spec_HexText.f k (wrap64 (a0_2)) 2).bind fun t116 => (if (((((⟨#[65, 61]⟩ : ByteArray) ++ t114) ++ (⟨#[32, 88, 61]⟩ : ByteArray)) ++ t115) ++ (⟨#[32, 89, 61]⟩ : ByteArray)).size + t116.size ≤ 9223372036854775807 then (if ((((((⟨#[65, 61]⟩ : ByteArray) ++ t114) ++ (⟨#[32, 88, 61]⟩ : ByteArray)) ++ t115) ++ (⟨#[32, 89, 61]⟩ : ByteArray)) ++ t116).size + 3 ≤ 9223372036854775807 then ((spec_HexText.f k (wrap64 (a0_3)) 2).bind fun t117 => (if (((((((⟨#[65, 61]⟩ : ByteArray) ++ t114) ++ (⟨#[32, 88, 61]⟩ : ByteArray)) ++ t115) ++ (⟨#[32, 89, 61]⟩ : ByteArray)) ++ t116) ++ (⟨#[32, 83, 61]⟩ : ByteArray)).size + t117.size ≤ 9223372036854775807 then (if ((((((((⟨#[65, 61]⟩ : ByteArray) ++ t114) ++ (⟨#[32, 88, 61]⟩ : ByteArray)) ++ t115) ++ (⟨#[32, 89, 61]⟩ : ByteArray)) ++ t116) ++ (⟨#[32, 83, 61]⟩ : ByteArray)) ++ t117).size + 4 ≤ 9223372036854775807 then ((spec_HexText.f k (wrap64 (a0_4)) 4).bind fun t118 => (if (((((((((⟨#[65, 61]⟩ : ByteArray) ++ t114) ++ (⟨#[32, 88, 61]⟩ : ByteArray)) ++ t115) ++ (⟨#[32, 89, 61]⟩ : ByteArray)) ++ t116) ++ (⟨#[32, 83, 61]⟩ : ByteArray)) ++ t117) ++ (⟨#[32, 80, 67, 61]⟩ : ByteArray)).size + t118.size ≤ 9223372036854775807 then (if ((((((((((⟨#[65, 61]⟩ : ByteArray) ++ t114) ++ (⟨#[32, 88, 61]⟩ : ByteArray)) ++ t115) ++ (⟨#[32, 89, 61]⟩ : ByteArray)) ++ t116) ++ (⟨#[32, 83, 61]⟩ : ByteArray)) ++ t117) ++ (⟨#[32, 80, 67, 61]⟩ : ByteArray)) ++ t118).size + 1 ≤ 9223372036854775807 then ((spec_l05Flags.f a0_5 a0_6 a0_7 a0_8 a0_9 a0_10).bind fun t119 => (if (((((((((((⟨#[65, 61]⟩ : ByteArray) ++ t114) ++ (⟨#[32, 88, 61]⟩ : ByteArray)) ++ t115) ++ (⟨#[32, 89, 61]⟩ : ByteArray)) ++ t116) ++ (⟨#[32, 83, 61]⟩ : ByteArray)) ++ t117) ++ (⟨#[32, 80, 67, 61]⟩ : ByteArray)) ++ t118) ++ (⟨#[32]⟩ : ByteArray)).size + t119.size ≤ 9223372036854775807 then (some ((((((((((((⟨#[65, 61]⟩ : ByteArray) ++ t114) ++ (⟨#[32, 88, 61]⟩ : ByteArray)) ++ t115) ++ (⟨#[32, 89, 61]⟩ : ByteArray)) ++ t116) ++ (⟨#[32, 83, 61]⟩ : ByteArray)) ++ t117) ++ (⟨#[32, 80, 67, 61]⟩ : ByteArray)) ++ t118) ++ (⟨#[32]⟩ : ByteArray)) ++ t119)) else (none))) else (none)) else (none))) else (none)) else (none))) else (none)) else (none))) else (none)) else (none))) else (none)) else (none))) = some r := h
 clear h
 replace H := Option.bind_eq_some_iff.mp H
 obtain ⟨t114, A20, H⟩ := H
 replace H : (if 2 + t114.size ≤ 9223372036854775807 then (if ((⟨#[65, 61]⟩ : ByteArray) ++ t114).size + 3 ≤ 9223372036854775807 then ((spec_HexText.f k (wrap64 (a0_1)) 2).bind fun t115 => (if (((⟨#[65, 61]⟩ : ByteArray) ++ t114) ++ (⟨#[32, 88, 61]⟩ : ByteArray)).size + t115.size ≤ 9223372036854775807 then (if ((((⟨#[65, 61]⟩ : ByteArray) ++ t114) ++ (⟨#[32, 88, 61]⟩ : ByteArray)) ++ t115).size + 3 ≤ 9223372036854775807 then ((spec_HexText.f k (wrap64 (a0_2)) 2).bind fun t116 => (if (((((⟨#[65, 61]⟩ : ByteArray) ++ t114) ++ (⟨#[32, 88, 61]⟩ : ByteArray)) ++ t115) ++ (⟨#[32, 89, 61]⟩ : ByteArray)).size + t116.size ≤ 9223372036854775807 then (if ((((((⟨#[65, 61]⟩ : ByteArray) ++ t114) ++ (⟨#[32, 88, 61]⟩ : ByteArray)) ++ t115) ++ (⟨#[32, 89, 61]⟩ : ByteArray)) ++ t116).size + 3 ≤ 9223372036854775807 then ((spec_HexText.f k (wrap64 (a0_3)) 2).bind fun t117 => (if (((((((⟨#[65, 61]⟩ : ByteArray) ++ t114) ++ (⟨#[32, 88, 61]⟩ : ByteArray)) ++ t115) ++ (⟨#[32, 89, 61]⟩ : ByteArray)) ++ t116) ++ (⟨#[32, 83, 61]⟩ : ByteArray)).size + t117.size ≤ 9223372036854775807 then (if ((((((((⟨#[65, 61]⟩ : ByteArray) ++ t114) ++ (⟨#[32, 88, 61]⟩ : ByteArray)) ++ t115) ++ (⟨#[32, 89, 61]⟩ : ByteArray)) ++ t116) ++ (⟨#[32, 83, 61]⟩ : ByteArray)) ++ t117).size + 4 ≤ 9223372036854775807 then ((spec_HexText.f k (wrap64 (a0_4)) 4).bind fun t118 => (if (((((((((⟨#[65, 61]⟩ : ByteArray) ++ t114) ++ (⟨#[32, 88, 61]⟩ : ByteArray)) ++ t115) ++ (⟨#[32, 89, 61]⟩ : ByteArray)) ++ t116) ++ (⟨#[32, 83, 61]⟩ : ByteArray)) ++ t117) ++ (⟨#[32, 80, 67, 61]⟩ : ByteArray)).size + t118.size ≤ 9223372036854775807 then (if ((((((((((⟨#[65, 61]⟩ : ByteArray) ++ t114) ++ (⟨#[32, 88, 61]⟩ : ByteArray)) ++ t115) ++ (⟨#[32, 89, 61]⟩ : ByteArray)) ++ t116) ++ (⟨#[32, 83, 61]⟩ : ByteArray)) ++ t117) ++ (⟨#[32, 80, 67, 61]⟩ : ByteArray)) ++ t118).size + 1 ≤ 9223372036854775807 then ((spec_l05Flags.f a0_5 a0_6 a0_7 a0_8 a0_9 a0_10).bind fun t119 => (if (((((((((((⟨#[65, 61]⟩ : ByteArray) ++ t114) ++ (⟨#[32, 88, 61]⟩ : ByteArray)) ++ t115) ++ (⟨#[32, 89, 61]⟩ : ByteArray)) ++ t116) ++ (⟨#[32, 83, 61]⟩ : ByteArray)) ++ t117) ++ (⟨#[32, 80, 67, 61]⟩ : ByteArray)) ++ t118) ++ (⟨#[32]⟩ : ByteArray)).size + t119.size ≤ 9223372036854775807 then (some ((((((((((((⟨#[65, 61]⟩ : ByteArray) ++ t114) ++ (⟨#[32, 88, 61]⟩ : ByteArray)) ++ t115) ++ (⟨#[32, 89, 61]⟩ : ByteArray)) ++ t116) ++ (⟨#[32, 83, 61]⟩ : ByteArray)) ++ t117) ++ (⟨#[32, 80, 67, 61]⟩ : ByteArray)) ++ t118) ++ (⟨#[32]⟩ : ByteArray)) ++ t119)) else (none))) else (none)) else (none))) else (none)) else (none))) else (none)) else (none))) else (none)) else (none))) else (none)) else (none)) = some r := H
 have A2 := Aside0.mk A20
 clear A20
 by_cases c3 : 2 + t114.size ≤ 9223372036854775807
 ·rw [if_pos c3] at H
  have c3b0 := eq_true c3
  have c3b1 : decide (2 + t114.size ≤ 9223372036854775807) = true := decide_eq_true c3
  try have c3b2 : (9223372036854775807 < 2 + t114.size) = False := eq_false (Nat.not_lt.2 c3)
  try (have c3b3 := c3; simp at c3b3; have c3b4 := eq_true c3b3; have c3b5 := decide_eq_true c3b3; have c3b6 := eq_false (Nat.not_lt.2 c3b3))
  by_cases c4 : ((⟨#[65, 61]⟩ : ByteArray) ++ t114).size + 3 ≤ 9223372036854775807
  ·rw [if_pos c4] at H
   have c4b0 := eq_true c4
   have c4b1 : decide (((⟨#[65, 61]⟩ : ByteArray) ++ t114).size + 3 ≤ 9223372036854775807) = true := decide_eq_true c4
   try have c4b2 : (9223372036854775807 < ((⟨#[65, 61]⟩ : ByteArray) ++ t114).size + 3) = False := eq_false (Nat.not_lt.2 c4)
   try (have c4b3 := c4; simp at c4b3; have c4b4 := eq_true c4b3; have c4b5 := decide_eq_true c4b3; have c4b6 := eq_false (Nat.not_lt.2 c4b3))
   have c4b7 : 2 + t114.size + 3 ≤ 9223372036854775807 := by have h_ := c4; simp only [ByteArray.size_append] at h_; exact h_
   have c4b8 := eq_false (Nat.not_lt.2 c4b7)
   replace c4b7 := eq_true c4b7
   replace H := Option.bind_eq_some_iff.mp H
   obtain ⟨t115, A50, H⟩ := H
   replace H : (if (((⟨#[65, 61]⟩ : ByteArray) ++ t114) ++ (⟨#[32, 88, 61]⟩ : ByteArray)).size + t115.size ≤ 9223372036854775807 then (if ((((⟨#[65, 61]⟩ : ByteArray) ++ t114) ++ (⟨#[32, 88, 61]⟩ : ByteArray)) ++ t115).size + 3 ≤ 9223372036854775807 then ((spec_HexText.f k (wrap64 (a0_2)) 2).bind fun t116 => (if (((((⟨#[65, 61]⟩ : ByteArray) ++ t114) ++ (⟨#[32, 88, 61]⟩ : ByteArray)) ++ t115) ++ (⟨#[32, 89, 61]⟩ : ByteArray)).size + t116.size ≤ 9223372036854775807 then (if ((((((⟨#[65, 61]⟩ : ByteArray) ++ t114) ++ (⟨#[32, 88, 61]⟩ : ByteArray)) ++ t115) ++ (⟨#[32, 89, 61]⟩ : ByteArray)) ++ t116).size + 3 ≤ 9223372036854775807 then ((spec_HexText.f k (wrap64 (a0_3)) 2).bind fun t117 => (if (((((((⟨#[65, 61]⟩ : ByteArray) ++ t114) ++ (⟨#[32, 88, 61]⟩ : ByteArray)) ++ t115) ++ (⟨#[32, 89, 61]⟩ : ByteArray)) ++ t116) ++ (⟨#[32, 83, 61]⟩ : ByteArray)).size + t117.size ≤ 9223372036854775807 then (if ((((((((⟨#[65, 61]⟩ : ByteArray) ++ t114) ++ (⟨#[32, 88, 61]⟩ : ByteArray)) ++ t115) ++ (⟨#[32, 89, 61]⟩ : ByteArray)) ++ t116) ++ (⟨#[32, 83, 61]⟩ : ByteArray)) ++ t117).size + 4 ≤ 9223372036854775807 then ((spec_HexText.f k (wrap64 (a0_4)) 4).bind fun t118 => (if (((((((((⟨#[65, 61]⟩ : ByteArray) ++ t114) ++ (⟨#[32, 88, 61]⟩ : ByteArray)) ++ t115) ++ (⟨#[32, 89, 61]⟩ : ByteArray)) ++ t116) ++ (⟨#[32, 83, 61]⟩ : ByteArray)) ++ t117) ++ (⟨#[32, 80, 67, 61]⟩ : ByteArray)).size + t118.size ≤ 9223372036854775807 then (if ((((((((((⟨#[65, 61]⟩ : ByteArray) ++ t114) ++ (⟨#[32, 88, 61]⟩ : ByteArray)) ++ t115) ++ (⟨#[32, 89, 61]⟩ : ByteArray)) ++ t116) ++ (⟨#[32, 83, 61]⟩ : ByteArray)) ++ t117) ++ (⟨#[32, 80, 67, 61]⟩ : ByteArray)) ++ t118).size + 1 ≤ 9223372036854775807 then ((spec_l05Flags.f a0_5 a0_6 a0_7 a0_8 a0_9 a0_10).bind fun t119 => (if (((((((((((⟨#[65, 61]⟩ : ByteArray) ++ t114) ++ (⟨#[32, 88, 61]⟩ : ByteArray)) ++ t115) ++ (⟨#[32, 89, 61]⟩ : ByteArray)) ++ t116) ++ (⟨#[32, 83, 61]⟩ : ByteArray)) ++ t117) ++ (⟨#[32, 80, 67, 61]⟩ : ByteArray)) ++ t118) ++ (⟨#[32]⟩ : ByteArray)).size + t119.size ≤ 9223372036854775807 then (some ((((((((((((⟨#[65, 61]⟩ : ByteArray) ++ t114) ++ (⟨#[32, 88, 61]⟩ : ByteArray)) ++ t115) ++ (⟨#[32, 89, 61]⟩ : ByteArray)) ++ t116) ++ (⟨#[32, 83, 61]⟩ : ByteArray)) ++ t117) ++ (⟨#[32, 80, 67, 61]⟩ : ByteArray)) ++ t118) ++ (⟨#[32]⟩ : ByteArray)) ++ t119)) else (none))) else (none)) else (none))) else (none)) else (none))) else (none)) else (none))) else (none)) else (none)) = some r := H
   have A5 := Aside0.mk A50
   clear A50
   by_cases c6 : (((⟨#[65, 61]⟩ : ByteArray) ++ t114) ++ (⟨#[32, 88, 61]⟩ : ByteArray)).size + t115.size ≤ 9223372036854775807
   ·rw [if_pos c6] at H
    have c6b0 := eq_true c6
    have c6b1 : decide ((((⟨#[65, 61]⟩ : ByteArray) ++ t114) ++ (⟨#[32, 88, 61]⟩ : ByteArray)).size + t115.size ≤ 9223372036854775807) = true := decide_eq_true c6
    try have c6b2 : (9223372036854775807 < (((⟨#[65, 61]⟩ : ByteArray) ++ t114) ++ (⟨#[32, 88, 61]⟩ : ByteArray)).size + t115.size) = False := eq_false (Nat.not_lt.2 c6)
    try (have c6b3 := c6; simp at c6b3; have c6b4 := eq_true c6b3; have c6b5 := decide_eq_true c6b3; have c6b6 := eq_false (Nat.not_lt.2 c6b3))
    have c6b7 : 2 + t114.size + 3 + t115.size ≤ 9223372036854775807 := by have h_ := c6; simp only [ByteArray.size_append] at h_; exact h_
    have c6b8 := eq_false (Nat.not_lt.2 c6b7)
    replace c6b7 := eq_true c6b7
    by_cases c7 : ((((⟨#[65, 61]⟩ : ByteArray) ++ t114) ++ (⟨#[32, 88, 61]⟩ : ByteArray)) ++ t115).size + 3 ≤ 9223372036854775807
    ·rw [if_pos c7] at H
     have c7b0 := eq_true c7
     have c7b1 : decide (((((⟨#[65, 61]⟩ : ByteArray) ++ t114) ++ (⟨#[32, 88, 61]⟩ : ByteArray)) ++ t115).size + 3 ≤ 9223372036854775807) = true := decide_eq_true c7
     try have c7b2 : (9223372036854775807 < ((((⟨#[65, 61]⟩ : ByteArray) ++ t114) ++ (⟨#[32, 88, 61]⟩ : ByteArray)) ++ t115).size + 3) = False := eq_false (Nat.not_lt.2 c7)
     try (have c7b3 := c7; simp at c7b3; have c7b4 := eq_true c7b3; have c7b5 := decide_eq_true c7b3; have c7b6 := eq_false (Nat.not_lt.2 c7b3))
     have c7b7 : 2 + t114.size + 3 + t115.size + 3 ≤ 9223372036854775807 := by have h_ := c7; simp only [ByteArray.size_append] at h_; exact h_
     have c7b8 := eq_false (Nat.not_lt.2 c7b7)
     replace c7b7 := eq_true c7b7
     replace H := Option.bind_eq_some_iff.mp H
     obtain ⟨t116, A80, H⟩ := H
     replace H : (if (((((⟨#[65, 61]⟩ : ByteArray) ++ t114) ++ (⟨#[32, 88, 61]⟩ : ByteArray)) ++ t115) ++ (⟨#[32, 89, 61]⟩ : ByteArray)).size + t116.size ≤ 9223372036854775807 then (if ((((((⟨#[65, 61]⟩ : ByteArray) ++ t114) ++ (⟨#[32, 88, 61]⟩ : ByteArray)) ++ t115) ++ (⟨#[32, 89, 61]⟩ : ByteArray)) ++ t116).size + 3 ≤ 9223372036854775807 then ((spec_HexText.f k (wrap64 (a0_3)) 2).bind fun t117 => (if (((((((⟨#[65, 61]⟩ : ByteArray) ++ t114) ++ (⟨#[32, 88, 61]⟩ : ByteArray)) ++ t115) ++ (⟨#[32, 89, 61]⟩ : ByteArray)) ++ t116) ++ (⟨#[32, 83, 61]⟩ : ByteArray)).size + t117.size ≤ 9223372036854775807 then (if ((((((((⟨#[65, 61]⟩ : ByteArray) ++ t114) ++ (⟨#[32, 88, 61]⟩ : ByteArray)) ++ t115) ++ (⟨#[32, 89, 61]⟩ : ByteArray)) ++ t116) ++ (⟨#[32, 83, 61]⟩ : ByteArray)) ++ t117).size + 4 ≤ 9223372036854775807 then ((spec_HexText.f k (wrap64 (a0_4)) 4).bind fun t118 => (if (((((((((⟨#[65, 61]⟩ : ByteArray) ++ t114) ++ (⟨#[32, 88, 61]⟩ : ByteArray)) ++ t115) ++ (⟨#[32, 89, 61]⟩ : ByteArray)) ++ t116) ++ (⟨#[32, 83, 61]⟩ : ByteArray)) ++ t117) ++ (⟨#[32, 80, 67, 61]⟩ : ByteArray)).size + t118.size ≤ 9223372036854775807 then (if ((((((((((⟨#[65, 61]⟩ : ByteArray) ++ t114) ++ (⟨#[32, 88, 61]⟩ : ByteArray)) ++ t115) ++ (⟨#[32, 89, 61]⟩ : ByteArray)) ++ t116) ++ (⟨#[32, 83, 61]⟩ : ByteArray)) ++ t117) ++ (⟨#[32, 80, 67, 61]⟩ : ByteArray)) ++ t118).size + 1 ≤ 9223372036854775807 then ((spec_l05Flags.f a0_5 a0_6 a0_7 a0_8 a0_9 a0_10).bind fun t119 => (if (((((((((((⟨#[65, 61]⟩ : ByteArray) ++ t114) ++ (⟨#[32, 88, 61]⟩ : ByteArray)) ++ t115) ++ (⟨#[32, 89, 61]⟩ : ByteArray)) ++ t116) ++ (⟨#[32, 83, 61]⟩ : ByteArray)) ++ t117) ++ (⟨#[32, 80, 67, 61]⟩ : ByteArray)) ++ t118) ++ (⟨#[32]⟩ : ByteArray)).size + t119.size ≤ 9223372036854775807 then (some ((((((((((((⟨#[65, 61]⟩ : ByteArray) ++ t114) ++ (⟨#[32, 88, 61]⟩ : ByteArray)) ++ t115) ++ (⟨#[32, 89, 61]⟩ : ByteArray)) ++ t116) ++ (⟨#[32, 83, 61]⟩ : ByteArray)) ++ t117) ++ (⟨#[32, 80, 67, 61]⟩ : ByteArray)) ++ t118) ++ (⟨#[32]⟩ : ByteArray)) ++ t119)) else (none))) else (none)) else (none))) else (none)) else (none))) else (none)) else (none)) = some r := H
     have A8 := Aside0.mk A80
     clear A80
     by_cases c9 : (((((⟨#[65, 61]⟩ : ByteArray) ++ t114) ++ (⟨#[32, 88, 61]⟩ : ByteArray)) ++ t115) ++ (⟨#[32, 89, 61]⟩ : ByteArray)).size + t116.size ≤ 9223372036854775807
     ·rw [if_pos c9] at H
      have c9b0 := eq_true c9
      have c9b1 : decide ((((((⟨#[65, 61]⟩ : ByteArray) ++ t114) ++ (⟨#[32, 88, 61]⟩ : ByteArray)) ++ t115) ++ (⟨#[32, 89, 61]⟩ : ByteArray)).size + t116.size ≤ 9223372036854775807) = true := decide_eq_true c9
      try have c9b2 : (9223372036854775807 < (((((⟨#[65, 61]⟩ : ByteArray) ++ t114) ++ (⟨#[32, 88, 61]⟩ : ByteArray)) ++ t115) ++ (⟨#[32, 89, 61]⟩ : ByteArray)).size + t116.size) = False := eq_false (Nat.not_lt.2 c9)
      try (have c9b3 := c9; simp at c9b3; have c9b4 := eq_true c9b3; have c9b5 := decide_eq_true c9b3; have c9b6 := eq_false (Nat.not_lt.2 c9b3))
      have c9b7 : 2 + t114.size + 3 + t115.size + 3 + t116.size ≤ 9223372036854775807 := by have h_ := c9; simp only [ByteArray.size_append] at h_; exact h_
      have c9b8 := eq_false (Nat.not_lt.2 c9b7)
      replace c9b7 := eq_true c9b7
      by_cases c10 : ((((((⟨#[65, 61]⟩ : ByteArray) ++ t114) ++ (⟨#[32, 88, 61]⟩ : ByteArray)) ++ t115) ++ (⟨#[32, 89, 61]⟩ : ByteArray)) ++ t116).size + 3 ≤ 9223372036854775807
      ·rw [if_pos c10] at H
       have c10b0 := eq_true c10
       have c10b1 : decide (((((((⟨#[65, 61]⟩ : ByteArray) ++ t114) ++ (⟨#[32, 88, 61]⟩ : ByteArray)) ++ t115) ++ (⟨#[32, 89, 61]⟩ : ByteArray)) ++ t116).size + 3 ≤ 9223372036854775807) = true := decide_eq_true c10
       try have c10b2 : (9223372036854775807 < ((((((⟨#[65, 61]⟩ : ByteArray) ++ t114) ++ (⟨#[32, 88, 61]⟩ : ByteArray)) ++ t115) ++ (⟨#[32, 89, 61]⟩ : ByteArray)) ++ t116).size + 3) = False := eq_false (Nat.not_lt.2 c10)
       try (have c10b3 := c10; simp at c10b3; have c10b4 := eq_true c10b3; have c10b5 := decide_eq_true c10b3; have c10b6 := eq_false (Nat.not_lt.2 c10b3))
       have c10b7 : 2 + t114.size + 3 + t115.size + 3 + t116.size + 3 ≤ 9223372036854775807 := by have h_ := c10; simp only [ByteArray.size_append] at h_; exact h_
       have c10b8 := eq_false (Nat.not_lt.2 c10b7)
       replace c10b7 := eq_true c10b7
       replace H := Option.bind_eq_some_iff.mp H
       obtain ⟨t117, A110, H⟩ := H
       replace H : (if (((((((⟨#[65, 61]⟩ : ByteArray) ++ t114) ++ (⟨#[32, 88, 61]⟩ : ByteArray)) ++ t115) ++ (⟨#[32, 89, 61]⟩ : ByteArray)) ++ t116) ++ (⟨#[32, 83, 61]⟩ : ByteArray)).size + t117.size ≤ 9223372036854775807 then (if ((((((((⟨#[65, 61]⟩ : ByteArray) ++ t114) ++ (⟨#[32, 88, 61]⟩ : ByteArray)) ++ t115) ++ (⟨#[32, 89, 61]⟩ : ByteArray)) ++ t116) ++ (⟨#[32, 83, 61]⟩ : ByteArray)) ++ t117).size + 4 ≤ 9223372036854775807 then ((spec_HexText.f k (wrap64 (a0_4)) 4).bind fun t118 => (if (((((((((⟨#[65, 61]⟩ : ByteArray) ++ t114) ++ (⟨#[32, 88, 61]⟩ : ByteArray)) ++ t115) ++ (⟨#[32, 89, 61]⟩ : ByteArray)) ++ t116) ++ (⟨#[32, 83, 61]⟩ : ByteArray)) ++ t117) ++ (⟨#[32, 80, 67, 61]⟩ : ByteArray)).size + t118.size ≤ 9223372036854775807 then (if ((((((((((⟨#[65, 61]⟩ : ByteArray) ++ t114) ++ (⟨#[32, 88, 61]⟩ : ByteArray)) ++ t115) ++ (⟨#[32, 89, 61]⟩ : ByteArray)) ++ t116) ++ (⟨#[32, 83, 61]⟩ : ByteArray)) ++ t117) ++ (⟨#[32, 80, 67, 61]⟩ : ByteArray)) ++ t118).size + 1 ≤ 9223372036854775807 then ((spec_l05Flags.f a0_5 a0_6 a0_7 a0_8 a0_9 a0_10).bind fun t119 => (if (((((((((((⟨#[65, 61]⟩ : ByteArray) ++ t114) ++ (⟨#[32, 88, 61]⟩ : ByteArray)) ++ t115) ++ (⟨#[32, 89, 61]⟩ : ByteArray)) ++ t116) ++ (⟨#[32, 83, 61]⟩ : ByteArray)) ++ t117) ++ (⟨#[32, 80, 67, 61]⟩ : ByteArray)) ++ t118) ++ (⟨#[32]⟩ : ByteArray)).size + t119.size ≤ 9223372036854775807 then (some ((((((((((((⟨#[65, 61]⟩ : ByteArray) ++ t114) ++ (⟨#[32, 88, 61]⟩ : ByteArray)) ++ t115) ++ (⟨#[32, 89, 61]⟩ : ByteArray)) ++ t116) ++ (⟨#[32, 83, 61]⟩ : ByteArray)) ++ t117) ++ (⟨#[32, 80, 67, 61]⟩ : ByteArray)) ++ t118) ++ (⟨#[32]⟩ : ByteArray)) ++ t119)) else (none))) else (none)) else (none))) else (none)) else (none)) = some r := H
       have A11 := Aside0.mk A110
       clear A110
       by_cases c12 : (((((((⟨#[65, 61]⟩ : ByteArray) ++ t114) ++ (⟨#[32, 88, 61]⟩ : ByteArray)) ++ t115) ++ (⟨#[32, 89, 61]⟩ : ByteArray)) ++ t116) ++ (⟨#[32, 83, 61]⟩ : ByteArray)).size + t117.size ≤ 9223372036854775807
       ·rw [if_pos c12] at H
        have c12b0 := eq_true c12
        have c12b1 : decide ((((((((⟨#[65, 61]⟩ : ByteArray) ++ t114) ++ (⟨#[32, 88, 61]⟩ : ByteArray)) ++ t115) ++ (⟨#[32, 89, 61]⟩ : ByteArray)) ++ t116) ++ (⟨#[32, 83, 61]⟩ : ByteArray)).size + t117.size ≤ 9223372036854775807) = true := decide_eq_true c12
        try have c12b2 : (9223372036854775807 < (((((((⟨#[65, 61]⟩ : ByteArray) ++ t114) ++ (⟨#[32, 88, 61]⟩ : ByteArray)) ++ t115) ++ (⟨#[32, 89, 61]⟩ : ByteArray)) ++ t116) ++ (⟨#[32, 83, 61]⟩ : ByteArray)).size + t117.size) = False := eq_false (Nat.not_lt.2 c12)
        try (have c12b3 := c12; simp at c12b3; have c12b4 := eq_true c12b3; have c12b5 := decide_eq_true c12b3; have c12b6 := eq_false (Nat.not_lt.2 c12b3))
        have c12b7 : 2 + t114.size + 3 + t115.size + 3 + t116.size + 3 + t117.size ≤ 9223372036854775807 := by have h_ := c12; simp only [ByteArray.size_append] at h_; exact h_
        have c12b8 := eq_false (Nat.not_lt.2 c12b7)
        replace c12b7 := eq_true c12b7
        by_cases c13 : ((((((((⟨#[65, 61]⟩ : ByteArray) ++ t114) ++ (⟨#[32, 88, 61]⟩ : ByteArray)) ++ t115) ++ (⟨#[32, 89, 61]⟩ : ByteArray)) ++ t116) ++ (⟨#[32, 83, 61]⟩ : ByteArray)) ++ t117).size + 4 ≤ 9223372036854775807
        ·rw [if_pos c13] at H
         have c13b0 := eq_true c13
         have c13b1 : decide (((((((((⟨#[65, 61]⟩ : ByteArray) ++ t114) ++ (⟨#[32, 88, 61]⟩ : ByteArray)) ++ t115) ++ (⟨#[32, 89, 61]⟩ : ByteArray)) ++ t116) ++ (⟨#[32, 83, 61]⟩ : ByteArray)) ++ t117).size + 4 ≤ 9223372036854775807) = true := decide_eq_true c13
         try have c13b2 : (9223372036854775807 < ((((((((⟨#[65, 61]⟩ : ByteArray) ++ t114) ++ (⟨#[32, 88, 61]⟩ : ByteArray)) ++ t115) ++ (⟨#[32, 89, 61]⟩ : ByteArray)) ++ t116) ++ (⟨#[32, 83, 61]⟩ : ByteArray)) ++ t117).size + 4) = False := eq_false (Nat.not_lt.2 c13)
         try (have c13b3 := c13; simp at c13b3; have c13b4 := eq_true c13b3; have c13b5 := decide_eq_true c13b3; have c13b6 := eq_false (Nat.not_lt.2 c13b3))
         have c13b7 : 2 + t114.size + 3 + t115.size + 3 + t116.size + 3 + t117.size + 4 ≤ 9223372036854775807 := by have h_ := c13; simp only [ByteArray.size_append] at h_; exact h_
         have c13b8 := eq_false (Nat.not_lt.2 c13b7)
         replace c13b7 := eq_true c13b7
         replace H := Option.bind_eq_some_iff.mp H
         obtain ⟨t118, A140, H⟩ := H
         replace H : (if (((((((((⟨#[65, 61]⟩ : ByteArray) ++ t114) ++ (⟨#[32, 88, 61]⟩ : ByteArray)) ++ t115) ++ (⟨#[32, 89, 61]⟩ : ByteArray)) ++ t116) ++ (⟨#[32, 83, 61]⟩ : ByteArray)) ++ t117) ++ (⟨#[32, 80, 67, 61]⟩ : ByteArray)).size + t118.size ≤ 9223372036854775807 then (if ((((((((((⟨#[65, 61]⟩ : ByteArray) ++ t114) ++ (⟨#[32, 88, 61]⟩ : ByteArray)) ++ t115) ++ (⟨#[32, 89, 61]⟩ : ByteArray)) ++ t116) ++ (⟨#[32, 83, 61]⟩ : ByteArray)) ++ t117) ++ (⟨#[32, 80, 67, 61]⟩ : ByteArray)) ++ t118).size + 1 ≤ 9223372036854775807 then ((spec_l05Flags.f a0_5 a0_6 a0_7 a0_8 a0_9 a0_10).bind fun t119 => (if (((((((((((⟨#[65, 61]⟩ : ByteArray) ++ t114) ++ (⟨#[32, 88, 61]⟩ : ByteArray)) ++ t115) ++ (⟨#[32, 89, 61]⟩ : ByteArray)) ++ t116) ++ (⟨#[32, 83, 61]⟩ : ByteArray)) ++ t117) ++ (⟨#[32, 80, 67, 61]⟩ : ByteArray)) ++ t118) ++ (⟨#[32]⟩ : ByteArray)).size + t119.size ≤ 9223372036854775807 then (some ((((((((((((⟨#[65, 61]⟩ : ByteArray) ++ t114) ++ (⟨#[32, 88, 61]⟩ : ByteArray)) ++ t115) ++ (⟨#[32, 89, 61]⟩ : ByteArray)) ++ t116) ++ (⟨#[32, 83, 61]⟩ : ByteArray)) ++ t117) ++ (⟨#[32, 80, 67, 61]⟩ : ByteArray)) ++ t118) ++ (⟨#[32]⟩ : ByteArray)) ++ t119)) else (none))) else (none)) else (none)) = some r := H
         have A14 := Aside0.mk A140
         clear A140
         by_cases c15 : (((((((((⟨#[65, 61]⟩ : ByteArray) ++ t114) ++ (⟨#[32, 88, 61]⟩ : ByteArray)) ++ t115) ++ (⟨#[32, 89, 61]⟩ : ByteArray)) ++ t116) ++ (⟨#[32, 83, 61]⟩ : ByteArray)) ++ t117) ++ (⟨#[32, 80, 67, 61]⟩ : ByteArray)).size + t118.size ≤ 9223372036854775807
         ·rw [if_pos c15] at H
          have c15b0 := eq_true c15
          have c15b1 : decide ((((((((((⟨#[65, 61]⟩ : ByteArray) ++ t114) ++ (⟨#[32, 88, 61]⟩ : ByteArray)) ++ t115) ++ (⟨#[32, 89, 61]⟩ : ByteArray)) ++ t116) ++ (⟨#[32, 83, 61]⟩ : ByteArray)) ++ t117) ++ (⟨#[32, 80, 67, 61]⟩ : ByteArray)).size + t118.size ≤ 9223372036854775807) = true := decide_eq_true c15
          try have c15b2 : (9223372036854775807 < (((((((((⟨#[65, 61]⟩ : ByteArray) ++ t114) ++ (⟨#[32, 88, 61]⟩ : ByteArray)) ++ t115) ++ (⟨#[32, 89, 61]⟩ : ByteArray)) ++ t116) ++ (⟨#[32, 83, 61]⟩ : ByteArray)) ++ t117) ++ (⟨#[32, 80, 67, 61]⟩ : ByteArray)).size + t118.size) = False := eq_false (Nat.not_lt.2 c15)
          try (have c15b3 := c15; simp at c15b3; have c15b4 := eq_true c15b3; have c15b5 := decide_eq_true c15b3; have c15b6 := eq_false (Nat.not_lt.2 c15b3))
          have c15b7 : 2 + t114.size + 3 + t115.size + 3 + t116.size + 3 + t117.size + 4 + t118.size ≤ 9223372036854775807 := by have h_ := c15; simp only [ByteArray.size_append] at h_; exact h_
          have c15b8 := eq_false (Nat.not_lt.2 c15b7)
          replace c15b7 := eq_true c15b7
          by_cases c16 : ((((((((((⟨#[65, 61]⟩ : ByteArray) ++ t114) ++ (⟨#[32, 88, 61]⟩ : ByteArray)) ++ t115) ++ (⟨#[32, 89, 61]⟩ : ByteArray)) ++ t116) ++ (⟨#[32, 83, 61]⟩ : ByteArray)) ++ t117) ++ (⟨#[32, 80, 67, 61]⟩ : ByteArray)) ++ t118).size + 1 ≤ 9223372036854775807
          ·rw [if_pos c16] at H
           have c16b0 := eq_true c16
           have c16b1 : decide (((((((((((⟨#[65, 61]⟩ : ByteArray) ++ t114) ++ (⟨#[32, 88, 61]⟩ : ByteArray)) ++ t115) ++ (⟨#[32, 89, 61]⟩ : ByteArray)) ++ t116) ++ (⟨#[32, 83, 61]⟩ : ByteArray)) ++ t117) ++ (⟨#[32, 80, 67, 61]⟩ : ByteArray)) ++ t118).size + 1 ≤ 9223372036854775807) = true := decide_eq_true c16
           try have c16b2 : (9223372036854775807 < ((((((((((⟨#[65, 61]⟩ : ByteArray) ++ t114) ++ (⟨#[32, 88, 61]⟩ : ByteArray)) ++ t115) ++ (⟨#[32, 89, 61]⟩ : ByteArray)) ++ t116) ++ (⟨#[32, 83, 61]⟩ : ByteArray)) ++ t117) ++ (⟨#[32, 80, 67, 61]⟩ : ByteArray)) ++ t118).size + 1) = False := eq_false (Nat.not_lt.2 c16)
           try (have c16b3 := c16; simp at c16b3; have c16b4 := eq_true c16b3; have c16b5 := decide_eq_true c16b3; have c16b6 := eq_false (Nat.not_lt.2 c16b3))
           have c16b7 : 2 + t114.size + 3 + t115.size + 3 + t116.size + 3 + t117.size + 4 + t118.size + 1 ≤ 9223372036854775807 := by have h_ := c16; simp only [ByteArray.size_append] at h_; exact h_
           have c16b8 := eq_false (Nat.not_lt.2 c16b7)
           replace c16b7 := eq_true c16b7
           replace H := Option.bind_eq_some_iff.mp H
           obtain ⟨t119, A170, H⟩ := H
           replace H : (if (((((((((((⟨#[65, 61]⟩ : ByteArray) ++ t114) ++ (⟨#[32, 88, 61]⟩ : ByteArray)) ++ t115) ++ (⟨#[32, 89, 61]⟩ : ByteArray)) ++ t116) ++ (⟨#[32, 83, 61]⟩ : ByteArray)) ++ t117) ++ (⟨#[32, 80, 67, 61]⟩ : ByteArray)) ++ t118) ++ (⟨#[32]⟩ : ByteArray)).size + t119.size ≤ 9223372036854775807 then (some ((((((((((((⟨#[65, 61]⟩ : ByteArray) ++ t114) ++ (⟨#[32, 88, 61]⟩ : ByteArray)) ++ t115) ++ (⟨#[32, 89, 61]⟩ : ByteArray)) ++ t116) ++ (⟨#[32, 83, 61]⟩ : ByteArray)) ++ t117) ++ (⟨#[32, 80, 67, 61]⟩ : ByteArray)) ++ t118) ++ (⟨#[32]⟩ : ByteArray)) ++ t119)) else (none)) = some r := H
           have A17 := Aside0.mk A170
           clear A170
           by_cases c18 : (((((((((((⟨#[65, 61]⟩ : ByteArray) ++ t114) ++ (⟨#[32, 88, 61]⟩ : ByteArray)) ++ t115) ++ (⟨#[32, 89, 61]⟩ : ByteArray)) ++ t116) ++ (⟨#[32, 83, 61]⟩ : ByteArray)) ++ t117) ++ (⟨#[32, 80, 67, 61]⟩ : ByteArray)) ++ t118) ++ (⟨#[32]⟩ : ByteArray)).size + t119.size ≤ 9223372036854775807
           ·rw [if_pos c18] at H
            have c18b0 := eq_true c18
            have c18b1 : decide ((((((((((((⟨#[65, 61]⟩ : ByteArray) ++ t114) ++ (⟨#[32, 88, 61]⟩ : ByteArray)) ++ t115) ++ (⟨#[32, 89, 61]⟩ : ByteArray)) ++ t116) ++ (⟨#[32, 83, 61]⟩ : ByteArray)) ++ t117) ++ (⟨#[32, 80, 67, 61]⟩ : ByteArray)) ++ t118) ++ (⟨#[32]⟩ : ByteArray)).size + t119.size ≤ 9223372036854775807) = true := decide_eq_true c18
            try have c18b2 : (9223372036854775807 < (((((((((((⟨#[65, 61]⟩ : ByteArray) ++ t114) ++ (⟨#[32, 88, 61]⟩ : ByteArray)) ++ t115) ++ (⟨#[32, 89, 61]⟩ : ByteArray)) ++ t116) ++ (⟨#[32, 83, 61]⟩ : ByteArray)) ++ t117) ++ (⟨#[32, 80, 67, 61]⟩ : ByteArray)) ++ t118) ++ (⟨#[32]⟩ : ByteArray)).size + t119.size) = False := eq_false (Nat.not_lt.2 c18)
            try (have c18b3 := c18; simp at c18b3; have c18b4 := eq_true c18b3; have c18b5 := decide_eq_true c18b3; have c18b6 := eq_false (Nat.not_lt.2 c18b3))
            have c18b7 : 2 + t114.size + 3 + t115.size + 3 + t116.size + 3 + t117.size + 4 + t118.size + 1 + t119.size ≤ 9223372036854775807 := by have h_ := c18; simp only [ByteArray.size_append] at h_; exact h_
            have c18b8 := eq_false (Nat.not_lt.2 c18b7)
            replace c18b7 := eq_true c18b7
            obtain rfl := Option.some.inj H
            go_enter Try.func18, Try.ntmps18
            try go_wp2_with (first | ((with_reducible refine gate_dst (N := 1) rfl ?_); refine box_event ?hg (N := 1) ?hd (cs := #[.int .u8 a0_0, .int .u8 a0_1, .int .u8 a0_2, .int .u8 a0_3, .int .u16 a0_4, .bool a0_5, .bool a0_6, .bool a0_7, .bool a0_8, .bool a0_9, .bool a0_10]) (t := 32) ?hr ?_; (case hd => rfl); (case hg => rfl); (case hr => first | (go_simp; done) | (go_simp; rfl)); intro gb113 hg w19 hbox hb; have n0_ := Aside0.mk (below_step (by repeat (first | (with_reducible first | exact HB.out | apply below_alloc | apply pw_below_drewN | apply below_drew1) | exact HB.out)) hb); have n1_ := Aside0.mk (hbox); have n2_ := Aside0.mk ((by rw [hg]; exact (below_size (by repeat (first | (with_reducible first | exact HB.out | apply below_alloc | apply pw_below_drewN | apply below_drew1) | exact HB.out))) : w.heap.size ≤ gb113)); have n3_ := Aside0.mk ((by rw [hg]; exact (below_size (by repeat (first | (with_reducible first | exact HB.out | apply below_alloc | apply pw_below_drewN | apply below_drew1) | exact HB.out))) : w.heap.size ≤ gb113)); clear HB; have HB := n0_; have BK113 := n1_; have GW113 := n2_; have GE113 := n3_; clear n0_ n1_ n2_ n3_; clear hb hbox hg))
            have n0_ := Aside0.mk (blk_drew BK113.out)
            have n1_ := Aside0.mk (below_drew1 HB.out)
            clear BK113
            clear HB
            have BK113 := n0_
            have HB := n1_
            clear n0_ n1_
            refine start_ (n := 35) (S := fun w' => w'.cell? ⟨gb113, 0, none⟩ = some (.int .u8 a0_0) ∧ w'.cell? ⟨gb113, 1, none⟩ = some (.int .u8 a0_1) ∧ w'.cell? ⟨gb113, 2, none⟩ = some (.int .u8 a0_2) ∧ w'.cell? ⟨gb113, 3, none⟩ = some (.int .u8 a0_3) ∧ w'.cell? ⟨gb113, 4, none⟩ = some (.int .u16 a0_4) ∧ w'.cell? ⟨gb113, 5, none⟩ = some (.bool a0_5) ∧ w'.cell? ⟨gb113, 6, none⟩ = some (.bool a0_6) ∧ w'.cell? ⟨gb113, 7, none⟩ = some (.bool a0_7) ∧ w'.cell? ⟨gb113, 8, none⟩ = some (.bool a0_8) ∧ w'.cell? ⟨gb113, 9, none⟩ = some (.bool a0_9) ∧ w'.cell? ⟨gb113, 10, none⟩ = some (.bool a0_10)) (ds := []) #[false, false, false, false, false, false, false, false, false, false, false, false, false, false, false, false, false, false, false, false, false, false, false, false, false, false, false, false, false, false, false, false, false, false, false] (by kernel_rfl) rfl rfl ⟨(blk_cell BK113.out 0).trans rfl, (blk_cell BK113.out 1).trans rfl, (blk_cell BK113.out 2).trans rfl, (blk_cell BK113.out 3).trans rfl, (blk_cell BK113.out 4).trans rfl, (blk_cell BK113.out 5).trans rfl, (blk_cell BK113.out 6).trans rfl, (blk_cell BK113.out 7).trans rfl, (blk_cell BK113.out 8).trans rfl, (blk_cell BK113.out 9).trans rfl, (blk_cell BK113.out 10).trans rfl⟩ (fun hHeld => ?_); refine with_tabW spec_CpuText.tab1 spec_CpuText.bits1 (fun HT_ HW_ => ?_)
            generalize w19.drew = w20 at BK113 HB hHeld ⊢
            refine pure_ (i := 0) (N := some 3) (v := ?_) (a' := ?_) #[true, false, false, false, false, false, false, false, false, false, false, false, false, false, false, false, false, false, false, false, false, false, false, false, false, false, false, false, false, false, false, false, false, false, false] rfl rfl (any_of HT_.out (by kernel_rfl)) (fun _ _ _ h => h) (Or.inl ⟨by rfl, ?_⟩) ?_ ?_
            rotate_left
            ·intro w'
             go_simp
             with_reducible rfl
            rotate_left
            ·simp only [Act.put, List.setIfInBounds_toArray, List.set_cons_zero, List.set_cons_succ, i64_w, i32_w]
             rfl
            refine pure_ (i := 6) (N := some 9) (v := ?_) (a' := ?_) #[true, false, false, false, false, false, true, false, false, false, false, false, false, false, false, false, false, false, false, false, false, false, false, false, false, false, false, false, false, false, false, false, false, false, false] rfl rfl (any_of HT_.out (by kernel_rfl)) (fun _ _ _ h => h) (Or.inl ⟨by rfl, ?_⟩) ?_ ?_
            rotate_left
            ·intro w'
             go_simp
             with_reducible rfl
            rotate_left
            ·simp only [Act.put, List.setIfInBounds_toArray, List.set_cons_zero, List.set_cons_succ, i64_w, i32_w]
             rfl
            refine pure_ (i := 12) (N := some 15) (v := ?_) (a' := ?_) #[true, false, false, false, false, false, true, false, false, false, false, false, true, false, false, false, false, false, false, false, false, false, false, false, false, false, false, false, false, false, false, false, false, false, false] rfl rfl (any_of HT_.out (by kernel_rfl)) (fun _ _ _ h => h) (Or.inl ⟨by rfl, ?_⟩) ?_ ?_
            rotate_left
            ·intro w'
             go_simp
             with_reducible rfl
            rotate_left
            ·simp only [Act.put, List.setIfInBounds_toArray, List.set_cons_zero, List.set_cons_succ, i64_w, i32_w]
             rfl
            refine pure_ (i := 18) (N := some 21) (v := ?_) (a' := ?_) #[true, false, false, false, false, false, true, false, false, false, false, false, true, false, false, false, false, false, true, false, false, false, false, false, false, false, false, false, false, false, false, false, false, false, false] rfl rfl (any_of HT_.out (by kernel_rfl)) (fun _ _ _ h => h) (Or.inl ⟨by rfl, ?_⟩) ?_ ?_
            rotate_left
            ·intro w'
             go_simp
             with_reducible rfl
            rotate_left
            ·simp only [Act.put, List.setIfInBounds_toArray, List.set_cons_zero, List.set_cons_succ, i64_w, i32_w]
             rfl
            refine pure_ (i := 24) (N := some 27) (v := ?_) (a' := ?_) #[true, false, false, false, false, false, true, false, false, false, false, false, true, false, false, false, false, false, true, false, false, false, false, false, true, false, false, false, false, false, false, false, false, false, false] rfl rfl (any_of HT_.out (by kernel_rfl)) (fun _ _ _ h => h) (Or.inl ⟨by rfl, ?_⟩) ?_ ?_
            rotate_left
            ·intro w'
             go_simp
             with_reducible rfl
            rotate_left
            ·simp only [Act.put, List.setIfInBounds_toArray, List.set_cons_zero, List.set_cons_succ, i64_w, i32_w]
             rfl
            refine pure_ (i := 30) (N := some 33) (v := ?_) (a' := ?_) #[true, false, false, false, false, false, true, false, false, false, false, false, true, false, false, false, false, false, true, false, false, false, false, false, true, false, false, false, false, false, true, false, false, false, false] rfl rfl (any_of HT_.out (by kernel_rfl)) (fun _ _ _ h => h) (Or.inl ⟨by rfl, ?_⟩) ?_ ?_
            rotate_left
            ·intro w'
             go_simp
             with_reducible rfl
            rotate_left
            ·simp only [Act.put, List.setIfInBounds_toArray, List.set_cons_zero, List.set_cons_succ, i64_w, i32_w]
             rfl
            refine take_ (i := 1) (N := some 4) (v := ?_) (a' := ?_) #[true, true, false, false, false, false, true, false, false, false, false, false, true, false, false, false, false, false, true, false, false, false, false, false, true, false, false, false, false, false, true, false, false, false, false] rfl rfl (take_ofW HT_.out HW_.out (by kernel_rfl)) (fun _ _ _ h => h) (Or.inl ⟨by rfl, ?_⟩) hHeld ?_ ?_
            rotate_left
            ·rintro w' ⟨s0, s1, s2, s3, s4, s5, s6, s7, s8, s9, s10⟩
             go_simp
             with_reducible rfl
            rotate_left
            ·simp only [Act.put, List.setIfInBounds_toArray, List.set_cons_zero, List.set_cons_succ, i64_w, i32_w]
             rfl
            refine pure_ (i := 2) (N := some 5) (v := ?_) (a' := ?_) #[true, true, true, false, false, false, true, false, false, false, false, false, true, false, false, false, false, false, true, false, false, false, false, false, true, false, false, false, false, false, true, false, false, false, false] rfl rfl (any_of HT_.out (by kernel_rfl)) (fun _ _ _ h => h) (Or.inl ⟨by rfl, ?_⟩) ?_ ?_
            rotate_left
            ·intro w'
             go_simp
             with_reducible rfl
            rotate_left
            ·simp only [Act.put, List.setIfInBounds_toArray, List.set_cons_zero, List.set_cons_succ, i64_w, i32_w]
             rfl
            refine take_ (i := 7) (N := some 10) (v := ?_) (a' := ?_) #[true, true, true, false, false, false, true, true, false, false, false, false, true, false, false, false, false, false, true, false, false, false, false, false, true, false, false, false, false, false, true, false, false, false, false] rfl rfl (take_ofW HT_.out HW_.out (by kernel_rfl)) (fun _ _ _ h => h) (Or.inl ⟨by rfl, ?_⟩) hHeld ?_ ?_
            rotate_left
            ·rintro w' ⟨s0, s1, s2, s3, s4, s5, s6, s7, s8, s9, s10⟩
             go_simp
             with_reducible rfl
            rotate_left
            ·simp only [Act.put, List.setIfInBounds_toArray, List.set_cons_zero, List.set_cons_succ, i64_w, i32_w]
             rfl
            refine pure_ (i := 8) (N := some 11) (v := ?_) (a' := ?_) #[true, true, true, false, false, false, true, true, true, false, false, false, true, false, false, false, false, false, true, false, false, false, false, false, true, false, false, false, false, false, true, false, false, false, false] rfl rfl (any_of HT_.out (by kernel_rfl)) (fun _ _ _ h => h) (Or.inl ⟨by rfl, ?_⟩) ?_ ?_
            rotate_left
            ·intro w'
             go_simp
             with_reducible rfl
            rotate_left
            ·simp only [Act.put, List.setIfInBounds_toArray, List.set_cons_zero, List.set_cons_succ, i64_w, i32_w]
             rfl
            refine take_ (i := 13) (N := some 16) (v := ?_) (a' := ?_) #[true, true, true, false, false, false, true, true, true, false, false, false, true, true, false, false, false, false, true, false, false, false, false, false, true, false, false, false, false, false, true, false, false, false, false] rfl rfl (take_ofW HT_.out HW_.out (by kernel_rfl)) (fun _ _ _ h => h) (Or.inl ⟨by rfl, ?_⟩) hHeld ?_ ?_
            rotate_left
            ·rintro w' ⟨s0, s1, s2, s3, s4, s5, s6, s7, s8, s9, s10⟩
             go_simp
             with_reducible rfl
            rotate_left
            ·simp only [Act.put, List.setIfInBounds_toArray, List.set_cons_zero, List.set_cons_succ, i64_w, i32_w]
             rfl
            refine pure_ (i := 14) (N := some 17) (v := ?_) (a' := ?_) #[true, true, true, false, false, false, true, true, true, false, false, false, true, true, true, false, false, false, true, false, false, false, false, false, true, false, false, false, false, false, true, false, false, false, false] rfl rfl (any_of HT_.out (by kernel_rfl)) (fun _ _ _ h => h) (Or.inl ⟨by rfl, ?_⟩) ?_ ?_
            rotate_left
            ·intro w'
             go_simp
             with_reducible rfl
            rotate_left
            ·simp only [Act.put, List.setIfInBounds_toArray, List.set_cons_zero, List.set_cons_succ, i64_w, i32_w]
             rfl
            refine take_ (i := 19) (N := some 22) (v := ?_) (a' := ?_) #[true, true, true, false, false, false, true, true, true, false, false, false, true, true, true, false, false, false, true, true, false, false, false, false, true, false, false, false, false, false, true, false, false, false, false] rfl rfl (take_ofW HT_.out HW_.out (by kernel_rfl)) (fun _ _ _ h => h) (Or.inl ⟨by rfl, ?_⟩) hHeld ?_ ?_
            rotate_left
            ·rintro w' ⟨s0, s1, s2, s3, s4, s5, s6, s7, s8, s9, s10⟩
             go_simp
             with_reducible rfl
            rotate_left
            ·simp only [Act.put, List.setIfInBounds_toArray, List.set_cons_zero, List.set_cons_succ, i64_w, i32_w]
             rfl
            refine pure_ (i := 20) (N := some 23) (v := ?_) (a' := ?_) #[true, true, true, false, false, false, true, true, true, false, false, false, true, true, true, false, false, false, true, true, true, false, false, false, true, false, false, false, false, false, true, false, false, false, false] rfl rfl (any_of HT_.out (by kernel_rfl)) (fun _ _ _ h => h) (Or.inl ⟨by rfl, ?_⟩) ?_ ?_
            rotate_left
            ·intro w'
             go_simp
             with_reducible rfl
            rotate_left
            ·simp only [Act.put, List.setIfInBounds_toArray, List.set_cons_zero, List.set_cons_succ, i64_w, i32_w]
             rfl
            refine take_ (i := 25) (N := some 28) (v := ?_) (a' := ?_) #[true, true, true, false, false, false, true, true, true, false, false, false, true, true, true, false, false, false, true, true, true, false, false, false, true, true, false, false, false, false, true, false, false, false, false] rfl rfl (take_ofW HT_.out HW_.out (by kernel_rfl)) (fun _ _ _ h => h) (Or.inl ⟨by rfl, ?_⟩) hHeld ?_ ?_
            rotate_left
            ·rintro w' ⟨s0, s1, s2, s3, s4, s5, s6, s7, s8, s9, s10⟩
             go_simp
             with_reducible rfl
            rotate_left
            ·simp only [Act.put, List.setIfInBounds_toArray, List.set_cons_zero, List.set_cons_succ, i64_w, i32_w]
             rfl
            refine pure_ (i := 26) (N := some 29) (v := ?_) (a' := ?_) #[true, true, true, false, false, false, true, true, true, false, false, false, true, true, true, false, false, false, true, true, true, false, false, false, true, true, true, false, false, false, true, false, false, false, false] rfl rfl (any_of HT_.out (by kernel_rfl)) (fun _ _ _ h => h) (Or.inl ⟨by rfl, ?_⟩) ?_ ?_
            rotate_left
            ·intro w'
             go_simp
             with_reducible rfl
            rotate_left
            ·simp only [Act.put, List.setIfInBounds_toArray, List.set_cons_zero, List.set_cons_succ, i64_w, i32_w]
             rfl
            refine take_ (i := 31) (N := some 34) (v := ?_) (a' := ?_) #[true, true, true, false, false, false, true, true, true, false, false, false, true, true, true, false, false, false, true, true, true, false, false, false, true, true, true, false, false, false, true, true, false, false, false] rfl rfl (take_ofW HT_.out HW_.out (by kernel_rfl)) (fun _ _ _ h => h) (Or.inl ⟨by rfl, ?_⟩) hHeld ?_ ?_
            rotate_left
            ·rintro w' ⟨s0, s1, s2, s3, s4, s5, s6, s7, s8, s9, s10⟩
             go_simp
             with_reducible rfl
            rotate_left
            ·simp only [Act.put, List.setIfInBounds_toArray, List.set_cons_zero, List.set_cons_succ, i64_w, i32_w]
             rfl
            refine one_ (i := 3) (N := some 6) #[true, true, true, true, false, false, true, true, true, false, false, false, true, true, true, false, false, false, true, true, true, false, false, false, true, true, true, false, false, false, true, true, false, false, false] rfl rfl (one_of HT_.out (by kernel_rfl)) (by decide) (fun K hK => ?_)
            refine goes_ Try.func30 (by kernel_rfl) rfl #[.int .i64 (wrap64 (a0_0)), .int .i64 2] (by rfl) rfl rfl (by (try simp only [List.map_toArray, List.map_cons, List.map_nil]); first | done | rfl | (simp only [List.length_drop, List.length_take]; rfl)) ?_
            with_reducible refine (spec_HexText.calls k (wrap64 (a0_0)) 2 t114 _ A2.out).mono ?_
            rintro e w' ⟨rfl, ⟨nd, rfl⟩⟩
            refine ⟨_, rfl, ?_⟩
            refine hK.out _ _ ⟨(blk_cell BK113.out 0).trans rfl, (blk_cell BK113.out 1).trans rfl, (blk_cell BK113.out 2).trans rfl, (blk_cell BK113.out 3).trans rfl, (blk_cell BK113.out 4).trans rfl, (blk_cell BK113.out 5).trans rfl, (blk_cell BK113.out 6).trans rfl, (blk_cell BK113.out 7).trans rfl, (blk_cell BK113.out 8).trans rfl, (blk_cell BK113.out 9).trans rfl, (blk_cell BK113.out 10).trans rfl⟩ (fun hHeld => ?_)
            clear hK K
            refine norm_ (a' := ?_) ?_ ?_
            rotate_left
            ·show Act.put _ (some 6) _ = _
             simp only [Act.put, List.setIfInBounds_toArray, List.set_cons_zero, List.set_cons_succ, i64_w, i32_w]
             rfl
            refine pure_ (i := 4) (N := some 7) (v := ?_) (a' := ?_) #[true, true, true, true, true, false, true, true, true, false, false, false, true, true, true, false, false, false, true, true, true, false, false, false, true, true, true, false, false, false, true, true, false, false, false] rfl rfl (any_of HT_.out (by kernel_rfl)) (fun _ _ _ h => h) (Or.inl ⟨by rfl, ?_⟩) ?_ ?_
            rotate_left
            ·intro w'
             go_simp
             with_reducible rfl
            rotate_left
            ·simp only [Act.put, List.setIfInBounds_toArray, List.set_cons_zero, List.set_cons_succ, i64_w, i32_w]
             rfl
            refine pure_ (i := 5) (N := some 8) (v := ?_) (a' := ?_) #[true, true, true, true, true, true, true, true, true, false, false, false, true, true, true, false, false, false, true, true, true, false, false, false, true, true, true, false, false, false, true, true, false, false, false] rfl rfl (any_of HT_.out (by kernel_rfl)) (fun _ _ _ h => h) (Or.inl ⟨by rfl, ?_⟩) ?_ ?_
            rotate_left
            ·intro w'
             go_simp
             with_reducible rfl
            rotate_left
            ·simp only [Act.put, List.setIfInBounds_toArray, List.set_cons_zero, List.set_cons_succ, i64_w, i32_w]
             rfl
            refine one_ (i := 9) (N := some 12) #[true, true, true, true, true, true, true, true, true, true, false, false, true, true, true, false, false, false, true, true, true, false, false, false, true, true, true, false, false, false, true, true, false, false, false] rfl rfl (one_of HT_.out (by kernel_rfl)) (by decide) (fun K hK => ?_)
            refine goes_ Try.func30 (by kernel_rfl) rfl #[.int .i64 (wrap64 (a0_1)), .int .i64 2] (by rfl) rfl rfl (by (try simp only [List.map_toArray, List.map_cons, List.map_nil]); first | done | rfl | (simp only [List.length_drop, List.length_take]; rfl)) ?_
            with_reducible refine (spec_HexText.calls k (wrap64 (a0_1)) 2 t115 _ A5.out).mono ?_
            rintro e w' ⟨rfl, ⟨nd, rfl⟩⟩
            refine ⟨_, rfl, ?_⟩
            refine hK.out _ _ ⟨(blk_cell BK113.out 0).trans rfl, (blk_cell BK113.out 1).trans rfl, (blk_cell BK113.out 2).trans rfl, (blk_cell BK113.out 3).trans rfl, (blk_cell BK113.out 4).trans rfl, (blk_cell BK113.out 5).trans rfl, (blk_cell BK113.out 6).trans rfl, (blk_cell BK113.out 7).trans rfl, (blk_cell BK113.out 8).trans rfl, (blk_cell BK113.out 9).trans rfl, (blk_cell BK113.out 10).trans rfl⟩ (fun hHeld => ?_)
            clear hK K
            refine norm_ (a' := ?_) ?_ ?_
            rotate_left
            ·show Act.put _ (some 12) _ = _
             simp only [Act.put, List.setIfInBounds_toArray, List.set_cons_zero, List.set_cons_succ, i64_w, i32_w]
             rfl
            refine pure_ (i := 10) (N := some 13) (v := ?_) (a' := ?_) #[true, true, true, true, true, true, true, true, true, true, true, false, true, true, true, false, false, false, true, true, true, false, false, false, true, true, true, false, false, false, true, true, false, false, false] rfl rfl (any_of HT_.out (by kernel_rfl)) (fun _ _ _ h => h) (Or.inl ⟨by rfl, ?_⟩) ?_ ?_
            rotate_left
            ·intro w'
             go_simp
             with_reducible rfl
            rotate_left
            ·simp only [Act.put, List.setIfInBounds_toArray, List.set_cons_zero, List.set_cons_succ, i64_w, i32_w]
             rfl
            refine pure_ (i := 11) (N := some 14) (v := ?_) (a' := ?_) #[true, true, true, true, true, true, true, true, true, true, true, true, true, true, true, false, false, false, true, true, true, false, false, false, true, true, true, false, false, false, true, true, false, false, false] rfl rfl (any_of HT_.out (by kernel_rfl)) (fun _ _ _ h => h) (Or.inl ⟨by rfl, ?_⟩) ?_ ?_
            rotate_left
            ·intro w'
             go_simp
             with_reducible rfl
            rotate_left
            ·simp only [Act.put, List.setIfInBounds_toArray, List.set_cons_zero, List.set_cons_succ, i64_w, i32_w]
             rfl
            refine one_ (i := 15) (N := some 18) #[true, true, true, true, true, true, true, true, true, true, true, true, true, true, true, true, false, false, true, true, true, false, false, false, true, true, true, false, false, false, true, true, false, false, false] rfl rfl (one_of HT_.out (by kernel_rfl)) (by decide) (fun K hK => ?_)
            refine goes_ Try.func30 (by kernel_rfl) rfl #[.int .i64 (wrap64 (a0_2)), .int .i64 2] (by rfl) rfl rfl (by (try simp only [List.map_toArray, List.map_cons, List.map_nil]); first | done | rfl | (simp only [List.length_drop, List.length_take]; rfl)) ?_
            with_reducible refine (spec_HexText.calls k (wrap64 (a0_2)) 2 t116 _ A8.out).mono ?_
            rintro e w' ⟨rfl, ⟨nd, rfl⟩⟩
            refine ⟨_, rfl, ?_⟩
            refine hK.out _ _ ⟨(blk_cell BK113.out 0).trans rfl, (blk_cell BK113.out 1).trans rfl, (blk_cell BK113.out 2).trans rfl, (blk_cell BK113.out 3).trans rfl, (blk_cell BK113.out 4).trans rfl, (blk_cell BK113.out 5).trans rfl, (blk_cell BK113.out 6).trans rfl, (blk_cell BK113.out 7).trans rfl, (blk_cell BK113.out 8).trans rfl, (blk_cell BK113.out 9).trans rfl, (blk_cell BK113.out 10).trans rfl⟩ (fun hHeld => ?_)
            clear hK K
            refine norm_ (a' := ?_) ?_ ?_
            rotate_left
            ·show Act.put _ (some 18) _ = _
             simp only [Act.put, List.setIfInBounds_toArray, List.set_cons_zero, List.set_cons_succ, i64_w, i32_w]
             rfl
            refine pure_ (i := 16) (N := some 19) (v := ?_) (a' := ?_) #[true, true, true, true, true, true, true, true, true, true, true, true, true, true, true, true, true, false, true, true, true, false, false, false, true, true, true, false, false, false, true, true, false, false, false] rfl rfl (any_of HT_.out (by kernel_rfl)) (fun _ _ _ h => h) (Or.inl ⟨by rfl, ?_⟩) ?_ ?_
            rotate_left
            ·intro w'
             go_simp
             with_reducible rfl
            rotate_left
            ·simp only [Act.put, List.setIfInBounds_toArray, List.set_cons_zero, List.set_cons_succ, i64_w, i32_w]
             rfl
            refine pure_ (i := 17) (N := some 20) (v := ?_) (a' := ?_) #[true, true, true, true, true, true, true, true, true, true, true, true, true, true, true, true, true, true, true, true, true, false, false, false, true, true, true, false, false, false, true, true, false, false, false] rfl rfl (any_of HT_.out (by kernel_rfl)) (fun _ _ _ h => h) (Or.inl ⟨by rfl, ?_⟩) ?_ ?_
            rotate_left
            ·intro w'
             go_simp
             with_reducible rfl
            rotate_left
            ·simp only [Act.put, List.setIfInBounds_toArray, List.set_cons_zero, List.set_cons_succ, i64_w, i32_w]
             rfl
            refine one_ (i := 21) (N := some 24) #[true, true, true, true, true, true, true, true, true, true, true, true, true, true, true, true, true, true, true, true, true, true, false, false, true, true, true, false, false, false, true, true, false, false, false] rfl rfl (one_of HT_.out (by kernel_rfl)) (by decide) (fun K hK => ?_)
            refine goes_ Try.func30 (by kernel_rfl) rfl #[.int .i64 (wrap64 (a0_3)), .int .i64 2] (by rfl) rfl rfl (by (try simp only [List.map_toArray, List.map_cons, List.map_nil]); first | done | rfl | (simp only [List.length_drop, List.length_take]; rfl)) ?_
            with_reducible refine (spec_HexText.calls k (wrap64 (a0_3)) 2 t117 _ A11.out).mono ?_
            rintro e w' ⟨rfl, ⟨nd, rfl⟩⟩
            refine ⟨_, rfl, ?_⟩
            refine hK.out _ _ ⟨(blk_cell BK113.out 0).trans rfl, (blk_cell BK113.out 1).trans rfl, (blk_cell BK113.out 2).trans rfl, (blk_cell BK113.out 3).trans rfl, (blk_cell BK113.out 4).trans rfl, (blk_cell BK113.out 5).trans rfl, (blk_cell BK113.out 6).trans rfl, (blk_cell BK113.out 7).trans rfl, (blk_cell BK113.out 8).trans rfl, (blk_cell BK113.out 9).trans rfl, (blk_cell BK113.out 10).trans rfl⟩ (fun hHeld => ?_)
            clear hK K
            refine norm_ (a' := ?_) ?_ ?_
            rotate_left
            ·show Act.put _ (some 24) _ = _
             simp only [Act.put, List.setIfInBounds_toArray, List.set_cons_zero, List.set_cons_succ, i64_w, i32_w]
             rfl
            refine pure_ (i := 22) (N := some 25) (v := ?_) (a' := ?_) #[true, true, true, true, true, true, true, true, true, true, true, true, true, true, true, true, true, true, true, true, true, true, true, false, true, true, true, false, false, false, true, true, false, false, false] rfl rfl (any_of HT_.out (by kernel_rfl)) (fun _ _ _ h => h) (Or.inl ⟨by rfl, ?_⟩) ?_ ?_
            rotate_left
            ·intro w'
             go_simp
             with_reducible rfl
            rotate_left
            ·simp only [Act.put, List.setIfInBounds_toArray, List.set_cons_zero, List.set_cons_succ, i64_w, i32_w]
             rfl
            refine pure_ (i := 23) (N := some 26) (v := ?_) (a' := ?_) #[true, true, true, true, true, true, true, true, true, true, true, true, true, true, true, true, true, true, true, true, true, true, true, true, true, true, true, false, false, false, true, true, false, false, false] rfl rfl (any_of HT_.out (by kernel_rfl)) (fun _ _ _ h => h) (Or.inl ⟨by rfl, ?_⟩) ?_ ?_
            rotate_left
            ·intro w'
             go_simp
             with_reducible rfl
            rotate_left
            ·simp only [Act.put, List.setIfInBounds_toArray, List.set_cons_zero, List.set_cons_succ, i64_w, i32_w]
             rfl
            refine one_ (i := 27) (N := some 30) #[true, true, true, true, true, true, true, true, true, true, true, true, true, true, true, true, true, true, true, true, true, true, true, true, true, true, true, true, false, false, true, true, false, false, false] rfl rfl (one_of HT_.out (by kernel_rfl)) (by decide) (fun K hK => ?_)
            refine goes_ Try.func30 (by kernel_rfl) rfl #[.int .i64 (wrap64 (a0_4)), .int .i64 4] (by rfl) rfl rfl (by (try simp only [List.map_toArray, List.map_cons, List.map_nil]); first | done | rfl | (simp only [List.length_drop, List.length_take]; rfl)) ?_
            with_reducible refine (spec_HexText.calls k (wrap64 (a0_4)) 4 t118 _ A14.out).mono ?_
            rintro e w' ⟨rfl, ⟨nd, rfl⟩⟩
            refine ⟨_, rfl, ?_⟩
            refine hK.out _ _ ⟨(blk_cell BK113.out 0).trans rfl, (blk_cell BK113.out 1).trans rfl, (blk_cell BK113.out 2).trans rfl, (blk_cell BK113.out 3).trans rfl, (blk_cell BK113.out 4).trans rfl, (blk_cell BK113.out 5).trans rfl, (blk_cell BK113.out 6).trans rfl, (blk_cell BK113.out 7).trans rfl, (blk_cell BK113.out 8).trans rfl, (blk_cell BK113.out 9).trans rfl, (blk_cell BK113.out 10).trans rfl⟩ (fun hHeld => ?_)
            clear hK K
            refine norm_ (a' := ?_) ?_ ?_
            rotate_left
            ·show Act.put _ (some 30) _ = _
             simp only [Act.put, List.setIfInBounds_toArray, List.set_cons_zero, List.set_cons_succ, i64_w, i32_w]
             rfl
            refine pure_ (i := 28) (N := some 31) (v := ?_) (a' := ?_) #[true, true, true, true, true, true, true, true, true, true, true, true, true, true, true, true, true, true, true, true, true, true, true, true, true, true, true, true, true, false, true, true, false, false, false] rfl rfl (any_of HT_.out (by kernel_rfl)) (fun _ _ _ h => h) (Or.inl ⟨by rfl, ?_⟩) ?_ ?_
            rotate_left
            ·intro w'
             go_simp
             with_reducible rfl
            rotate_left
            ·simp only [Act.put, List.setIfInBounds_toArray, List.set_cons_zero, List.set_cons_succ, i64_w, i32_w]
             rfl
            refine pure_ (i := 29) (N := some 32) (v := ?_) (a' := ?_) #[true, true, true, true, true, true, true, true, true, true, true, true, true, true, true, true, true, true, true, true, true, true, true, true, true, true, true, true, true, true, true, true, false, false, false] rfl rfl (any_of HT_.out (by kernel_rfl)) (fun _ _ _ h => h) (Or.inl ⟨by rfl, ?_⟩) ?_ ?_
            rotate_left
            ·intro w'
             go_simp
             with_reducible rfl
            rotate_left
            ·simp only [Act.put, List.setIfInBounds_toArray, List.set_cons_zero, List.set_cons_succ, i64_w, i32_w]
             rfl
            refine one_ (i := 32) (N := some 35) #[true, true, true, true, true, true, true, true, true, true, true, true, true, true, true, true, true, true, true, true, true, true, true, true, true, true, true, true, true, true, true, true, true, false, false] rfl rfl (one_of HT_.out (by kernel_rfl)) (by decide) (fun K hK => ?_)
            refine goes_ Try.func31 (by kernel_rfl) rfl #[.agg #[.bool a0_5, .bool a0_6, .bool a0_7, .bool a0_8, .bool a0_9, .bool a0_10]] (by rfl) rfl rfl (by (try simp only [List.map_toArray, List.map_cons, List.map_nil]); first | done | rfl | (simp only [List.length_drop, List.length_take]; rfl)) ?_
            with_reducible refine (spec_l05Flags.calls a0_5 a0_6 a0_7 a0_8 a0_9 a0_10 t119 _ A17.out).mono ?_
            rintro e w21 ⟨rfl, hb⟩
            refine ⟨_, rfl, ?_⟩
            have n0_ := Aside0.mk (blk_below (g := gb113) (o := .cells #[.int .u8 a0_0, .int .u8 a0_1, .int .u8 a0_2, .int .u8 a0_3, .int .u16 a0_4, .bool a0_5, .bool a0_6, .bool a0_7, .bool a0_8, .bool a0_9, .bool a0_10] 32 (0, 0)) (by (with_reducible repeat (first | refine blk_drewN ?_ _ | refine blk_drew ?_ | refine blk_alloc ?_ _)); exact BK113.out) hb)
            have n1_ := Aside0.mk (below_step (by repeat (first | (with_reducible first | exact HB.out | apply below_alloc | apply pw_below_drewN | apply below_drew1 | refine below_set ?_ GE113.out) | exact HB.out)) hb)
            clear BK113
            clear HB
            have BK113 := n0_
            have HB := n1_
            clear n0_ n1_
            (try clear hb)
            (try clear hb2)
            (try clear hk)
            (try clear hi)
            refine hK.out _ _ ⟨(blk_cell BK113.out 0).trans rfl, (blk_cell BK113.out 1).trans rfl, (blk_cell BK113.out 2).trans rfl, (blk_cell BK113.out 3).trans rfl, (blk_cell BK113.out 4).trans rfl, (blk_cell BK113.out 5).trans rfl, (blk_cell BK113.out 6).trans rfl, (blk_cell BK113.out 7).trans rfl, (blk_cell BK113.out 8).trans rfl, (blk_cell BK113.out 9).trans rfl, (blk_cell BK113.out 10).trans rfl⟩ (fun hHeld => ?_)
            clear hK K
            refine norm_ (a' := ?_) ?_ ?_
            rotate_left
            ·show Act.put _ (some 35) _ = _
             simp only [Act.put, List.setIfInBounds_toArray, List.set_cons_zero, List.set_cons_succ, i64_w, i32_w]
             rfl
            refine pure_ (i := 33) (N := some 36) (v := ?_) (a' := ?_) #[true, true, true, true, true, true, true, true, true, true, true, true, true, true, true, true, true, true, true, true, true, true, true, true, true, true, true, true, true, true, true, true, true, true, false] rfl rfl (any_of HT_.out (by kernel_rfl)) (fun _ _ _ h => h) (Or.inl ⟨by rfl, ?_⟩) ?_ ?_
            rotate_left
            ·intro w'
             go_simp
             with_reducible rfl
            rotate_left
            ·simp only [Act.put, List.setIfInBounds_toArray, List.set_cons_zero, List.set_cons_succ, i64_w, i32_w]
             rfl
            refine pure_ (i := 34) (N := some 2) (v := ?_) (a' := ?_) #[true, true, true, true, true, true, true, true, true, true, true, true, true, true, true, true, true, true, true, true, true, true, true, true, true, true, true, true, true, true, true, true, true, true, true] rfl rfl (any_of HT_.out (by kernel_rfl)) (fun _ _ _ h => h) (Or.inl ⟨by rfl, ?_⟩) ?_ ?_
            rotate_left
            ·intro w'
             go_simp
             with_reducible rfl
            rotate_left
            ·simp only [Act.put, List.setIfInBounds_toArray, List.set_cons_zero, List.set_cons_succ, i64_w, i32_w]
             rfl
            refine done_ (done_of HT_.out (by kernel_rfl)) ?_
            try go_wp2
            go_ret
            exact ⟨by first | rfl | (simp [errW_none, errW_some] <;> rfl) | (simp [*, errW_none, errW_some] <;> rfl), by repeat (first | (with_reducible first | exact HB.out | apply below_alloc | apply pw_below_drewN | apply below_drew1 | refine below_set ?_ GE113.out) | exact HB.out)⟩
           ·rw [if_neg c18] at H
            exact absurd H (by simp)
          ·rw [if_neg c16] at H
           exact absurd H (by simp)
         ·rw [if_neg c15] at H
          exact absurd H (by simp)
        ·rw [if_neg c13] at H
         exact absurd H (by simp)
       ·rw [if_neg c12] at H
        exact absurd H (by simp)
      ·rw [if_neg c10] at H
       exact absurd H (by simp)
     ·rw [if_neg c9] at H
      exact absurd H (by simp)
    ·rw [if_neg c7] at H
     exact absurd H (by simp)
   ·rw [if_neg c6] at H
    exact absurd H (by simp)
  ·rw [if_neg c4] at H
   exact absurd H (by simp)
 ·rw [if_neg c3] at H
  exact absurd H (by simp)

end Go.Proofs.Ytidencofapcliaa.MC
