-- Written by this session's own program (wip/myprint.py) over the kit's print of the translation. Lean checks it.
import Derived.Test.YtidencofapcliaaDoorMTx0
import Derived.Test.YtidencofapcliaaDoorMTx1
namespace Go.Proofs.YtidencofapcliaaDoor.MT
open Go.RowKit Go.Proofs.YtidencofapcliaaDoorW.PrintWords Go.Proofs.YtidencofapcliaaDoorW.PrintLast Go.Proofs.YtidencofapcliaaDoorW.PrintMore
attribute [local go_sem] max2_int min2_int max_two min_two max_three min_three max_four min_four   -- for this text's walks alone
set_option linter.unusedVariables false
set_option linter.unusedSimpArgs false

/-! ### spec_KnowText: function 9 -/
def spec_KnowText.l0 : Nat → List Int → ByteArray → Int → Option (ByteArray)
 | 0, _, _, _ => none
 | k + 1, x3, x4, x5 => if x5 < 6 then (if 0 ≤ (wrap64 (5 + x5)) then (if (wrap64 (5 + x5)) < (x3.length : Int) then (if (rd x3 (wrap64 (5 + x5))) = 0 then (if x4.size + 1 ≤ 9223372036854775807 then (spec_KnowText.l0 k x3 (x4 ++ (⟨#[45]⟩ : ByteArray)) (wrap64 (x5 + 1))) else (none)) else (if (rd x3 (wrap64 (5 + x5))) = 1 then (if 0 ≤ x5 then (if x5 ≤ (wrap64 (x5 + 1)) then (if (wrap64 (x5 + 1)) ≤ 6 then (if x4.size + ((⟨#[78, 86, 68, 73, 90, 67]⟩ : ByteArray).extract (x5 : Int).toNat ((wrap64 (x5 + 1)) : Int).toNat).size ≤ 9223372036854775807 then (spec_KnowText.l0 k x3 (x4 ++ ((⟨#[78, 86, 68, 73, 90, 67]⟩ : ByteArray).extract (x5 : Int).toNat ((wrap64 (x5 + 1)) : Int).toNat)) (wrap64 (x5 + 1))) else (none)) else (none)) else (none)) else (none)) else (if x4.size + 1 ≤ 9223372036854775807 then (spec_KnowText.l0 k x3 (x4 ++ (⟨#[63]⟩ : ByteArray)) (wrap64 (x5 + 1))) else (none)))) else (none)) else (none)) else (some x4)
def spec_KnowText.f (k : Nat) (a0_0 : Int) (a0_1 : Int) (a0_2 : Int) (a0_3 : Int) (a0_4 : Int) (a0_5 : Int) (a0_6 : Int) (a0_7 : Int) (a0_8 : Int) (a0_9 : Int) (a0_10 : Int) : Option (ByteArray) := (spec_KnowOk.f k a0_0 a0_1 a0_2 a0_3 a0_4 a0_5 a0_6 a0_7 a0_8 a0_9 a0_10).bind fun t115 => (if t115 = true then ((spec_l09List.f a0_0 a0_1 a0_2 a0_3 a0_4 a0_5 a0_6 a0_7 a0_8 a0_9 a0_10).bind fun t116 => ((spec_l09Digits.f k a0_0 2).bind fun t119 => (if 2 + t119.size ≤ 9223372036854775807 then (if ((⟨#[65, 61]⟩ : ByteArray) ++ t119).size + 3 ≤ 9223372036854775807 then ((spec_l09Digits.f k a0_1 2).bind fun t120 => (if (((⟨#[65, 61]⟩ : ByteArray) ++ t119) ++ (⟨#[32, 88, 61]⟩ : ByteArray)).size + t120.size ≤ 9223372036854775807 then (if ((((⟨#[65, 61]⟩ : ByteArray) ++ t119) ++ (⟨#[32, 88, 61]⟩ : ByteArray)) ++ t120).size + 3 ≤ 9223372036854775807 then ((spec_l09Digits.f k a0_2 2).bind fun t121 => (if (((((⟨#[65, 61]⟩ : ByteArray) ++ t119) ++ (⟨#[32, 88, 61]⟩ : ByteArray)) ++ t120) ++ (⟨#[32, 89, 61]⟩ : ByteArray)).size + t121.size ≤ 9223372036854775807 then (if ((((((⟨#[65, 61]⟩ : ByteArray) ++ t119) ++ (⟨#[32, 88, 61]⟩ : ByteArray)) ++ t120) ++ (⟨#[32, 89, 61]⟩ : ByteArray)) ++ t121).size + 3 ≤ 9223372036854775807 then ((spec_l09Digits.f k a0_3 2).bind fun t122 => (if (((((((⟨#[65, 61]⟩ : ByteArray) ++ t119) ++ (⟨#[32, 88, 61]⟩ : ByteArray)) ++ t120) ++ (⟨#[32, 89, 61]⟩ : ByteArray)) ++ t121) ++ (⟨#[32, 83, 61]⟩ : ByteArray)).size + t122.size ≤ 9223372036854775807 then (if ((((((((⟨#[65, 61]⟩ : ByteArray) ++ t119) ++ (⟨#[32, 88, 61]⟩ : ByteArray)) ++ t120) ++ (⟨#[32, 89, 61]⟩ : ByteArray)) ++ t121) ++ (⟨#[32, 83, 61]⟩ : ByteArray)) ++ t122).size + 4 ≤ 9223372036854775807 then ((spec_l09Digits.f k a0_4 4).bind fun t123 => (if (((((((((⟨#[65, 61]⟩ : ByteArray) ++ t119) ++ (⟨#[32, 88, 61]⟩ : ByteArray)) ++ t120) ++ (⟨#[32, 89, 61]⟩ : ByteArray)) ++ t121) ++ (⟨#[32, 83, 61]⟩ : ByteArray)) ++ t122) ++ (⟨#[32, 80, 67, 61]⟩ : ByteArray)).size + t123.size ≤ 9223372036854775807 then (if ((((((((((⟨#[65, 61]⟩ : ByteArray) ++ t119) ++ (⟨#[32, 88, 61]⟩ : ByteArray)) ++ t120) ++ (⟨#[32, 89, 61]⟩ : ByteArray)) ++ t121) ++ (⟨#[32, 83, 61]⟩ : ByteArray)) ++ t122) ++ (⟨#[32, 80, 67, 61]⟩ : ByteArray)) ++ t123).size + 1 ≤ 9223372036854775807 then (spec_KnowText.l0 k t116 (((((((((((⟨#[65, 61]⟩ : ByteArray) ++ t119) ++ (⟨#[32, 88, 61]⟩ : ByteArray)) ++ t120) ++ (⟨#[32, 89, 61]⟩ : ByteArray)) ++ t121) ++ (⟨#[32, 83, 61]⟩ : ByteArray)) ++ t122) ++ (⟨#[32, 80, 67, 61]⟩ : ByteArray)) ++ t123) ++ (⟨#[32]⟩ : ByteArray)) 0) else (none)) else (none))) else (none)) else (none))) else (none)) else (none))) else (none)) else (none))) else (none)) else (none)))) else (some (⟨#[]⟩ : ByteArray)))
theorem spec_KnowText.mono_l : ∀ k, (∀ y0 y1 y2, LeO (spec_KnowText.l0 k y0 y1 y2) (spec_KnowText.l0 (k + 1) y0 y1 y2))
 | 0 => fun _ _ _ r h => by simp [spec_KnowText.l0] at h
 | k + 1 => by
  have ih0 := spec_KnowText.mono_l k
  ·intro y0 y1 y2
   unfold spec_KnowText.l0
   repeat' first
   | (with_reducible exact ih0 _ _ _)
   | (with_reducible exact spec_KnowOk.mono _ _ _ _ _ _ _ _ _ _ _ _)
   | (with_reducible exact spec_l09Digits.mono _ _ _)
   | (with_reducible exact LeO.refl _)
   | (with_reducible exact LeO.none _)
   | (with_reducible refine LeO.ite ?_ ?_)
   | (with_reducible refine LeO.bind ?_ (fun _ => ?_))
   | exact ih0 _ _ _
   | exact spec_KnowOk.mono _ _ _ _ _ _ _ _ _ _ _ _
   | exact spec_l09Digits.mono _ _ _
   | exact LeO.none _
   | refine LeO.ite ?_ ?_
   | refine LeO.bind ?_ (fun _ => ?_)
theorem spec_KnowText.mono : ∀ a0 a1 a2 a3 a4 a5 a6 a7 a8 a9 a10 k, LeO (spec_KnowText.f k a0 a1 a2 a3 a4 a5 a6 a7 a8 a9 a10) (spec_KnowText.f (k + 1) a0 a1 a2 a3 a4 a5 a6 a7 a8 a9 a10) := by
 intro a0 a1 a2 a3 a4 a5 a6 a7 a8 a9 a10 k
 have ih0 := spec_KnowText.mono_l k
 unfold spec_KnowText.f
 repeat' first
   | (with_reducible exact ih0 _ _ _)
   | (with_reducible exact spec_KnowOk.mono _ _ _ _ _ _ _ _ _ _ _ _)
   | (with_reducible exact spec_l09Digits.mono _ _ _)
   | (with_reducible exact LeO.refl _)
   | (with_reducible exact LeO.none _)
   | (with_reducible refine LeO.ite ?_ ?_)
   | (with_reducible refine LeO.bind ?_ (fun _ => ?_))
   | exact ih0 _ _ _
   | exact spec_KnowOk.mono _ _ _ _ _ _ _ _ _ _ _ _
   | exact spec_l09Digits.mono _ _ _
   | exact LeO.none _
   | refine LeO.ite ?_ ?_
   | refine LeO.bind ?_ (fun _ => ?_)
set_option maxHeartbeats 8000000 in
set_option maxRecDepth 100000 in
theorem spec_KnowText.calls (k : Nat) (a0_0 : Int) (a0_1 : Int) (a0_2 : Int) (a0_3 : Int) (a0_4 : Int) (a0_5 : Int) (a0_6 : Int) (a0_7 : Int) (a0_8 : Int) (a0_9 : Int) (a0_10 : Int) (r : ByteArray) (w : World) (h : spec_KnowText.f k a0_0 a0_1 a0_2 a0_3 a0_4 a0_5 a0_6 a0_7 a0_8 a0_9 a0_10 = some r) :
  Calls Tryd.prog 9 #[.agg #[.int .i64 a0_0, .int .i64 a0_1, .int .i64 a0_2, .int .i64 a0_3, .int .i64 a0_4, .int .i64 a0_5, .int .i64 a0_6, .int .i64 a0_7, .int .i64 a0_8, .int .i64 a0_9, .int .i64 a0_10]] w fun e w' => e = .returned (.string r) ∧ Below w.heap.size w w' := by
 have hu25 := Tryd.underlying25
 have HB := Aside0.mk (Below.refl w.heap.size w)
 have H : ((spec_KnowOk.f k a0_0 a0_1 a0_2 a0_3 a0_4 a0_5 a0_6 a0_7 a0_8 a0_9 a0_10).bind fun t115 => (if t115 = true then ((spec_l09List.f a0_0 a0_1 a0_2 a0_3 a0_4 a0_5 a0_6 a0_7 a0_8 a0_9 a0_10).bind fun t116 => ((spec_l09Digits.f k a0_0 2).bind fun t119 => (if 2 + t119.size ≤ 9223372036854775807 then (if ((⟨#[65, 61]⟩ : ByteArray) ++ t119).size + 3 ≤ 9223372036854775807 then ((spec_l09Digits.f k a0_1 2).bind fun t120 => (if (((⟨#[65, 61]⟩ : ByteArray) ++ t119) ++ (⟨#[32, 88, 61]⟩ : ByteArray)).size + t120.size ≤ 9223372036854775807 then (if ((((⟨#[65, 61]⟩ : ByteArray) ++ t119) ++ (⟨#[32, 88, 61]⟩ : ByteArray)) ++ t120).size + 3 ≤ 9223372036854775807 then ((spec_l09Digits.f k a0_2 2).bind fun t121 => (if (((((⟨#[65, 61]⟩ : ByteArray) ++ t119) ++ (⟨#[32, 88, 61]⟩ : ByteArray)) ++ t120) ++ (⟨#[32, 89, 61]⟩ : ByteArray)).size + t121.size ≤ 9223372036854775807 then (if ((((((⟨#[65, 61]⟩ : ByteArray) ++ t119) ++ (⟨#[32, 88, 61]⟩ : ByteArray)) ++ t120) ++ (⟨#[32, 89, 61]⟩ : ByteArray)) ++ t121).size + 3 ≤ 9223372036854775807 then ((spec_l09Digits.f k a0_3 2).bind fun t122 => (if (((((((⟨#[65, 61]⟩ : ByteArray) ++ t119) ++ (⟨#[32, 88, 61]⟩ : ByteArray)) ++ t120) ++ (⟨#[32, 89, 61]⟩ : ByteArray)) ++ t121) ++ (⟨#[32, 83, 61]⟩ : ByteArray)).size + t122.size ≤ 9223372036854775807 then (if ((((((((⟨#[65, 61]⟩ : ByteArray) ++ t119) ++ (⟨#[32, 88, 61]⟩ : ByteArray)) ++ t120) ++ (⟨#[32, 89, 61]⟩ : ByteArray)) ++ t121) ++ (⟨#[32, 83, 61]⟩ : ByteArray)) ++ t122).size + 4 ≤ 9223372036854775807 then ((spec_l09Digits.f k a0_4 4).bind fun t123 => (if (((((((((⟨#[65, 61]⟩ : ByteArray) ++ t119) ++ (⟨#[32, 88, 61]⟩ : ByteArray)) ++ t120) ++ (⟨#[32, 89, 61]⟩ : ByteArray)) ++ t121) ++ (⟨#[32, 83, 61]⟩ : ByteArray)) ++ t122) ++ (⟨#[32, 80, 67, 61]⟩ : ByteArray)).size + t123.size ≤ 9223372036854775807 then (if ((((((((((⟨#[65, 61]⟩ : ByteArray) ++ t119) ++ (⟨#[32, 88, 61]⟩ : ByteArray)) ++ t120) ++ (⟨#[32, 89, 61]⟩ : ByteArray)) ++ t121) ++ (⟨#[32, 83, 61]⟩ : ByteArray)) ++ t122) ++ (⟨#[32, 80, 67, 61]⟩ : ByteArray)) ++ t123).size + 1 ≤ 9223372036854775807 then (spec_KnowText.l0 k t116 (((((((((((⟨#[65, 61]⟩ : ByteArray) ++ t119) ++ (⟨#[32, 88, 61]⟩ : ByteArray)) ++ t120) ++ (⟨#[32, 89, 61]⟩ : ByteArray)) ++ t121) ++ (⟨#[32, 83, 61]⟩ : ByteArray)) ++ t122) ++ (⟨#[32, 80, 67, 61]⟩ : ByteArray)) ++ t123) ++ (⟨#[32]⟩ : ByteArray)) 0) else (none)) else (none))) else (none)) else (none))) else (none)) else (none))) else (none)) else (none))) else (none)) else (none)))) else (some (⟨#[]⟩ : ByteArray)))) = some r := h
 clear h
 replace H := Option.bind_eq_some_iff.mp H
 obtain ⟨t115, A20, H⟩ := H
 replace H : (if t115 = true then ((spec_l09List.f a0_0 a0_1 a0_2 a0_3 a0_4 a0_5 a0_6 a0_7 a0_8 a0_9 a0_10).bind fun t116 => ((spec_l09Digits.f k a0_0 2).bind fun t119 => (if 2 + t119.size ≤ 9223372036854775807 then (if ((⟨#[65, 61]⟩ : ByteArray) ++ t119).size + 3 ≤ 9223372036854775807 then ((spec_l09Digits.f k a0_1 2).bind fun t120 => (if (((⟨#[65, 61]⟩ : ByteArray) ++ t119) ++ (⟨#[32, 88, 61]⟩ : ByteArray)).size + t120.size ≤ 9223372036854775807 then (if ((((⟨#[65, 61]⟩ : ByteArray) ++ t119) ++ (⟨#[32, 88, 61]⟩ : ByteArray)) ++ t120).size + 3 ≤ 9223372036854775807 then ((spec_l09Digits.f k a0_2 2).bind fun t121 => (if (((((⟨#[65, 61]⟩ : ByteArray) ++ t119) ++ (⟨#[32, 88, 61]⟩ : ByteArray)) ++ t120) ++ (⟨#[32, 89, 61]⟩ : ByteArray)).size + t121.size ≤ 9223372036854775807 then (if ((((((⟨#[65, 61]⟩ : ByteArray) ++ t119) ++ (⟨#[32, 88, 61]⟩ : ByteArray)) ++ t120) ++ (⟨#[32, 89, 61]⟩ : ByteArray)) ++ t121).size + 3 ≤ 9223372036854775807 then ((spec_l09Digits.f k a0_3 2).bind fun t122 => (if (((((((⟨#[65, 61]⟩ : ByteArray) ++ t119) ++ (⟨#[32, 88, 61]⟩ : ByteArray)) ++ t120) ++ (⟨#[32, 89, 61]⟩ : ByteArray)) ++ t121) ++ (⟨#[32, 83, 61]⟩ : ByteArray)).size + t122.size ≤ 9223372036854775807 then (if ((((((((⟨#[65, 61]⟩ : ByteArray) ++ t119) ++ (⟨#[32, 88, 61]⟩ : ByteArray)) ++ t120) ++ (⟨#[32, 89, 61]⟩ : ByteArray)) ++ t121) ++ (⟨#[32, 83, 61]⟩ : ByteArray)) ++ t122).size + 4 ≤ 9223372036854775807 then ((spec_l09Digits.f k a0_4 4).bind fun t123 => (if (((((((((⟨#[65, 61]⟩ : ByteArray) ++ t119) ++ (⟨#[32, 88, 61]⟩ : ByteArray)) ++ t120) ++ (⟨#[32, 89, 61]⟩ : ByteArray)) ++ t121) ++ (⟨#[32, 83, 61]⟩ : ByteArray)) ++ t122) ++ (⟨#[32, 80, 67, 61]⟩ : ByteArray)).size + t123.size ≤ 9223372036854775807 then (if ((((((((((⟨#[65, 61]⟩ : ByteArray) ++ t119) ++ (⟨#[32, 88, 61]⟩ : ByteArray)) ++ t120) ++ (⟨#[32, 89, 61]⟩ : ByteArray)) ++ t121) ++ (⟨#[32, 83, 61]⟩ : ByteArray)) ++ t122) ++ (⟨#[32, 80, 67, 61]⟩ : ByteArray)) ++ t123).size + 1 ≤ 9223372036854775807 then (spec_KnowText.l0 k t116 (((((((((((⟨#[65, 61]⟩ : ByteArray) ++ t119) ++ (⟨#[32, 88, 61]⟩ : ByteArray)) ++ t120) ++ (⟨#[32, 89, 61]⟩ : ByteArray)) ++ t121) ++ (⟨#[32, 83, 61]⟩ : ByteArray)) ++ t122) ++ (⟨#[32, 80, 67, 61]⟩ : ByteArray)) ++ t123) ++ (⟨#[32]⟩ : ByteArray)) 0) else (none)) else (none))) else (none)) else (none))) else (none)) else (none))) else (none)) else (none))) else (none)) else (none)))) else (some (⟨#[]⟩ : ByteArray))) = some r := H
 have A2 := Aside0.mk A20
 clear A20
 by_cases c3 : t115 = true
 ·subst c3
  have H1 : ((spec_l09List.f a0_0 a0_1 a0_2 a0_3 a0_4 a0_5 a0_6 a0_7 a0_8 a0_9 a0_10).bind fun t116 => ((spec_l09Digits.f k a0_0 2).bind fun t119 => (if 2 + t119.size ≤ 9223372036854775807 then (if ((⟨#[65, 61]⟩ : ByteArray) ++ t119).size + 3 ≤ 9223372036854775807 then ((spec_l09Digits.f k a0_1 2).bind fun t120 => (if (((⟨#[65, 61]⟩ : ByteArray) ++ t119) ++ (⟨#[32, 88, 61]⟩ : ByteArray)).size + t120.size ≤ 9223372036854775807 then (if ((((⟨#[65, 61]⟩ : ByteArray) ++ t119) ++ (⟨#[32, 88, 61]⟩ : ByteArray)) ++ t120).size + 3 ≤ 9223372036854775807 then ((spec_l09Digits.f k a0_2 2).bind fun t121 => (if (((((⟨#[65, 61]⟩ : ByteArray) ++ t119) ++ (⟨#[32, 88, 61]⟩ : ByteArray)) ++ t120) ++ (⟨#[32, 89, 61]⟩ : ByteArray)).size + t121.size ≤ 9223372036854775807 then (if ((((((⟨#[65, 61]⟩ : ByteArray) ++ t119) ++ (⟨#[32, 88, 61]⟩ : ByteArray)) ++ t120) ++ (⟨#[32, 89, 61]⟩ : ByteArray)) ++ t121).size + 3 ≤ 9223372036854775807 then ((spec_l09Digits.f k a0_3 2).bind fun t122 => (if (((((((⟨#[65, 61]⟩ : ByteArray) ++ t119) ++ (⟨#[32, 88, 61]⟩ : ByteArray)) ++ t120) ++ (⟨#[32, 89, 61]⟩ : ByteArray)) ++ t121) ++ (⟨#[32, 83, 61]⟩ : ByteArray)).size + t122.size ≤ 9223372036854775807 then (if ((((((((⟨#[65, 61]⟩ : ByteArray) ++ t119) ++ (⟨#[32, 88, 61]⟩ : ByteArray)) ++ t120) ++ (⟨#[32, 89, 61]⟩ : ByteArray)) ++ t121) ++ (⟨#[32, 83, 61]⟩ : ByteArray)) ++ t122).size + 4 ≤ 9223372036854775807 then ((spec_l09Digits.f k a0_4 4).bind fun t123 => (if (((((((((⟨#[65, 61]⟩ : ByteArray) ++ t119) ++ (⟨#[32, 88, 61]⟩ : ByteArray)) ++ t120) ++ (⟨#[32, 89, 61]⟩ : ByteArray)) ++ t121) ++ (⟨#[32, 83, 61]⟩ : ByteArray)) ++ t122) ++ (⟨#[32, 80, 67, 61]⟩ : ByteArray)).size + t123.size ≤ 9223372036854775807 then (if ((((((((((⟨#[65, 61]⟩ : ByteArray) ++ t119) ++ (⟨#[32, 88, 61]⟩ : ByteArray)) ++ t120) ++ (⟨#[32, 89, 61]⟩ : ByteArray)) ++ t121) ++ (⟨#[32, 83, 61]⟩ : ByteArray)) ++ t122) ++ (⟨#[32, 80, 67, 61]⟩ : ByteArray)) ++ t123).size + 1 ≤ 9223372036854775807 then (spec_KnowText.l0 k t116 (((((((((((⟨#[65, 61]⟩ : ByteArray) ++ t119) ++ (⟨#[32, 88, 61]⟩ : ByteArray)) ++ t120) ++ (⟨#[32, 89, 61]⟩ : ByteArray)) ++ t121) ++ (⟨#[32, 83, 61]⟩ : ByteArray)) ++ t122) ++ (⟨#[32, 80, 67, 61]⟩ : ByteArray)) ++ t123) ++ (⟨#[32]⟩ : ByteArray)) 0) else (none)) else (none))) else (none)) else (none))) else (none)) else (none))) else (none)) else (none))) else (none)) else (none)))) = some r := by rw [if_pos rfl] at H; exact H
  clear H
  have H := H1
  clear H1
  replace H := Option.bind_eq_some_iff.mp H
  obtain ⟨t116, A40, H⟩ := H
  replace H : ((spec_l09Digits.f k a0_0 2).bind fun t119 => (if 2 + t119.size ≤ 9223372036854775807 then (if ((⟨#[65, 61]⟩ : ByteArray) ++ t119).size + 3 ≤ 9223372036854775807 then ((spec_l09Digits.f k a0_1 2).bind fun t120 => (if (((⟨#[65, 61]⟩ : ByteArray) ++ t119) ++ (⟨#[32, 88, 61]⟩ : ByteArray)).size + t120.size ≤ 9223372036854775807 then (if ((((⟨#[65, 61]⟩ : ByteArray) ++ t119) ++ (⟨#[32, 88, 61]⟩ : ByteArray)) ++ t120).size + 3 ≤ 9223372036854775807 then ((spec_l09Digits.f k a0_2 2).bind fun t121 => (if (((((⟨#[65, 61]⟩ : ByteArray) ++ t119) ++ (⟨#[32, 88, 61]⟩ : ByteArray)) ++ t120) ++ (⟨#[32, 89, 61]⟩ : ByteArray)).size + t121.size ≤ 9223372036854775807 then (if ((((((⟨#[65, 61]⟩ : ByteArray) ++ t119) ++ (⟨#[32, 88, 61]⟩ : ByteArray)) ++ t120) ++ (⟨#[32, 89, 61]⟩ : ByteArray)) ++ t121).size + 3 ≤ 9223372036854775807 then ((spec_l09Digits.f k a0_3 2).bind fun t122 => (if (((((((⟨#[65, 61]⟩ : ByteArray) ++ t119) ++ (⟨#[32, 88, 61]⟩ : ByteArray)) ++ t120) ++ (⟨#[32, 89, 61]⟩ : ByteArray)) ++ t121) ++ (⟨#[32, 83, 61]⟩ : ByteArray)).size + t122.size ≤ 9223372036854775807 then (if ((((((((⟨#[65, 61]⟩ : ByteArray) ++ t119) ++ (⟨#[32, 88, 61]⟩ : ByteArray)) ++ t120) ++ (⟨#[32, 89, 61]⟩ : ByteArray)) ++ t121) ++ (⟨#[32, 83, 61]⟩ : ByteArray)) ++ t122).size + 4 ≤ 9223372036854775807 then ((spec_l09Digits.f k a0_4 4).bind fun t123 => (if (((((((((⟨#[65, 61]⟩ : ByteArray) ++ t119) ++ (⟨#[32, 88, 61]⟩ : ByteArray)) ++ t120) ++ (⟨#[32, 89, 61]⟩ : ByteArray)) ++ t121) ++ (⟨#[32, 83, 61]⟩ : ByteArray)) ++ t122) ++ (⟨#[32, 80, 67, 61]⟩ : ByteArray)).size + t123.size ≤ 9223372036854775807 then (if ((((((((((⟨#[65, 61]⟩ : ByteArray) ++ t119) ++ (⟨#[32, 88, 61]⟩ : ByteArray)) ++ t120) ++ (⟨#[32, 89, 61]⟩ : ByteArray)) ++ t121) ++ (⟨#[32, 83, 61]⟩ : ByteArray)) ++ t122) ++ (⟨#[32, 80, 67, 61]⟩ : ByteArray)) ++ t123).size + 1 ≤ 9223372036854775807 then (spec_KnowText.l0 k t116 (((((((((((⟨#[65, 61]⟩ : ByteArray) ++ t119) ++ (⟨#[32, 88, 61]⟩ : ByteArray)) ++ t120) ++ (⟨#[32, 89, 61]⟩ : ByteArray)) ++ t121) ++ (⟨#[32, 83, 61]⟩ : ByteArray)) ++ t122) ++ (⟨#[32, 80, 67, 61]⟩ : ByteArray)) ++ t123) ++ (⟨#[32]⟩ : ByteArray)) 0) else (none)) else (none))) else (none)) else (none))) else (none)) else (none))) else (none)) else (none))) else (none)) else (none))) = some r := H
  have A4 := Aside0.mk A40
  clear A40
  replace H := Option.bind_eq_some_iff.mp H
  obtain ⟨t119, A50, H⟩ := H
  replace H : (if 2 + t119.size ≤ 9223372036854775807 then (if ((⟨#[65, 61]⟩ : ByteArray) ++ t119).size + 3 ≤ 9223372036854775807 then ((spec_l09Digits.f k a0_1 2).bind fun t120 => (if (((⟨#[65, 61]⟩ : ByteArray) ++ t119) ++ (⟨#[32, 88, 61]⟩ : ByteArray)).size + t120.size ≤ 9223372036854775807 then (if ((((⟨#[65, 61]⟩ : ByteArray) ++ t119) ++ (⟨#[32, 88, 61]⟩ : ByteArray)) ++ t120).size + 3 ≤ 9223372036854775807 then ((spec_l09Digits.f k a0_2 2).bind fun t121 => (if (((((⟨#[65, 61]⟩ : ByteArray) ++ t119) ++ (⟨#[32, 88, 61]⟩ : ByteArray)) ++ t120) ++ (⟨#[32, 89, 61]⟩ : ByteArray)).size + t121.size ≤ 9223372036854775807 then (if ((((((⟨#[65, 61]⟩ : ByteArray) ++ t119) ++ (⟨#[32, 88, 61]⟩ : ByteArray)) ++ t120) ++ (⟨#[32, 89, 61]⟩ : ByteArray)) ++ t121).size + 3 ≤ 9223372036854775807 then ((spec_l09Digits.f k a0_3 2).bind fun t122 => (if (((((((⟨#[65, 61]⟩ : ByteArray) ++ t119) ++ (⟨#[32, 88, 61]⟩ : ByteArray)) ++ t120) ++ (⟨#[32, 89, 61]⟩ : ByteArray)) ++ t121) ++ (⟨#[32, 83, 61]⟩ : ByteArray)).size + t122.size ≤ 9223372036854775807 then (if ((((((((⟨#[65, 61]⟩ : ByteArray) ++ t119) ++ (⟨#[32, 88, 61]⟩ : ByteArray)) ++ t120) ++ (⟨#[32, 89, 61]⟩ : ByteArray)) ++ t121) ++ (⟨#[32, 83, 61]⟩ : ByteArray)) ++ t122).size + 4 ≤ 9223372036854775807 then ((spec_l09Digits.f k a0_4 4).bind fun t123 => (if (((((((((⟨#[65, 61]⟩ : ByteArray) ++ t119) ++ (⟨#[32, 88, 61]⟩ : ByteArray)) ++ t120) ++ (⟨#[32, 89, 61]⟩ : ByteArray)) ++ t121) ++ (⟨#[32, 83, 61]⟩ : ByteArray)) ++ t122) ++ (⟨#[32, 80, 67, 61]⟩ : ByteArray)).size + t123.size ≤ 9223372036854775807 then (if ((((((((((⟨#[65, 61]⟩ : ByteArray) ++ t119) ++ (⟨#[32, 88, 61]⟩ : ByteArray)) ++ t120) ++ (⟨#[32, 89, 61]⟩ : ByteArray)) ++ t121) ++ (⟨#[32, 83, 61]⟩ : ByteArray)) ++ t122) ++ (⟨#[32, 80, 67, 61]⟩ : ByteArray)) ++ t123).size + 1 ≤ 9223372036854775807 then (spec_KnowText.l0 k t116 (((((((((((⟨#[65, 61]⟩ : ByteArray) ++ t119) ++ (⟨#[32, 88, 61]⟩ : ByteArray)) ++ t120) ++ (⟨#[32, 89, 61]⟩ : ByteArray)) ++ t121) ++ (⟨#[32, 83, 61]⟩ : ByteArray)) ++ t122) ++ (⟨#[32, 80, 67, 61]⟩ : ByteArray)) ++ t123) ++ (⟨#[32]⟩ : ByteArray)) 0) else (none)) else (none))) else (none)) else (none))) else (none)) else (none))) else (none)) else (none))) else (none)) else (none)) = some r := H
  have A5 := Aside0.mk A50
  clear A50
  by_cases c6 : 2 + t119.size ≤ 9223372036854775807
  ·rw [if_pos c6] at H
   have c6b0 := eq_true c6
   have c6b1 : decide (2 + t119.size ≤ 9223372036854775807) = true := decide_eq_true c6
   try have c6b2 : (9223372036854775807 < 2 + t119.size) = False := eq_false (Nat.not_lt.2 c6)
   try (have c6b3 := c6; simp at c6b3; have c6b4 := eq_true c6b3; have c6b5 := decide_eq_true c6b3; have c6b6 := eq_false (Nat.not_lt.2 c6b3))
   by_cases c7 : ((⟨#[65, 61]⟩ : ByteArray) ++ t119).size + 3 ≤ 9223372036854775807
   ·rw [if_pos c7] at H
    have c7b0 := eq_true c7
    have c7b1 : decide (((⟨#[65, 61]⟩ : ByteArray) ++ t119).size + 3 ≤ 9223372036854775807) = true := decide_eq_true c7
    try have c7b2 : (9223372036854775807 < ((⟨#[65, 61]⟩ : ByteArray) ++ t119).size + 3) = False := eq_false (Nat.not_lt.2 c7)
    try (have c7b3 := c7; simp at c7b3; have c7b4 := eq_true c7b3; have c7b5 := decide_eq_true c7b3; have c7b6 := eq_false (Nat.not_lt.2 c7b3))
    have c7b7 : 2 + t119.size + 3 ≤ 9223372036854775807 := by have h_ := c7; simp only [ByteArray.size_append] at h_; exact h_
    have c7b8 := eq_false (Nat.not_lt.2 c7b7)
    replace c7b7 := eq_true c7b7
    replace H := Option.bind_eq_some_iff.mp H
    obtain ⟨t120, A80, H⟩ := H
    replace H : (if (((⟨#[65, 61]⟩ : ByteArray) ++ t119) ++ (⟨#[32, 88, 61]⟩ : ByteArray)).size + t120.size ≤ 9223372036854775807 then (if ((((⟨#[65, 61]⟩ : ByteArray) ++ t119) ++ (⟨#[32, 88, 61]⟩ : ByteArray)) ++ t120).size + 3 ≤ 9223372036854775807 then ((spec_l09Digits.f k a0_2 2).bind fun t121 => (if (((((⟨#[65, 61]⟩ : ByteArray) ++ t119) ++ (⟨#[32, 88, 61]⟩ : ByteArray)) ++ t120) ++ (⟨#[32, 89, 61]⟩ : ByteArray)).size + t121.size ≤ 9223372036854775807 then (if ((((((⟨#[65, 61]⟩ : ByteArray) ++ t119) ++ (⟨#[32, 88, 61]⟩ : ByteArray)) ++ t120) ++ (⟨#[32, 89, 61]⟩ : ByteArray)) ++ t121).size + 3 ≤ 9223372036854775807 then ((spec_l09Digits.f k a0_3 2).bind fun t122 => (if (((((((⟨#[65, 61]⟩ : ByteArray) ++ t119) ++ (⟨#[32, 88, 61]⟩ : ByteArray)) ++ t120) ++ (⟨#[32, 89, 61]⟩ : ByteArray)) ++ t121) ++ (⟨#[32, 83, 61]⟩ : ByteArray)).size + t122.size ≤ 9223372036854775807 then (if ((((((((⟨#[65, 61]⟩ : ByteArray) ++ t119) ++ (⟨#[32, 88, 61]⟩ : ByteArray)) ++ t120) ++ (⟨#[32, 89, 61]⟩ : ByteArray)) ++ t121) ++ (⟨#[32, 83, 61]⟩ : ByteArray)) ++ t122).size + 4 ≤ 9223372036854775807 then ((spec_l09Digits.f k a0_4 4).bind fun t123 => (if (((((((((⟨#[65, 61]⟩ : ByteArray) ++ t119) ++ (⟨#[32, 88, 61]⟩ : ByteArray)) ++ t120) ++ (⟨#[32, 89, 61]⟩ : ByteArray)) ++ t121) ++ (⟨#[32, 83, 61]⟩ : ByteArray)) ++ t122) ++ (⟨#[32, 80, 67, 61]⟩ : ByteArray)).size + t123.size ≤ 9223372036854775807 then (if ((((((((((⟨#[65, 61]⟩ : ByteArray) ++ t119) ++ (⟨#[32, 88, 61]⟩ : ByteArray)) ++ t120) ++ (⟨#[32, 89, 61]⟩ : ByteArray)) ++ t121) ++ (⟨#[32, 83, 61]⟩ : ByteArray)) ++ t122) ++ (⟨#[32, 80, 67, 61]⟩ : ByteArray)) ++ t123).size + 1 ≤ 9223372036854775807 then (spec_KnowText.l0 k t116 (((((((((((⟨#[65, 61]⟩ : ByteArray) ++ t119) ++ (⟨#[32, 88, 61]⟩ : ByteArray)) ++ t120) ++ (⟨#[32, 89, 61]⟩ : ByteArray)) ++ t121) ++ (⟨#[32, 83, 61]⟩ : ByteArray)) ++ t122) ++ (⟨#[32, 80, 67, 61]⟩ : ByteArray)) ++ t123) ++ (⟨#[32]⟩ : ByteArray)) 0) else (none)) else (none))) else (none)) else (none))) else (none)) else (none))) else (none)) else (none)) = some r := H
    have A8 := Aside0.mk A80
    clear A80
    by_cases c9 : (((⟨#[65, 61]⟩ : ByteArray) ++ t119) ++ (⟨#[32, 88, 61]⟩ : ByteArray)).size + t120.size ≤ 9223372036854775807
    ·rw [if_pos c9] at H
     have c9b0 := eq_true c9
     have c9b1 : decide ((((⟨#[65, 61]⟩ : ByteArray) ++ t119) ++ (⟨#[32, 88, 61]⟩ : ByteArray)).size + t120.size ≤ 9223372036854775807) = true := decide_eq_true c9
     try have c9b2 : (9223372036854775807 < (((⟨#[65, 61]⟩ : ByteArray) ++ t119) ++ (⟨#[32, 88, 61]⟩ : ByteArray)).size + t120.size) = False := eq_false (Nat.not_lt.2 c9)
     try (have c9b3 := c9; simp at c9b3; have c9b4 := eq_true c9b3; have c9b5 := decide_eq_true c9b3; have c9b6 := eq_false (Nat.not_lt.2 c9b3))
     have c9b7 : 2 + t119.size + 3 + t120.size ≤ 9223372036854775807 := by have h_ := c9; simp only [ByteArray.size_append] at h_; exact h_
     have c9b8 := eq_false (Nat.not_lt.2 c9b7)
     replace c9b7 := eq_true c9b7
     by_cases c10 : ((((⟨#[65, 61]⟩ : ByteArray) ++ t119) ++ (⟨#[32, 88, 61]⟩ : ByteArray)) ++ t120).size + 3 ≤ 9223372036854775807
     ·rw [if_pos c10] at H
      have c10b0 := eq_true c10
      have c10b1 : decide (((((⟨#[65, 61]⟩ : ByteArray) ++ t119) ++ (⟨#[32, 88, 61]⟩ : ByteArray)) ++ t120).size + 3 ≤ 9223372036854775807) = true := decide_eq_true c10
      try have c10b2 : (9223372036854775807 < ((((⟨#[65, 61]⟩ : ByteArray) ++ t119) ++ (⟨#[32, 88, 61]⟩ : ByteArray)) ++ t120).size + 3) = False := eq_false (Nat.not_lt.2 c10)
      try (have c10b3 := c10; simp at c10b3; have c10b4 := eq_true c10b3; have c10b5 := decide_eq_true c10b3; have c10b6 := eq_false (Nat.not_lt.2 c10b3))
      have c10b7 : 2 + t119.size + 3 + t120.size + 3 ≤ 9223372036854775807 := by have h_ := c10; simp only [ByteArray.size_append] at h_; exact h_
      have c10b8 := eq_false (Nat.not_lt.2 c10b7)
      replace c10b7 := eq_true c10b7
      replace H := Option.bind_eq_some_iff.mp H
      obtain ⟨t121, A110, H⟩ := H
      replace H : (if (((((⟨#[65, 61]⟩ : ByteArray) ++ t119) ++ (⟨#[32, 88, 61]⟩ : ByteArray)) ++ t120) ++ (⟨#[32, 89, 61]⟩ : ByteArray)).size + t121.size ≤ 9223372036854775807 then (if ((((((⟨#[65, 61]⟩ : ByteArray) ++ t119) ++ (⟨#[32, 88, 61]⟩ : ByteArray)) ++ t120) ++ (⟨#[32, 89, 61]⟩ : ByteArray)) ++ t121).size + 3 ≤ 9223372036854775807 then ((spec_l09Digits.f k a0_3 2).bind fun t122 => (if (((((((⟨#[65, 61]⟩ : ByteArray) ++ t119) ++ (⟨#[32, 88, 61]⟩ : ByteArray)) ++ t120) ++ (⟨#[32, 89, 61]⟩ : ByteArray)) ++ t121) ++ (⟨#[32, 83, 61]⟩ : ByteArray)).size + t122.size ≤ 9223372036854775807 then (if ((((((((⟨#[65, 61]⟩ : ByteArray) ++ t119) ++ (⟨#[32, 88, 61]⟩ : ByteArray)) ++ t120) ++ (⟨#[32, 89, 61]⟩ : ByteArray)) ++ t121) ++ (⟨#[32, 83, 61]⟩ : ByteArray)) ++ t122).size + 4 ≤ 9223372036854775807 then ((spec_l09Digits.f k a0_4 4).bind fun t123 => (if (((((((((⟨#[65, 61]⟩ : ByteArray) ++ t119) ++ (⟨#[32, 88, 61]⟩ : ByteArray)) ++ t120) ++ (⟨#[32, 89, 61]⟩ : ByteArray)) ++ t121) ++ (⟨#[32, 83, 61]⟩ : ByteArray)) ++ t122) ++ (⟨#[32, 80, 67, 61]⟩ : ByteArray)).size + t123.size ≤ 9223372036854775807 then (if ((((((((((⟨#[65, 61]⟩ : ByteArray) ++ t119) ++ (⟨#[32, 88, 61]⟩ : ByteArray)) ++ t120) ++ (⟨#[32, 89, 61]⟩ : ByteArray)) ++ t121) ++ (⟨#[32, 83, 61]⟩ : ByteArray)) ++ t122) ++ (⟨#[32, 80, 67, 61]⟩ : ByteArray)) ++ t123).size + 1 ≤ 9223372036854775807 then (spec_KnowText.l0 k t116 (((((((((((⟨#[65, 61]⟩ : ByteArray) ++ t119) ++ (⟨#[32, 88, 61]⟩ : ByteArray)) ++ t120) ++ (⟨#[32, 89, 61]⟩ : ByteArray)) ++ t121) ++ (⟨#[32, 83, 61]⟩ : ByteArray)) ++ t122) ++ (⟨#[32, 80, 67, 61]⟩ : ByteArray)) ++ t123) ++ (⟨#[32]⟩ : ByteArray)) 0) else (none)) else (none))) else (none)) else (none))) else (none)) else (none)) = some r := H
      have A11 := Aside0.mk A110
      clear A110
      by_cases c12 : (((((⟨#[65, 61]⟩ : ByteArray) ++ t119) ++ (⟨#[32, 88, 61]⟩ : ByteArray)) ++ t120) ++ (⟨#[32, 89, 61]⟩ : ByteArray)).size + t121.size ≤ 9223372036854775807
      ·rw [if_pos c12] at H
       have c12b0 := eq_true c12
       have c12b1 : decide ((((((⟨#[65, 61]⟩ : ByteArray) ++ t119) ++ (⟨#[32, 88, 61]⟩ : ByteArray)) ++ t120) ++ (⟨#[32, 89, 61]⟩ : ByteArray)).size + t121.size ≤ 9223372036854775807) = true := decide_eq_true c12
       try have c12b2 : (9223372036854775807 < (((((⟨#[65, 61]⟩ : ByteArray) ++ t119) ++ (⟨#[32, 88, 61]⟩ : ByteArray)) ++ t120) ++ (⟨#[32, 89, 61]⟩ : ByteArray)).size + t121.size) = False := eq_false (Nat.not_lt.2 c12)
       try (have c12b3 := c12; simp at c12b3; have c12b4 := eq_true c12b3; have c12b5 := decide_eq_true c12b3; have c12b6 := eq_false (Nat.not_lt.2 c12b3))
       have c12b7 : 2 + t119.size + 3 + t120.size + 3 + t121.size ≤ 9223372036854775807 := by have h_ := c12; simp only [ByteArray.size_append] at h_; exact h_
       have c12b8 := eq_false (Nat.not_lt.2 c12b7)
       replace c12b7 := eq_true c12b7
       by_cases c13 : ((((((⟨#[65, 61]⟩ : ByteArray) ++ t119) ++ (⟨#[32, 88, 61]⟩ : ByteArray)) ++ t120) ++ (⟨#[32, 89, 61]⟩ : ByteArray)) ++ t121).size + 3 ≤ 9223372036854775807
       ·rw [if_pos c13] at H
        have c13b0 := eq_true c13
        have c13b1 : decide (((((((⟨#[65, 61]⟩ : ByteArray) ++ t119) ++ (⟨#[32, 88, 61]⟩ : ByteArray)) ++ t120) ++ (⟨#[32, 89, 61]⟩ : ByteArray)) ++ t121).size + 3 ≤ 9223372036854775807) = true := decide_eq_true c13
        try have c13b2 : (9223372036854775807 < ((((((⟨#[65, 61]⟩ : ByteArray) ++ t119) ++ (⟨#[32, 88, 61]⟩ : ByteArray)) ++ t120) ++ (⟨#[32, 89, 61]⟩ : ByteArray)) ++ t121).size + 3) = False := eq_false (Nat.not_lt.2 c13)
        try (have c13b3 := c13; simp at c13b3; have c13b4 := eq_true c13b3; have c13b5 := decide_eq_true c13b3; have c13b6 := eq_false (Nat.not_lt.2 c13b3))
        have c13b7 : 2 + t119.size + 3 + t120.size + 3 + t121.size + 3 ≤ 9223372036854775807 := by have h_ := c13; simp only [ByteArray.size_append] at h_; exact h_
        have c13b8 := eq_false (Nat.not_lt.2 c13b7)
        replace c13b7 := eq_true c13b7
        replace H := Option.bind_eq_some_iff.mp H
        obtain ⟨t122, A140, H⟩ := H
        replace H : (if (((((((⟨#[65, 61]⟩ : ByteArray) ++ t119) ++ (⟨#[32, 88, 61]⟩ : ByteArray)) ++ t120) ++ (⟨#[32, 89, 61]⟩ : ByteArray)) ++ t121) ++ (⟨#[32, 83, 61]⟩ : ByteArray)).size + t122.size ≤ 9223372036854775807 then (if ((((((((⟨#[65, 61]⟩ : ByteArray) ++ t119) ++ (⟨#[32, 88, 61]⟩ : ByteArray)) ++ t120) ++ (⟨#[32, 89, 61]⟩ : ByteArray)) ++ t121) ++ (⟨#[32, 83, 61]⟩ : ByteArray)) ++ t122).size + 4 ≤ 9223372036854775807 then ((spec_l09Digits.f k a0_4 4).bind fun t123 => (if (((((((((⟨#[65, 61]⟩ : ByteArray) ++ t119) ++ (⟨#[32, 88, 61]⟩ : ByteArray)) ++ t120) ++ (⟨#[32, 89, 61]⟩ : ByteArray)) ++ t121) ++ (⟨#[32, 83, 61]⟩ : ByteArray)) ++ t122) ++ (⟨#[32, 80, 67, 61]⟩ : ByteArray)).size + t123.size ≤ 9223372036854775807 then (if ((((((((((⟨#[65, 61]⟩ : ByteArray) ++ t119) ++ (⟨#[32, 88, 61]⟩ : ByteArray)) ++ t120) ++ (⟨#[32, 89, 61]⟩ : ByteArray)) ++ t121) ++ (⟨#[32, 83, 61]⟩ : ByteArray)) ++ t122) ++ (⟨#[32, 80, 67, 61]⟩ : ByteArray)) ++ t123).size + 1 ≤ 9223372036854775807 then (spec_KnowText.l0 k t116 (((((((((((⟨#[65, 61]⟩ : ByteArray) ++ t119) ++ (⟨#[32, 88, 61]⟩ : ByteArray)) ++ t120) ++ (⟨#[32, 89, 61]⟩ : ByteArray)) ++ t121) ++ (⟨#[32, 83, 61]⟩ : ByteArray)) ++ t122) ++ (⟨#[32, 80, 67, 61]⟩ : ByteArray)) ++ t123) ++ (⟨#[32]⟩ : ByteArray)) 0) else (none)) else (none))) else (none)) else (none)) = some r := H
        have A14 := Aside0.mk A140
        clear A140
        by_cases c15 : (((((((⟨#[65, 61]⟩ : ByteArray) ++ t119) ++ (⟨#[32, 88, 61]⟩ : ByteArray)) ++ t120) ++ (⟨#[32, 89, 61]⟩ : ByteArray)) ++ t121) ++ (⟨#[32, 83, 61]⟩ : ByteArray)).size + t122.size ≤ 9223372036854775807
        ·rw [if_pos c15] at H
         have c15b0 := eq_true c15
         have c15b1 : decide ((((((((⟨#[65, 61]⟩ : ByteArray) ++ t119) ++ (⟨#[32, 88, 61]⟩ : ByteArray)) ++ t120) ++ (⟨#[32, 89, 61]⟩ : ByteArray)) ++ t121) ++ (⟨#[32, 83, 61]⟩ : ByteArray)).size + t122.size ≤ 9223372036854775807) = true := decide_eq_true c15
         try have c15b2 : (9223372036854775807 < (((((((⟨#[65, 61]⟩ : ByteArray) ++ t119) ++ (⟨#[32, 88, 61]⟩ : ByteArray)) ++ t120) ++ (⟨#[32, 89, 61]⟩ : ByteArray)) ++ t121) ++ (⟨#[32, 83, 61]⟩ : ByteArray)).size + t122.size) = False := eq_false (Nat.not_lt.2 c15)
         try (have c15b3 := c15; simp at c15b3; have c15b4 := eq_true c15b3; have c15b5 := decide_eq_true c15b3; have c15b6 := eq_false (Nat.not_lt.2 c15b3))
         have c15b7 : 2 + t119.size + 3 + t120.size + 3 + t121.size + 3 + t122.size ≤ 9223372036854775807 := by have h_ := c15; simp only [ByteArray.size_append] at h_; exact h_
         have c15b8 := eq_false (Nat.not_lt.2 c15b7)
         replace c15b7 := eq_true c15b7
         by_cases c16 : ((((((((⟨#[65, 61]⟩ : ByteArray) ++ t119) ++ (⟨#[32, 88, 61]⟩ : ByteArray)) ++ t120) ++ (⟨#[32, 89, 61]⟩ : ByteArray)) ++ t121) ++ (⟨#[32, 83, 61]⟩ : ByteArray)) ++ t122).size + 4 ≤ 9223372036854775807
         ·rw [if_pos c16] at H
          have c16b0 := eq_true c16
          have c16b1 : decide (((((((((⟨#[65, 61]⟩ : ByteArray) ++ t119) ++ (⟨#[32, 88, 61]⟩ : ByteArray)) ++ t120) ++ (⟨#[32, 89, 61]⟩ : ByteArray)) ++ t121) ++ (⟨#[32, 83, 61]⟩ : ByteArray)) ++ t122).size + 4 ≤ 9223372036854775807) = true := decide_eq_true c16
          try have c16b2 : (9223372036854775807 < ((((((((⟨#[65, 61]⟩ : ByteArray) ++ t119) ++ (⟨#[32, 88, 61]⟩ : ByteArray)) ++ t120) ++ (⟨#[32, 89, 61]⟩ : ByteArray)) ++ t121) ++ (⟨#[32, 83, 61]⟩ : ByteArray)) ++ t122).size + 4) = False := eq_false (Nat.not_lt.2 c16)
          try (have c16b3 := c16; simp at c16b3; have c16b4 := eq_true c16b3; have c16b5 := decide_eq_true c16b3; have c16b6 := eq_false (Nat.not_lt.2 c16b3))
          have c16b7 : 2 + t119.size + 3 + t120.size + 3 + t121.size + 3 + t122.size + 4 ≤ 9223372036854775807 := by have h_ := c16; simp only [ByteArray.size_append] at h_; exact h_
          have c16b8 := eq_false (Nat.not_lt.2 c16b7)
          replace c16b7 := eq_true c16b7
          replace H := Option.bind_eq_some_iff.mp H
          obtain ⟨t123, A170, H⟩ := H
          replace H : (if (((((((((⟨#[65, 61]⟩ : ByteArray) ++ t119) ++ (⟨#[32, 88, 61]⟩ : ByteArray)) ++ t120) ++ (⟨#[32, 89, 61]⟩ : ByteArray)) ++ t121) ++ (⟨#[32, 83, 61]⟩ : ByteArray)) ++ t122) ++ (⟨#[32, 80, 67, 61]⟩ : ByteArray)).size + t123.size ≤ 9223372036854775807 then (if ((((((((((⟨#[65, 61]⟩ : ByteArray) ++ t119) ++ (⟨#[32, 88, 61]⟩ : ByteArray)) ++ t120) ++ (⟨#[32, 89, 61]⟩ : ByteArray)) ++ t121) ++ (⟨#[32, 83, 61]⟩ : ByteArray)) ++ t122) ++ (⟨#[32, 80, 67, 61]⟩ : ByteArray)) ++ t123).size + 1 ≤ 9223372036854775807 then (spec_KnowText.l0 k t116 (((((((((((⟨#[65, 61]⟩ : ByteArray) ++ t119) ++ (⟨#[32, 88, 61]⟩ : ByteArray)) ++ t120) ++ (⟨#[32, 89, 61]⟩ : ByteArray)) ++ t121) ++ (⟨#[32, 83, 61]⟩ : ByteArray)) ++ t122) ++ (⟨#[32, 80, 67, 61]⟩ : ByteArray)) ++ t123) ++ (⟨#[32]⟩ : ByteArray)) 0) else (none)) else (none)) = some r := H
          have A17 := Aside0.mk A170
          clear A170
          by_cases c18 : (((((((((⟨#[65, 61]⟩ : ByteArray) ++ t119) ++ (⟨#[32, 88, 61]⟩ : ByteArray)) ++ t120) ++ (⟨#[32, 89, 61]⟩ : ByteArray)) ++ t121) ++ (⟨#[32, 83, 61]⟩ : ByteArray)) ++ t122) ++ (⟨#[32, 80, 67, 61]⟩ : ByteArray)).size + t123.size ≤ 9223372036854775807
          ·rw [if_pos c18] at H
           have c18b0 := eq_true c18
           have c18b1 : decide ((((((((((⟨#[65, 61]⟩ : ByteArray) ++ t119) ++ (⟨#[32, 88, 61]⟩ : ByteArray)) ++ t120) ++ (⟨#[32, 89, 61]⟩ : ByteArray)) ++ t121) ++ (⟨#[32, 83, 61]⟩ : ByteArray)) ++ t122) ++ (⟨#[32, 80, 67, 61]⟩ : ByteArray)).size + t123.size ≤ 9223372036854775807) = true := decide_eq_true c18
           try have c18b2 : (9223372036854775807 < (((((((((⟨#[65, 61]⟩ : ByteArray) ++ t119) ++ (⟨#[32, 88, 61]⟩ : ByteArray)) ++ t120) ++ (⟨#[32, 89, 61]⟩ : ByteArray)) ++ t121) ++ (⟨#[32, 83, 61]⟩ : ByteArray)) ++ t122) ++ (⟨#[32, 80, 67, 61]⟩ : ByteArray)).size + t123.size) = False := eq_false (Nat.not_lt.2 c18)
           try (have c18b3 := c18; simp at c18b3; have c18b4 := eq_true c18b3; have c18b5 := decide_eq_true c18b3; have c18b6 := eq_false (Nat.not_lt.2 c18b3))
           have c18b7 : 2 + t119.size + 3 + t120.size + 3 + t121.size + 3 + t122.size + 4 + t123.size ≤ 9223372036854775807 := by have h_ := c18; simp only [ByteArray.size_append] at h_; exact h_
           have c18b8 := eq_false (Nat.not_lt.2 c18b7)
           replace c18b7 := eq_true c18b7
           by_cases c19 : ((((((((((⟨#[65, 61]⟩ : ByteArray) ++ t119) ++ (⟨#[32, 88, 61]⟩ : ByteArray)) ++ t120) ++ (⟨#[32, 89, 61]⟩ : ByteArray)) ++ t121) ++ (⟨#[32, 83, 61]⟩ : ByteArray)) ++ t122) ++ (⟨#[32, 80, 67, 61]⟩ : ByteArray)) ++ t123).size + 1 ≤ 9223372036854775807
           ·rw [if_pos c19] at H
            have c19b0 := eq_true c19
            have c19b1 : decide (((((((((((⟨#[65, 61]⟩ : ByteArray) ++ t119) ++ (⟨#[32, 88, 61]⟩ : ByteArray)) ++ t120) ++ (⟨#[32, 89, 61]⟩ : ByteArray)) ++ t121) ++ (⟨#[32, 83, 61]⟩ : ByteArray)) ++ t122) ++ (⟨#[32, 80, 67, 61]⟩ : ByteArray)) ++ t123).size + 1 ≤ 9223372036854775807) = true := decide_eq_true c19
            try have c19b2 : (9223372036854775807 < ((((((((((⟨#[65, 61]⟩ : ByteArray) ++ t119) ++ (⟨#[32, 88, 61]⟩ : ByteArray)) ++ t120) ++ (⟨#[32, 89, 61]⟩ : ByteArray)) ++ t121) ++ (⟨#[32, 83, 61]⟩ : ByteArray)) ++ t122) ++ (⟨#[32, 80, 67, 61]⟩ : ByteArray)) ++ t123).size + 1) = False := eq_false (Nat.not_lt.2 c19)
            try (have c19b3 := c19; simp at c19b3; have c19b4 := eq_true c19b3; have c19b5 := decide_eq_true c19b3; have c19b6 := eq_false (Nat.not_lt.2 c19b3))
            have c19b7 : 2 + t119.size + 3 + t120.size + 3 + t121.size + 3 + t122.size + 4 + t123.size + 1 ≤ 9223372036854775807 := by have h_ := c19; simp only [ByteArray.size_append] at h_; exact h_
            have c19b8 := eq_false (Nat.not_lt.2 c19b7)
            replace c19b7 := eq_true c19b7
            have H' := Aside0.mk H
            clear H
            go_enter Tryd.func9, Tryd.ntmps9
            go_wp2_with (first | ((with_reducible refine gate_dst (N := 1) rfl ?_); refine box_event ?hg (N := 1) ?hd (cs := #[.int .i64 a0_0, .int .i64 a0_1, .int .i64 a0_2, .int .i64 a0_3, .int .i64 a0_4, .int .i64 a0_5, .int .i64 a0_6, .int .i64 a0_7, .int .i64 a0_8, .int .i64 a0_9, .int .i64 a0_10]) (t := 25) ?hr ?_; (case hd => rfl); (case hg => rfl); (case hr => first | (go_simp; done) | (go_simp; rfl)); intro gb114 hg w20 hbox hb; have n0_ := Aside0.mk (below_step (by repeat (first | (with_reducible first | exact HB.out | apply below_alloc | apply pw_below_drewN | apply below_drew1) | exact HB.out)) hb); have n1_ := Aside0.mk (hbox); have n2_ := Aside0.mk ((by rw [hg]; exact (below_size (by repeat (first | (with_reducible first | exact HB.out | apply below_alloc | apply pw_below_drewN | apply below_drew1) | exact HB.out))) : w.heap.size ≤ gb114)); have n3_ := Aside0.mk ((by rw [hg]; exact (below_size (by repeat (first | (with_reducible first | exact HB.out | apply below_alloc | apply pw_below_drewN | apply below_drew1) | exact HB.out))) : w.heap.size ≤ gb114)); clear HB; have HB := n0_; have BK114 := n1_; have GW114 := n2_; have GE114 := n3_; clear n0_ n1_ n2_ n3_; clear hb hbox hg; have hcz21_0 : w20.cell? ⟨gb114, 0, none⟩ = some (.int .i64 a0_0) := (blk_cell BK114.out 0).trans rfl; have hcz21_1 : w20.cell? ⟨gb114, 1, none⟩ = some (.int .i64 a0_1) := (blk_cell BK114.out 1).trans rfl; have hcz21_2 : w20.cell? ⟨gb114, 2, none⟩ = some (.int .i64 a0_2) := (blk_cell BK114.out 2).trans rfl; have hcz21_3 : w20.cell? ⟨gb114, 3, none⟩ = some (.int .i64 a0_3) := (blk_cell BK114.out 3).trans rfl; have hcz21_4 : w20.cell? ⟨gb114, 4, none⟩ = some (.int .i64 a0_4) := (blk_cell BK114.out 4).trans rfl; have hcz21_5 : w20.cell? ⟨gb114, 5, none⟩ = some (.int .i64 a0_5) := (blk_cell BK114.out 5).trans rfl; have hcz21_6 : w20.cell? ⟨gb114, 6, none⟩ = some (.int .i64 a0_6) := (blk_cell BK114.out 6).trans rfl; have hcz21_7 : w20.cell? ⟨gb114, 7, none⟩ = some (.int .i64 a0_7) := (blk_cell BK114.out 7).trans rfl; have hcz21_8 : w20.cell? ⟨gb114, 8, none⟩ = some (.int .i64 a0_8) := (blk_cell BK114.out 8).trans rfl; have hcz21_9 : w20.cell? ⟨gb114, 9, none⟩ = some (.int .i64 a0_9) := (blk_cell BK114.out 9).trans rfl; have hcz21_10 : w20.cell? ⟨gb114, 10, none⟩ = some (.int .i64 a0_10) := (blk_cell BK114.out 10).trans rfl; have hfz21_0 := blk_frozen BK114.out 0; have hfz21_1 := blk_frozen BK114.out 1; have hfz21_2 := blk_frozen BK114.out 2; have hfz21_3 := blk_frozen BK114.out 3; have hfz21_4 := blk_frozen BK114.out 4; have hfz21_5 := blk_frozen BK114.out 5; have hfz21_6 := blk_frozen BK114.out 6; have hfz21_7 := blk_frozen BK114.out 7; have hfz21_8 := blk_frozen BK114.out 8; have hfz21_9 := blk_frozen BK114.out 9; have hfz21_10 := blk_frozen BK114.out 10) | (go_at_call 7; (with_reducible refine (spec_KnowOk.calls k a0_0 a0_1 a0_2 a0_3 a0_4 a0_5 a0_6 a0_7 a0_8 a0_9 a0_10 true _ A2.out).mono ?_); rintro e w22 ⟨rfl, hb⟩; have n0_ := Aside0.mk (blk_below (g := gb114) (o := .cells #[.int .i64 a0_0, .int .i64 a0_1, .int .i64 a0_2, .int .i64 a0_3, .int .i64 a0_4, .int .i64 a0_5, .int .i64 a0_6, .int .i64 a0_7, .int .i64 a0_8, .int .i64 a0_9, .int .i64 a0_10] 25 (0, 0)) (by (with_reducible repeat (first | refine blk_drewN ?_ _ | refine blk_drew ?_ | refine blk_alloc ?_ _)); exact BK114.out) hb); have n1_ := Aside0.mk (below_step (by repeat (first | (with_reducible first | exact HB.out | apply below_alloc | apply pw_below_drewN | apply below_drew1 | refine below_set ?_ GE114.out) | exact HB.out)) hb); clear BK114; clear HB; have BK114 := n0_; have HB := n1_; clear n0_ n1_; (try clear hb); (try clear hb2); (try clear hk); (try clear hi); have hcz23_0 : w22.cell? ⟨gb114, 0, none⟩ = some (.int .i64 a0_0) := (blk_cell BK114.out 0).trans rfl; have hcz23_1 : w22.cell? ⟨gb114, 1, none⟩ = some (.int .i64 a0_1) := (blk_cell BK114.out 1).trans rfl; have hcz23_2 : w22.cell? ⟨gb114, 2, none⟩ = some (.int .i64 a0_2) := (blk_cell BK114.out 2).trans rfl; have hcz23_3 : w22.cell? ⟨gb114, 3, none⟩ = some (.int .i64 a0_3) := (blk_cell BK114.out 3).trans rfl; have hcz23_4 : w22.cell? ⟨gb114, 4, none⟩ = some (.int .i64 a0_4) := (blk_cell BK114.out 4).trans rfl; have hcz23_5 : w22.cell? ⟨gb114, 5, none⟩ = some (.int .i64 a0_5) := (blk_cell BK114.out 5).trans rfl; have hcz23_6 : w22.cell? ⟨gb114, 6, none⟩ = some (.int .i64 a0_6) := (blk_cell BK114.out 6).trans rfl; have hcz23_7 : w22.cell? ⟨gb114, 7, none⟩ = some (.int .i64 a0_7) := (blk_cell BK114.out 7).trans rfl; have hcz23_8 : w22.cell? ⟨gb114, 8, none⟩ = some (.int .i64 a0_8) := (blk_cell BK114.out 8).trans rfl; have hcz23_9 : w22.cell? ⟨gb114, 9, none⟩ = some (.int .i64 a0_9) := (blk_cell BK114.out 9).trans rfl; have hcz23_10 : w22.cell? ⟨gb114, 10, none⟩ = some (.int .i64 a0_10) := (blk_cell BK114.out 10).trans rfl; have hfz23_0 := blk_frozen BK114.out 0; have hfz23_1 := blk_frozen BK114.out 1; have hfz23_2 := blk_frozen BK114.out 2; have hfz23_3 := blk_frozen BK114.out 3; have hfz23_4 := blk_frozen BK114.out 4; have hfz23_5 := blk_frozen BK114.out 5; have hfz23_6 := blk_frozen BK114.out 6; have hfz23_7 := blk_frozen BK114.out 7; have hfz23_8 := blk_frozen BK114.out 8; have hfz23_9 := blk_frozen BK114.out 9; have hfz23_10 := blk_frozen BK114.out 10) | (go_at_call 13; (with_reducible refine (spec_l09List.calls a0_0 a0_1 a0_2 a0_3 a0_4 a0_5 a0_6 a0_7 a0_8 a0_9 a0_10 t116 _ A4.out).mono ?_); rintro e w24 ⟨v117, rfl, ho0, hb⟩; have n0_ := Aside0.mk (Kd.R_lower ho0 (below_size (by repeat (first | (with_reducible first | exact HB.out | apply below_alloc | apply pw_below_drewN | apply below_drew1 | refine below_set ?_ GE114.out) | exact HB.out)))); have n1_ := Aside0.mk (blk_below (g := gb114) (o := .cells #[.int .i64 a0_0, .int .i64 a0_1, .int .i64 a0_2, .int .i64 a0_3, .int .i64 a0_4, .int .i64 a0_5, .int .i64 a0_6, .int .i64 a0_7, .int .i64 a0_8, .int .i64 a0_9, .int .i64 a0_10] 25 (0, 0)) (by (with_reducible repeat (first | refine blk_drewN ?_ _ | refine blk_drew ?_ | refine blk_alloc ?_ _)); exact BK114.out) hb); have n2_ := Aside0.mk (below_step (by repeat (first | (with_reducible first | exact HB.out | apply below_alloc | apply pw_below_drewN | apply below_drew1 | refine below_set ?_ GE114.out) | exact HB.out)) hb); clear BK114; clear HB; have HO118 := n0_; have BK114 := n1_; have HB := n2_; clear n0_ n1_ n2_; (try clear hb); (try clear hb2); (try clear hk); (try clear hi); (try clear ho0); have hcz25_0 : w24.cell? ⟨gb114, 0, none⟩ = some (.int .i64 a0_0) := (blk_cell BK114.out 0).trans rfl; have hcz25_1 : w24.cell? ⟨gb114, 1, none⟩ = some (.int .i64 a0_1) := (blk_cell BK114.out 1).trans rfl; have hcz25_2 : w24.cell? ⟨gb114, 2, none⟩ = some (.int .i64 a0_2) := (blk_cell BK114.out 2).trans rfl; have hcz25_3 : w24.cell? ⟨gb114, 3, none⟩ = some (.int .i64 a0_3) := (blk_cell BK114.out 3).trans rfl; have hcz25_4 : w24.cell? ⟨gb114, 4, none⟩ = some (.int .i64 a0_4) := (blk_cell BK114.out 4).trans rfl; have hcz25_5 : w24.cell? ⟨gb114, 5, none⟩ = some (.int .i64 a0_5) := (blk_cell BK114.out 5).trans rfl; have hcz25_6 : w24.cell? ⟨gb114, 6, none⟩ = some (.int .i64 a0_6) := (blk_cell BK114.out 6).trans rfl; have hcz25_7 : w24.cell? ⟨gb114, 7, none⟩ = some (.int .i64 a0_7) := (blk_cell BK114.out 7).trans rfl; have hcz25_8 : w24.cell? ⟨gb114, 8, none⟩ = some (.int .i64 a0_8) := (blk_cell BK114.out 8).trans rfl; have hcz25_9 : w24.cell? ⟨gb114, 9, none⟩ = some (.int .i64 a0_9) := (blk_cell BK114.out 9).trans rfl; have hcz25_10 : w24.cell? ⟨gb114, 10, none⟩ = some (.int .i64 a0_10) := (blk_cell BK114.out 10).trans rfl; have hfz25_0 := blk_frozen BK114.out 0; have hfz25_1 := blk_frozen BK114.out 1; have hfz25_2 := blk_frozen BK114.out 2; have hfz25_3 := blk_frozen BK114.out 3; have hfz25_4 := blk_frozen BK114.out 4; have hfz25_5 := blk_frozen BK114.out 5; have hfz25_6 := blk_frozen BK114.out 6; have hfz25_7 := blk_frozen BK114.out 7; have hfz25_8 := blk_frozen BK114.out 8; have hfz25_9 := blk_frozen BK114.out 9; have hfz25_10 := blk_frozen BK114.out 10) | (go_at_call 16; (with_reducible refine (spec_l09Digits.calls k a0_0 2 t119 _ A5.out).mono ?_); rintro e w' ⟨rfl, ⟨nd, rfl⟩⟩; (try first | exact ⟨rfl, _, World.drewN_drewN _ _ _⟩ | exact ⟨rfl, _, Eq.trans (World.drewN_drewN _ _ _) (congrArg (World.drewN _) (Nat.add_assoc _ _ _))⟩)) | (go_at_call 16; (with_reducible refine (spec_l09Digits.calls k a0_1 2 t120 _ A8.out).mono ?_); rintro e w' ⟨rfl, ⟨nd, rfl⟩⟩; (try first | exact ⟨rfl, _, World.drewN_drewN _ _ _⟩ | exact ⟨rfl, _, Eq.trans (World.drewN_drewN _ _ _) (congrArg (World.drewN _) (Nat.add_assoc _ _ _))⟩)) | (go_at_call 16; (with_reducible refine (spec_l09Digits.calls k a0_2 2 t121 _ A11.out).mono ?_); rintro e w' ⟨rfl, ⟨nd, rfl⟩⟩; (try first | exact ⟨rfl, _, World.drewN_drewN _ _ _⟩ | exact ⟨rfl, _, Eq.trans (World.drewN_drewN _ _ _) (congrArg (World.drewN _) (Nat.add_assoc _ _ _))⟩)) | (go_at_call 16; (with_reducible refine (spec_l09Digits.calls k a0_3 2 t122 _ A14.out).mono ?_); rintro e w' ⟨rfl, ⟨nd, rfl⟩⟩; (try first | exact ⟨rfl, _, World.drewN_drewN _ _ _⟩ | exact ⟨rfl, _, Eq.trans (World.drewN_drewN _ _ _) (congrArg (World.drewN _) (Nat.add_assoc _ _ _))⟩)) | (go_at_call 16; (with_reducible refine (spec_l09Digits.calls k a0_4 4 t123 _ A17.out).mono ?_); rintro e w' ⟨rfl, ⟨nd, rfl⟩⟩; (try first | exact ⟨rfl, _, World.drewN_drewN _ _ _⟩ | exact ⟨rfl, _, Eq.trans (World.drewN_drewN _ _ _) (congrArg (World.drewN _) (Nat.add_assoc _ _ _))⟩)))
            repeat (go_quiet (first | ((with_reducible refine gate_dst (N := 1) rfl ?_); refine box_event ?hg (N := 1) ?hd (cs := #[.int .i64 a0_0, .int .i64 a0_1, .int .i64 a0_2, .int .i64 a0_3, .int .i64 a0_4, .int .i64 a0_5, .int .i64 a0_6, .int .i64 a0_7, .int .i64 a0_8, .int .i64 a0_9, .int .i64 a0_10]) (t := 25) ?hr ?_; (case hd => rfl); (case hg => rfl); (case hr => first | (go_simp; done) | (go_simp; rfl)); intro gb114 hg w20 hbox hb; have n0_ := Aside0.mk (below_step (by repeat (first | (with_reducible first | exact HB.out | apply below_alloc | apply pw_below_drewN | apply below_drew1) | exact HB.out)) hb); have n1_ := Aside0.mk (hbox); have n2_ := Aside0.mk ((by rw [hg]; exact (below_size (by repeat (first | (with_reducible first | exact HB.out | apply below_alloc | apply pw_below_drewN | apply below_drew1) | exact HB.out))) : w.heap.size ≤ gb114)); have n3_ := Aside0.mk ((by rw [hg]; exact (below_size (by repeat (first | (with_reducible first | exact HB.out | apply below_alloc | apply pw_below_drewN | apply below_drew1) | exact HB.out))) : w.heap.size ≤ gb114)); clear HB; have HB := n0_; have BK114 := n1_; have GW114 := n2_; have GE114 := n3_; clear n0_ n1_ n2_ n3_; clear hb hbox hg; have hcz21_0 : w20.cell? ⟨gb114, 0, none⟩ = some (.int .i64 a0_0) := (blk_cell BK114.out 0).trans rfl; have hcz21_1 : w20.cell? ⟨gb114, 1, none⟩ = some (.int .i64 a0_1) := (blk_cell BK114.out 1).trans rfl; have hcz21_2 : w20.cell? ⟨gb114, 2, none⟩ = some (.int .i64 a0_2) := (blk_cell BK114.out 2).trans rfl; have hcz21_3 : w20.cell? ⟨gb114, 3, none⟩ = some (.int .i64 a0_3) := (blk_cell BK114.out 3).trans rfl; have hcz21_4 : w20.cell? ⟨gb114, 4, none⟩ = some (.int .i64 a0_4) := (blk_cell BK114.out 4).trans rfl; have hcz21_5 : w20.cell? ⟨gb114, 5, none⟩ = some (.int .i64 a0_5) := (blk_cell BK114.out 5).trans rfl; have hcz21_6 : w20.cell? ⟨gb114, 6, none⟩ = some (.int .i64 a0_6) := (blk_cell BK114.out 6).trans rfl; have hcz21_7 : w20.cell? ⟨gb114, 7, none⟩ = some (.int .i64 a0_7) := (blk_cell BK114.out 7).trans rfl; have hcz21_8 : w20.cell? ⟨gb114, 8, none⟩ = some (.int .i64 a0_8) := (blk_cell BK114.out 8).trans rfl; have hcz21_9 : w20.cell? ⟨gb114, 9, none⟩ = some (.int .i64 a0_9) := (blk_cell BK114.out 9).trans rfl; have hcz21_10 : w20.cell? ⟨gb114, 10, none⟩ = some (.int .i64 a0_10) := (blk_cell BK114.out 10).trans rfl; have hfz21_0 := blk_frozen BK114.out 0; have hfz21_1 := blk_frozen BK114.out 1; have hfz21_2 := blk_frozen BK114.out 2; have hfz21_3 := blk_frozen BK114.out 3; have hfz21_4 := blk_frozen BK114.out 4; have hfz21_5 := blk_frozen BK114.out 5; have hfz21_6 := blk_frozen BK114.out 6; have hfz21_7 := blk_frozen BK114.out 7; have hfz21_8 := blk_frozen BK114.out 8; have hfz21_9 := blk_frozen BK114.out 9; have hfz21_10 := blk_frozen BK114.out 10) | (go_at_call 7; (with_reducible refine (spec_KnowOk.calls k a0_0 a0_1 a0_2 a0_3 a0_4 a0_5 a0_6 a0_7 a0_8 a0_9 a0_10 true _ A2.out).mono ?_); rintro e w22 ⟨rfl, hb⟩; have n0_ := Aside0.mk (blk_below (g := gb114) (o := .cells #[.int .i64 a0_0, .int .i64 a0_1, .int .i64 a0_2, .int .i64 a0_3, .int .i64 a0_4, .int .i64 a0_5, .int .i64 a0_6, .int .i64 a0_7, .int .i64 a0_8, .int .i64 a0_9, .int .i64 a0_10] 25 (0, 0)) (by (with_reducible repeat (first | refine blk_drewN ?_ _ | refine blk_drew ?_ | refine blk_alloc ?_ _)); exact BK114.out) hb); have n1_ := Aside0.mk (below_step (by repeat (first | (with_reducible first | exact HB.out | apply below_alloc | apply pw_below_drewN | apply below_drew1 | refine below_set ?_ GE114.out) | exact HB.out)) hb); clear BK114; clear HB; have BK114 := n0_; have HB := n1_; clear n0_ n1_; (try clear hb); (try clear hb2); (try clear hk); (try clear hi); have hcz23_0 : w22.cell? ⟨gb114, 0, none⟩ = some (.int .i64 a0_0) := (blk_cell BK114.out 0).trans rfl; have hcz23_1 : w22.cell? ⟨gb114, 1, none⟩ = some (.int .i64 a0_1) := (blk_cell BK114.out 1).trans rfl; have hcz23_2 : w22.cell? ⟨gb114, 2, none⟩ = some (.int .i64 a0_2) := (blk_cell BK114.out 2).trans rfl; have hcz23_3 : w22.cell? ⟨gb114, 3, none⟩ = some (.int .i64 a0_3) := (blk_cell BK114.out 3).trans rfl; have hcz23_4 : w22.cell? ⟨gb114, 4, none⟩ = some (.int .i64 a0_4) := (blk_cell BK114.out 4).trans rfl; have hcz23_5 : w22.cell? ⟨gb114, 5, none⟩ = some (.int .i64 a0_5) := (blk_cell BK114.out 5).trans rfl; have hcz23_6 : w22.cell? ⟨gb114, 6, none⟩ = some (.int .i64 a0_6) := (blk_cell BK114.out 6).trans rfl; have hcz23_7 : w22.cell? ⟨gb114, 7, none⟩ = some (.int .i64 a0_7) := (blk_cell BK114.out 7).trans rfl; have hcz23_8 : w22.cell? ⟨gb114, 8, none⟩ = some (.int .i64 a0_8) := (blk_cell BK114.out 8).trans rfl; have hcz23_9 : w22.cell? ⟨gb114, 9, none⟩ = some (.int .i64 a0_9) := (blk_cell BK114.out 9).trans rfl; have hcz23_10 : w22.cell? ⟨gb114, 10, none⟩ = some (.int .i64 a0_10) := (blk_cell BK114.out 10).trans rfl; have hfz23_0 := blk_frozen BK114.out 0; have hfz23_1 := blk_frozen BK114.out 1; have hfz23_2 := blk_frozen BK114.out 2; have hfz23_3 := blk_frozen BK114.out 3; have hfz23_4 := blk_frozen BK114.out 4; have hfz23_5 := blk_frozen BK114.out 5; have hfz23_6 := blk_frozen BK114.out 6; have hfz23_7 := blk_frozen BK114.out 7; have hfz23_8 := blk_frozen BK114.out 8; have hfz23_9 := blk_frozen BK114.out 9; have hfz23_10 := blk_frozen BK114.out 10) | (go_at_call 13; (with_reducible refine (spec_l09List.calls a0_0 a0_1 a0_2 a0_3 a0_4 a0_5 a0_6 a0_7 a0_8 a0_9 a0_10 t116 _ A4.out).mono ?_); rintro e w24 ⟨v117, rfl, ho0, hb⟩; have n0_ := Aside0.mk (Kd.R_lower ho0 (below_size (by repeat (first | (with_reducible first | exact HB.out | apply below_alloc | apply pw_below_drewN | apply below_drew1 | refine below_set ?_ GE114.out) | exact HB.out)))); have n1_ := Aside0.mk (blk_below (g := gb114) (o := .cells #[.int .i64 a0_0, .int .i64 a0_1, .int .i64 a0_2, .int .i64 a0_3, .int .i64 a0_4, .int .i64 a0_5, .int .i64 a0_6, .int .i64 a0_7, .int .i64 a0_8, .int .i64 a0_9, .int .i64 a0_10] 25 (0, 0)) (by (with_reducible repeat (first | refine blk_drewN ?_ _ | refine blk_drew ?_ | refine blk_alloc ?_ _)); exact BK114.out) hb); have n2_ := Aside0.mk (below_step (by repeat (first | (with_reducible first | exact HB.out | apply below_alloc | apply pw_below_drewN | apply below_drew1 | refine below_set ?_ GE114.out) | exact HB.out)) hb); clear BK114; clear HB; have HO118 := n0_; have BK114 := n1_; have HB := n2_; clear n0_ n1_ n2_; (try clear hb); (try clear hb2); (try clear hk); (try clear hi); (try clear ho0); have hcz25_0 : w24.cell? ⟨gb114, 0, none⟩ = some (.int .i64 a0_0) := (blk_cell BK114.out 0).trans rfl; have hcz25_1 : w24.cell? ⟨gb114, 1, none⟩ = some (.int .i64 a0_1) := (blk_cell BK114.out 1).trans rfl; have hcz25_2 : w24.cell? ⟨gb114, 2, none⟩ = some (.int .i64 a0_2) := (blk_cell BK114.out 2).trans rfl; have hcz25_3 : w24.cell? ⟨gb114, 3, none⟩ = some (.int .i64 a0_3) := (blk_cell BK114.out 3).trans rfl; have hcz25_4 : w24.cell? ⟨gb114, 4, none⟩ = some (.int .i64 a0_4) := (blk_cell BK114.out 4).trans rfl; have hcz25_5 : w24.cell? ⟨gb114, 5, none⟩ = some (.int .i64 a0_5) := (blk_cell BK114.out 5).trans rfl; have hcz25_6 : w24.cell? ⟨gb114, 6, none⟩ = some (.int .i64 a0_6) := (blk_cell BK114.out 6).trans rfl; have hcz25_7 : w24.cell? ⟨gb114, 7, none⟩ = some (.int .i64 a0_7) := (blk_cell BK114.out 7).trans rfl; have hcz25_8 : w24.cell? ⟨gb114, 8, none⟩ = some (.int .i64 a0_8) := (blk_cell BK114.out 8).trans rfl; have hcz25_9 : w24.cell? ⟨gb114, 9, none⟩ = some (.int .i64 a0_9) := (blk_cell BK114.out 9).trans rfl; have hcz25_10 : w24.cell? ⟨gb114, 10, none⟩ = some (.int .i64 a0_10) := (blk_cell BK114.out 10).trans rfl; have hfz25_0 := blk_frozen BK114.out 0; have hfz25_1 := blk_frozen BK114.out 1; have hfz25_2 := blk_frozen BK114.out 2; have hfz25_3 := blk_frozen BK114.out 3; have hfz25_4 := blk_frozen BK114.out 4; have hfz25_5 := blk_frozen BK114.out 5; have hfz25_6 := blk_frozen BK114.out 6; have hfz25_7 := blk_frozen BK114.out 7; have hfz25_8 := blk_frozen BK114.out 8; have hfz25_9 := blk_frozen BK114.out 9; have hfz25_10 := blk_frozen BK114.out 10) | (go_at_call 16; (with_reducible refine (spec_l09Digits.calls k a0_0 2 t119 _ A5.out).mono ?_); rintro e w' ⟨rfl, ⟨nd, rfl⟩⟩; (try first | exact ⟨rfl, _, World.drewN_drewN _ _ _⟩ | exact ⟨rfl, _, Eq.trans (World.drewN_drewN _ _ _) (congrArg (World.drewN _) (Nat.add_assoc _ _ _))⟩)) | (go_at_call 16; (with_reducible refine (spec_l09Digits.calls k a0_1 2 t120 _ A8.out).mono ?_); rintro e w' ⟨rfl, ⟨nd, rfl⟩⟩; (try first | exact ⟨rfl, _, World.drewN_drewN _ _ _⟩ | exact ⟨rfl, _, Eq.trans (World.drewN_drewN _ _ _) (congrArg (World.drewN _) (Nat.add_assoc _ _ _))⟩)) | (go_at_call 16; (with_reducible refine (spec_l09Digits.calls k a0_2 2 t121 _ A11.out).mono ?_); rintro e w' ⟨rfl, ⟨nd, rfl⟩⟩; (try first | exact ⟨rfl, _, World.drewN_drewN _ _ _⟩ | exact ⟨rfl, _, Eq.trans (World.drewN_drewN _ _ _) (congrArg (World.drewN _) (Nat.add_assoc _ _ _))⟩)) | (go_at_call 16; (with_reducible refine (spec_l09Digits.calls k a0_3 2 t122 _ A14.out).mono ?_); rintro e w' ⟨rfl, ⟨nd, rfl⟩⟩; (try first | exact ⟨rfl, _, World.drewN_drewN _ _ _⟩ | exact ⟨rfl, _, Eq.trans (World.drewN_drewN _ _ _) (congrArg (World.drewN _) (Nat.add_assoc _ _ _))⟩)) | (go_at_call 16; (with_reducible refine (spec_l09Digits.calls k a0_4 4 t123 _ A17.out).mono ?_); rintro e w' ⟨rfl, ⟨nd, rfl⟩⟩; (try first | exact ⟨rfl, _, World.drewN_drewN _ _ _⟩ | exact ⟨rfl, _, Eq.trans (World.drewN_drewN _ _ _) (congrArg (World.drewN _) (Nat.add_assoc _ _ _))⟩))); try go_wp2_with (first | ((with_reducible refine gate_dst (N := 1) rfl ?_); refine box_event ?hg (N := 1) ?hd (cs := #[.int .i64 a0_0, .int .i64 a0_1, .int .i64 a0_2, .int .i64 a0_3, .int .i64 a0_4, .int .i64 a0_5, .int .i64 a0_6, .int .i64 a0_7, .int .i64 a0_8, .int .i64 a0_9, .int .i64 a0_10]) (t := 25) ?hr ?_; (case hd => rfl); (case hg => rfl); (case hr => first | (go_simp; done) | (go_simp; rfl)); intro gb114 hg w20 hbox hb; have n0_ := Aside0.mk (below_step (by repeat (first | (with_reducible first | exact HB.out | apply below_alloc | apply pw_below_drewN | apply below_drew1) | exact HB.out)) hb); have n1_ := Aside0.mk (hbox); have n2_ := Aside0.mk ((by rw [hg]; exact (below_size (by repeat (first | (with_reducible first | exact HB.out | apply below_alloc | apply pw_below_drewN | apply below_drew1) | exact HB.out))) : w.heap.size ≤ gb114)); have n3_ := Aside0.mk ((by rw [hg]; exact (below_size (by repeat (first | (with_reducible first | exact HB.out | apply below_alloc | apply pw_below_drewN | apply below_drew1) | exact HB.out))) : w.heap.size ≤ gb114)); clear HB; have HB := n0_; have BK114 := n1_; have GW114 := n2_; have GE114 := n3_; clear n0_ n1_ n2_ n3_; clear hb hbox hg; have hcz21_0 : w20.cell? ⟨gb114, 0, none⟩ = some (.int .i64 a0_0) := (blk_cell BK114.out 0).trans rfl; have hcz21_1 : w20.cell? ⟨gb114, 1, none⟩ = some (.int .i64 a0_1) := (blk_cell BK114.out 1).trans rfl; have hcz21_2 : w20.cell? ⟨gb114, 2, none⟩ = some (.int .i64 a0_2) := (blk_cell BK114.out 2).trans rfl; have hcz21_3 : w20.cell? ⟨gb114, 3, none⟩ = some (.int .i64 a0_3) := (blk_cell BK114.out 3).trans rfl; have hcz21_4 : w20.cell? ⟨gb114, 4, none⟩ = some (.int .i64 a0_4) := (blk_cell BK114.out 4).trans rfl; have hcz21_5 : w20.cell? ⟨gb114, 5, none⟩ = some (.int .i64 a0_5) := (blk_cell BK114.out 5).trans rfl; have hcz21_6 : w20.cell? ⟨gb114, 6, none⟩ = some (.int .i64 a0_6) := (blk_cell BK114.out 6).trans rfl; have hcz21_7 : w20.cell? ⟨gb114, 7, none⟩ = some (.int .i64 a0_7) := (blk_cell BK114.out 7).trans rfl; have hcz21_8 : w20.cell? ⟨gb114, 8, none⟩ = some (.int .i64 a0_8) := (blk_cell BK114.out 8).trans rfl; have hcz21_9 : w20.cell? ⟨gb114, 9, none⟩ = some (.int .i64 a0_9) := (blk_cell BK114.out 9).trans rfl; have hcz21_10 : w20.cell? ⟨gb114, 10, none⟩ = some (.int .i64 a0_10) := (blk_cell BK114.out 10).trans rfl; have hfz21_0 := blk_frozen BK114.out 0; have hfz21_1 := blk_frozen BK114.out 1; have hfz21_2 := blk_frozen BK114.out 2; have hfz21_3 := blk_frozen BK114.out 3; have hfz21_4 := blk_frozen BK114.out 4; have hfz21_5 := blk_frozen BK114.out 5; have hfz21_6 := blk_frozen BK114.out 6; have hfz21_7 := blk_frozen BK114.out 7; have hfz21_8 := blk_frozen BK114.out 8; have hfz21_9 := blk_frozen BK114.out 9; have hfz21_10 := blk_frozen BK114.out 10) | (go_at_call 7; (with_reducible refine (spec_KnowOk.calls k a0_0 a0_1 a0_2 a0_3 a0_4 a0_5 a0_6 a0_7 a0_8 a0_9 a0_10 true _ A2.out).mono ?_); rintro e w22 ⟨rfl, hb⟩; have n0_ := Aside0.mk (blk_below (g := gb114) (o := .cells #[.int .i64 a0_0, .int .i64 a0_1, .int .i64 a0_2, .int .i64 a0_3, .int .i64 a0_4, .int .i64 a0_5, .int .i64 a0_6, .int .i64 a0_7, .int .i64 a0_8, .int .i64 a0_9, .int .i64 a0_10] 25 (0, 0)) (by (with_reducible repeat (first | refine blk_drewN ?_ _ | refine blk_drew ?_ | refine blk_alloc ?_ _)); exact BK114.out) hb); have n1_ := Aside0.mk (below_step (by repeat (first | (with_reducible first | exact HB.out | apply below_alloc | apply pw_below_drewN | apply below_drew1 | refine below_set ?_ GE114.out) | exact HB.out)) hb); clear BK114; clear HB; have BK114 := n0_; have HB := n1_; clear n0_ n1_; (try clear hb); (try clear hb2); (try clear hk); (try clear hi); have hcz23_0 : w22.cell? ⟨gb114, 0, none⟩ = some (.int .i64 a0_0) := (blk_cell BK114.out 0).trans rfl; have hcz23_1 : w22.cell? ⟨gb114, 1, none⟩ = some (.int .i64 a0_1) := (blk_cell BK114.out 1).trans rfl; have hcz23_2 : w22.cell? ⟨gb114, 2, none⟩ = some (.int .i64 a0_2) := (blk_cell BK114.out 2).trans rfl; have hcz23_3 : w22.cell? ⟨gb114, 3, none⟩ = some (.int .i64 a0_3) := (blk_cell BK114.out 3).trans rfl; have hcz23_4 : w22.cell? ⟨gb114, 4, none⟩ = some (.int .i64 a0_4) := (blk_cell BK114.out 4).trans rfl; have hcz23_5 : w22.cell? ⟨gb114, 5, none⟩ = some (.int .i64 a0_5) := (blk_cell BK114.out 5).trans rfl; have hcz23_6 : w22.cell? ⟨gb114, 6, none⟩ = some (.int .i64 a0_6) := (blk_cell BK114.out 6).trans rfl; have hcz23_7 : w22.cell? ⟨gb114, 7, none⟩ = some (.int .i64 a0_7) := (blk_cell BK114.out 7).trans rfl; have hcz23_8 : w22.cell? ⟨gb114, 8, none⟩ = some (.int .i64 a0_8) := (blk_cell BK114.out 8).trans rfl; have hcz23_9 : w22.cell? ⟨gb114, 9, none⟩ = some (.int .i64 a0_9) := (blk_cell BK114.out 9).trans rfl; have hcz23_10 : w22.cell? ⟨gb114, 10, none⟩ = some (.int .i64 a0_10) := (blk_cell BK114.out 10).trans rfl; have hfz23_0 := blk_frozen BK114.out 0; have hfz23_1 := blk_frozen BK114.out 1; have hfz23_2 := blk_frozen BK114.out 2; have hfz23_3 := blk_frozen BK114.out 3; have hfz23_4 := blk_frozen BK114.out 4; have hfz23_5 := blk_frozen BK114.out 5; have hfz23_6 := blk_frozen BK114.out 6; have hfz23_7 := blk_frozen BK114.out 7; have hfz23_8 := blk_frozen BK114.out 8; have hfz23_9 := blk_frozen BK114.out 9; have hfz23_10 := blk_frozen BK114.out 10) | (go_at_call 13; (with_reducible refine (spec_l09List.calls a0_0 a0_1 a0_2 a0_3 a0_4 a0_5 a0_6 a0_7 a0_8 a0_9 a0_10 t116 _ A4.out).mono ?_); rintro e w24 ⟨v117, rfl, ho0, hb⟩; have n0_ := Aside0.mk (Kd.R_lower ho0 (below_size (by repeat (first | (with_reducible first | exact HB.out | apply below_alloc | apply pw_below_drewN | apply below_drew1 | refine below_set ?_ GE114.out) | exact HB.out)))); have n1_ := Aside0.mk (blk_below (g := gb114) (o := .cells #[.int .i64 a0_0, .int .i64 a0_1, .int .i64 a0_2, .int .i64 a0_3, .int .i64 a0_4, .int .i64 a0_5, .int .i64 a0_6, .int .i64 a0_7, .int .i64 a0_8, .int .i64 a0_9, .int .i64 a0_10] 25 (0, 0)) (by (with_reducible repeat (first | refine blk_drewN ?_ _ | refine blk_drew ?_ | refine blk_alloc ?_ _)); exact BK114.out) hb); have n2_ := Aside0.mk (below_step (by repeat (first | (with_reducible first | exact HB.out | apply below_alloc | apply pw_below_drewN | apply below_drew1 | refine below_set ?_ GE114.out) | exact HB.out)) hb); clear BK114; clear HB; have HO118 := n0_; have BK114 := n1_; have HB := n2_; clear n0_ n1_ n2_; (try clear hb); (try clear hb2); (try clear hk); (try clear hi); (try clear ho0); have hcz25_0 : w24.cell? ⟨gb114, 0, none⟩ = some (.int .i64 a0_0) := (blk_cell BK114.out 0).trans rfl; have hcz25_1 : w24.cell? ⟨gb114, 1, none⟩ = some (.int .i64 a0_1) := (blk_cell BK114.out 1).trans rfl; have hcz25_2 : w24.cell? ⟨gb114, 2, none⟩ = some (.int .i64 a0_2) := (blk_cell BK114.out 2).trans rfl; have hcz25_3 : w24.cell? ⟨gb114, 3, none⟩ = some (.int .i64 a0_3) := (blk_cell BK114.out 3).trans rfl; have hcz25_4 : w24.cell? ⟨gb114, 4, none⟩ = some (.int .i64 a0_4) := (blk_cell BK114.out 4).trans rfl; have hcz25_5 : w24.cell? ⟨gb114, 5, none⟩ = some (.int .i64 a0_5) := (blk_cell BK114.out 5).trans rfl; have hcz25_6 : w24.cell? ⟨gb114, 6, none⟩ = some (.int .i64 a0_6) := (blk_cell BK114.out 6).trans rfl; have hcz25_7 : w24.cell? ⟨gb114, 7, none⟩ = some (.int .i64 a0_7) := (blk_cell BK114.out 7).trans rfl; have hcz25_8 : w24.cell? ⟨gb114, 8, none⟩ = some (.int .i64 a0_8) := (blk_cell BK114.out 8).trans rfl; have hcz25_9 : w24.cell? ⟨gb114, 9, none⟩ = some (.int .i64 a0_9) := (blk_cell BK114.out 9).trans rfl; have hcz25_10 : w24.cell? ⟨gb114, 10, none⟩ = some (.int .i64 a0_10) := (blk_cell BK114.out 10).trans rfl; have hfz25_0 := blk_frozen BK114.out 0; have hfz25_1 := blk_frozen BK114.out 1; have hfz25_2 := blk_frozen BK114.out 2; have hfz25_3 := blk_frozen BK114.out 3; have hfz25_4 := blk_frozen BK114.out 4; have hfz25_5 := blk_frozen BK114.out 5; have hfz25_6 := blk_frozen BK114.out 6; have hfz25_7 := blk_frozen BK114.out 7; have hfz25_8 := blk_frozen BK114.out 8; have hfz25_9 := blk_frozen BK114.out 9; have hfz25_10 := blk_frozen BK114.out 10) | (go_at_call 16; (with_reducible refine (spec_l09Digits.calls k a0_0 2 t119 _ A5.out).mono ?_); rintro e w' ⟨rfl, ⟨nd, rfl⟩⟩; (try first | exact ⟨rfl, _, World.drewN_drewN _ _ _⟩ | exact ⟨rfl, _, Eq.trans (World.drewN_drewN _ _ _) (congrArg (World.drewN _) (Nat.add_assoc _ _ _))⟩)) | (go_at_call 16; (with_reducible refine (spec_l09Digits.calls k a0_1 2 t120 _ A8.out).mono ?_); rintro e w' ⟨rfl, ⟨nd, rfl⟩⟩; (try first | exact ⟨rfl, _, World.drewN_drewN _ _ _⟩ | exact ⟨rfl, _, Eq.trans (World.drewN_drewN _ _ _) (congrArg (World.drewN _) (Nat.add_assoc _ _ _))⟩)) | (go_at_call 16; (with_reducible refine (spec_l09Digits.calls k a0_2 2 t121 _ A11.out).mono ?_); rintro e w' ⟨rfl, ⟨nd, rfl⟩⟩; (try first | exact ⟨rfl, _, World.drewN_drewN _ _ _⟩ | exact ⟨rfl, _, Eq.trans (World.drewN_drewN _ _ _) (congrArg (World.drewN _) (Nat.add_assoc _ _ _))⟩)) | (go_at_call 16; (with_reducible refine (spec_l09Digits.calls k a0_3 2 t122 _ A14.out).mono ?_); rintro e w' ⟨rfl, ⟨nd, rfl⟩⟩; (try first | exact ⟨rfl, _, World.drewN_drewN _ _ _⟩ | exact ⟨rfl, _, Eq.trans (World.drewN_drewN _ _ _) (congrArg (World.drewN _) (Nat.add_assoc _ _ _))⟩)) | (go_at_call 16; (with_reducible refine (spec_l09Digits.calls k a0_4 4 t123 _ A17.out).mono ?_); rintro e w' ⟨rfl, ⟨nd, rfl⟩⟩; (try first | exact ⟨rfl, _, World.drewN_drewN _ _ _⟩ | exact ⟨rfl, _, Eq.trans (World.drewN_drewN _ _ _) (congrArg (World.drewN _) (Nat.add_assoc _ _ _))⟩))))
            go_loopg [4, 5] k (fun kq v4 v5 w' => ∃ (x4_1 : ByteArray) (x5_1 : Int), v4 = .string x4_1 ∧ v5 = .int .i64 x5_1 ∧ Aside0 (spec_KnowText.l0 kq t116 x4_1 x5_1 = some r) ∧ Aside0 (kq ≤ k) ∧ Aside0 (Kd.R (Kd.int .i64) 3 w' w.heap.size (fun _ => True) v117 t116) ∧ Aside0 (w'.heap[gb114]? = some (.cells #[.int .i64 a0_0, .int .i64 a0_1, .int .i64 a0_2, .int .i64 a0_3, .int .i64 a0_4, .int .i64 a0_5, .int .i64 a0_6, .int .i64 a0_7, .int .i64 a0_8, .int .i64 a0_9, .int .i64 a0_10] 25 (0, 0))) ∧ Aside0 (Below w.heap.size w w'))
            case atStart => exact ⟨(((((((((((⟨#[65, 61]⟩ : ByteArray) ++ t119) ++ (⟨#[32, 88, 61]⟩ : ByteArray)) ++ t120) ++ (⟨#[32, 89, 61]⟩ : ByteArray)) ++ t121) ++ (⟨#[32, 83, 61]⟩ : ByteArray)) ++ t122) ++ (⟨#[32, 80, 67, 61]⟩ : ByteArray)) ++ t123) ++ (⟨#[32]⟩ : ByteArray)), (0), (by first | rfl | (simp; done) | (simp [*]; done)), (by first | rfl | (simp; done) | (simp [*]; done)), H', ⟨Nat.le_refl _⟩, ⟨by (with_reducible repeat (first | apply Kd.R_alloc | apply Kd.R_drewN | apply Kd.R_drew)); exact HO118.out⟩, ⟨by (with_reducible repeat (first | refine blk_drewN ?_ _ | refine blk_drew ?_ | refine blk_alloc ?_ _)); exact BK114.out⟩, ⟨by repeat (first | (with_reducible first | exact HB.out | apply below_alloc | apply pw_below_drewN | apply below_drew1 | refine below_set ?_ GE114.out) | exact HB.out)⟩⟩
            case round =>
             clear H'
             try clear c1
             try clear p2
             try clear c3
             try clear c6
             try clear c6b0
             try clear c6b1
             try clear c6b2
             try clear c7
             try clear c7b0
             try clear c7b1
             try clear c7b2
             try clear c9
             try clear c9b0
             try clear c9b1
             try clear c9b2
             try clear c10
             try clear c10b0
             try clear c10b1
             try clear c10b2
             try clear c12
             try clear c12b0
             try clear c12b1
             try clear c12b2
             try clear c13
             try clear c13b0
             try clear c13b1
             try clear c13b2
             try clear c15
             try clear c15b0
             try clear c15b1
             try clear c15b2
             try clear c16
             try clear c16b0
             try clear c16b1
             try clear c16b2
             try clear c18
             try clear c18b0
             try clear c18b1
             try clear c18b2
             try clear c19
             try clear c19b0
             try clear c19b1
             try clear c19b2
             try clear hcz21_0
             try clear hcz21_1
             try clear hcz21_10
             try clear hcz21_2
             try clear hcz21_3
             try clear hcz21_4
             try clear hcz21_5
             try clear hcz21_6
             try clear hcz21_7
             try clear hcz21_8
             try clear hcz21_9
             try clear hcz23_0
             try clear hcz23_1
             try clear hcz23_10
             try clear hcz23_2
             try clear hcz23_3
             try clear hcz23_4
             try clear hcz23_5
             try clear hcz23_6
             try clear hcz23_7
             try clear hcz23_8
             try clear hcz23_9
             try clear hcz25_0
             try clear hcz25_1
             try clear hcz25_10
             try clear hcz25_2
             try clear hcz25_3
             try clear hcz25_4
             try clear hcz25_5
             try clear hcz25_6
             try clear hcz25_7
             try clear hcz25_8
             try clear hcz25_9
             try clear hfz21_0
             try clear hfz21_1
             try clear hfz21_10
             try clear hfz21_2
             try clear hfz21_3
             try clear hfz21_4
             try clear hfz21_5
             try clear hfz21_6
             try clear hfz21_7
             try clear hfz21_8
             try clear hfz21_9
             try clear hfz23_0
             try clear hfz23_1
             try clear hfz23_10
             try clear hfz23_2
             try clear hfz23_3
             try clear hfz23_4
             try clear hfz23_5
             try clear hfz23_6
             try clear hfz23_7
             try clear hfz23_8
             try clear hfz23_9
             try clear hfz25_0
             try clear hfz25_1
             try clear hfz25_10
             try clear hfz25_2
             try clear hfz25_3
             try clear hfz25_4
             try clear hfz25_5
             try clear hfz25_6
             try clear hfz25_7
             try clear hfz25_8
             try clear hfz25_9
             obtain ⟨x4_1, x5_1, rfl, rfl, HA, HK1, HO_3, BK114, HB⟩ := hrel
             cases gk with
             | zero => exact absurd HA.out (by simp [spec_KnowText.l0])
             | succ k1 =>
              have H := HA.out
              clear HA
              simp only [spec_KnowText.l0] at H
              by_cases c26 : x5_1 < 6
              ·rw [if_pos c26] at H
               have c26b0 : decide (x5_1 < 6) = true := decide_eq_true c26
               clear c26
               obtain ⟨ji27, hji27⟩ : ∃ j_ : Int, (wrap64 (5 + x5_1)) = j_ := ⟨_, rfl⟩
               replace H : (if 0 ≤ (ji27) then (if (ji27) < (t116.length : Int) then (if (rd t116 (ji27)) = 0 then (if x4_1.size + 1 ≤ 9223372036854775807 then (spec_KnowText.l0 k1 t116 (x4_1 ++ (⟨#[45]⟩ : ByteArray)) (wrap64 (x5_1 + 1))) else (none)) else (if (rd t116 (ji27)) = 1 then (if 0 ≤ x5_1 then (if x5_1 ≤ (wrap64 (x5_1 + 1)) then (if (wrap64 (x5_1 + 1)) ≤ 6 then (if x4_1.size + ((⟨#[78, 86, 68, 73, 90, 67]⟩ : ByteArray).extract (x5_1 : Int).toNat ((wrap64 (x5_1 + 1)) : Int).toNat).size ≤ 9223372036854775807 then (spec_KnowText.l0 k1 t116 (x4_1 ++ ((⟨#[78, 86, 68, 73, 90, 67]⟩ : ByteArray).extract (x5_1 : Int).toNat ((wrap64 (x5_1 + 1)) : Int).toNat)) (wrap64 (x5_1 + 1))) else (none)) else (none)) else (none)) else (none)) else (if x4_1.size + 1 ≤ 9223372036854775807 then (spec_KnowText.l0 k1 t116 (x4_1 ++ (⟨#[63]⟩ : ByteArray)) (wrap64 (x5_1 + 1))) else (none)))) else (none)) else (none)) = some r := by first | (rw [hji27] at H; exact H) | (simp only [hji27] at H ⊢; exact H)
               have hji27w : (IntKind.i64.wrap (5 + x5_1)) = ji27 := (i64_w _).trans hji27
               by_cases c28 : 0 ≤ (ji27)
               ·rw [if_pos c28] at H
                have c28b0 : decide (0 ≤ (ji27)) = true := decide_eq_true c28
                clear c28
                by_cases c29 : (ji27) < (t116.length : Int)
                ·rw [if_pos c29] at H
                 have c29b0 : decide ((ji27) < (t116.length : Int)) = true := decide_eq_true c29
                 clear c29
                 by_cases c30 : (rd t116 (ji27)) = 0
                 ·rw [if_pos c30] at H
                  have c30b0 : ((rd t116 (ji27)) == 0) = true := beq_iff_eq.mpr c30
                  have c30b1 : ((rd t116 (ji27)) != 0) = false := bne_eq_false_iff_eq.mpr c30
                  clear c30
                  by_cases c31 : x4_1.size + 1 ≤ 9223372036854775807
                  ·rw [if_pos c31] at H
                   have c31b0 := eq_true c31
                   have c31b1 : decide (x4_1.size + 1 ≤ 9223372036854775807) = true := decide_eq_true c31
                   try have c31b2 : (9223372036854775807 < x4_1.size + 1) = False := eq_false (Nat.not_lt.2 c31)
                   try (have c31b3 := c31; simp at c31b3; have c31b4 := eq_true c31b3; have c31b5 := decide_eq_true c31b3; have c31b6 := eq_false (Nat.not_lt.2 c31b3))
                   have H' := Aside0.mk H
                   clear H
                   obtain ⟨Ao32, co32, eo32⟩ := Kd.R_slice HO_3.out
                   subst eo32
                   have p124 : 0 ≤ ((ji27) : Int) := of_decide_eq_true (by first | (with_reducible assumption) | assumption)
                   have q124 : (ji27) < (t116.length : Int) := of_decide_eq_true (by first | (with_reducible assumption) | assumption)
                   obtain ⟨ad124, e124, hx124_0⟩ := Kd.at_int (Kd.R_reads' HO_3.out).2.2 (ji27) p124 q124
                   cases e124
                   replace p124 := eq_true p124
                   replace q124 := eq_true q124
                   go_wp2
                   repeat (go_quiet (fail); try go_wp2)
                   go_roundg k1
                   case measure => have := HK1.out; omega
                   case rel => exact ⟨(x4_1 ++ (⟨#[45]⟩ : ByteArray)), (wrap64 (x5_1 + 1)), (by first | rfl | (simp; done) | (simp [*]; done)), (by first | rfl | (simp; done) | (simp [*]; done)), H', ⟨by have := HK1.out; omega⟩, ⟨by (with_reducible repeat (first | apply Kd.R_alloc | apply Kd.R_drewN | apply Kd.R_drew)); exact HO_3.out⟩, ⟨by (with_reducible repeat (first | refine blk_drewN ?_ _ | refine blk_drew ?_ | refine blk_alloc ?_ _)); exact BK114.out⟩, ⟨by repeat (first | (with_reducible first | exact HB.out | apply below_alloc | apply pw_below_drewN | apply below_drew1 | refine below_set ?_ GE114.out) | exact HB.out)⟩⟩
                  ·rw [if_neg c31] at H
                   exact absurd H (by simp)
                 ·rw [if_neg c30] at H
                  have c30b0 : ((rd t116 (ji27)) == 0) = false := beq_eq_false_iff_ne.mpr c30
                  have c30b1 : ((rd t116 (ji27)) != 0) = true := bne_iff_ne.mpr c30
                  by_cases c33 : (rd t116 (ji27)) = 1
                  ·rw [if_pos c33] at H
                   have c33b0 : ((rd t116 (ji27)) == 1) = true := beq_iff_eq.mpr c33
                   have c33b1 : ((rd t116 (ji27)) != 1) = false := bne_eq_false_iff_eq.mpr c33
                   clear c33
                   by_cases c34 : 0 ≤ x5_1
                   ·rw [if_pos c34] at H
                    have c34b0 := eq_true c34
                    have c34b1 : decide (0 ≤ x5_1) = true := decide_eq_true c34
                    clear c34
                    by_cases c35 : x5_1 ≤ (wrap64 (x5_1 + 1))
                    ·rw [if_pos c35] at H
                     have c35b0 := eq_true c35
                     have c35b1 : decide (x5_1 ≤ (wrap64 (x5_1 + 1))) = true := decide_eq_true c35
                     by_cases c36 : (wrap64 (x5_1 + 1)) ≤ 6
                     ·rw [if_pos c36] at H
                      have c36b0 := eq_true c36
                      have c36b1 : decide ((wrap64 (x5_1 + 1)) ≤ 6) = true := decide_eq_true c36
                      by_cases c37 : x4_1.size + ((⟨#[78, 86, 68, 73, 90, 67]⟩ : ByteArray).extract (x5_1 : Int).toNat ((wrap64 (x5_1 + 1)) : Int).toNat).size ≤ 9223372036854775807
                      ·rw [if_pos c37] at H
                       have c37b0 := eq_true c37
                       have c37b1 : decide (x4_1.size + ((⟨#[78, 86, 68, 73, 90, 67]⟩ : ByteArray).extract (x5_1 : Int).toNat ((wrap64 (x5_1 + 1)) : Int).toNat).size ≤ 9223372036854775807) = true := decide_eq_true c37
                       try have c37b2 : (9223372036854775807 < x4_1.size + ((⟨#[78, 86, 68, 73, 90, 67]⟩ : ByteArray).extract (x5_1 : Int).toNat ((wrap64 (x5_1 + 1)) : Int).toNat).size) = False := eq_false (Nat.not_lt.2 c37)
                       try (have c37b3 := c37; simp at c37b3; have c37b4 := eq_true c37b3; have c37b5 := decide_eq_true c37b3; have c37b6 := eq_false (Nat.not_lt.2 c37b3))
                       try (have c37bE : (9223372036854775807 < x4_1.size + (wrap64 (x5_1 + 1)).toNat - x5_1.toNat) = False := eq_false (by have l_ : (wrap64 (x5_1 + 1)) ≤ 6 := of_decide_eq_true (by first | (with_reducible assumption) | assumption); have h_ := c37; simp only [ByteArray.size_append, ByteArray.size_extract, show (⟨#[78, 86, 68, 73, 90, 67]⟩ : ByteArray).size = 6 from rfl] at h_; omega))
                       have H' := Aside0.mk H
                       clear H
                       obtain ⟨Ao38, co38, eo38⟩ := Kd.R_slice HO_3.out
                       subst eo38
                       have p124 : 0 ≤ ((ji27) : Int) := of_decide_eq_true (by first | (with_reducible assumption) | assumption)
                       have q124 : (ji27) < (t116.length : Int) := of_decide_eq_true (by first | (with_reducible assumption) | assumption)
                       obtain ⟨ad124, e124, hx124_0⟩ := Kd.at_int (Kd.R_reads' HO_3.out).2.2 (ji27) p124 q124
                       cases e124
                       replace p124 := eq_true p124
                       replace q124 := eq_true q124
                       go_wp2
                       repeat (go_quiet (fail); try go_wp2)
                       go_roundg k1
                       case measure => have := HK1.out; omega
                       case rel => exact ⟨(x4_1 ++ ((⟨#[78, 86, 68, 73, 90, 67]⟩ : ByteArray).extract (x5_1 : Int).toNat ((wrap64 (x5_1 + 1)) : Int).toNat)), (wrap64 (x5_1 + 1)), (by first | rfl | (simp; done) | (simp [*]; done)), (by first | rfl | (simp; done) | (simp [*]; done)), H', ⟨by have := HK1.out; omega⟩, ⟨by (with_reducible repeat (first | apply Kd.R_alloc | apply Kd.R_drewN | apply Kd.R_drew)); exact HO_3.out⟩, ⟨by (with_reducible repeat (first | refine blk_drewN ?_ _ | refine blk_drew ?_ | refine blk_alloc ?_ _)); exact BK114.out⟩, ⟨by repeat (first | (with_reducible first | exact HB.out | apply below_alloc | apply pw_below_drewN | apply below_drew1 | refine below_set ?_ GE114.out) | exact HB.out)⟩⟩
                      ·rw [if_neg c37] at H
                       exact absurd H (by simp)
                     ·rw [if_neg c36] at H
                      exact absurd H (by simp)
                    ·rw [if_neg c35] at H
                     exact absurd H (by simp)
                   ·rw [if_neg c34] at H
                    exact absurd H (by simp)
                  ·rw [if_neg c33] at H
                   have c33b0 : ((rd t116 (ji27)) == 1) = false := beq_eq_false_iff_ne.mpr c33
                   have c33b1 : ((rd t116 (ji27)) != 1) = true := bne_iff_ne.mpr c33
                   by_cases c39 : x4_1.size + 1 ≤ 9223372036854775807
                   ·rw [if_pos c39] at H
                    have c39b0 := eq_true c39
                    have c39b1 : decide (x4_1.size + 1 ≤ 9223372036854775807) = true := decide_eq_true c39
                    try have c39b2 : (9223372036854775807 < x4_1.size + 1) = False := eq_false (Nat.not_lt.2 c39)
                    try (have c39b3 := c39; simp at c39b3; have c39b4 := eq_true c39b3; have c39b5 := decide_eq_true c39b3; have c39b6 := eq_false (Nat.not_lt.2 c39b3))
                    have H' := Aside0.mk H
                    clear H
                    obtain ⟨Ao40, co40, eo40⟩ := Kd.R_slice HO_3.out
                    subst eo40
                    have p124 : 0 ≤ ((ji27) : Int) := of_decide_eq_true (by first | (with_reducible assumption) | assumption)
                    have q124 : (ji27) < (t116.length : Int) := of_decide_eq_true (by first | (with_reducible assumption) | assumption)
                    obtain ⟨ad124, e124, hx124_0⟩ := Kd.at_int (Kd.R_reads' HO_3.out).2.2 (ji27) p124 q124
                    cases e124
                    replace p124 := eq_true p124
                    replace q124 := eq_true q124
                    go_wp2
                    repeat (go_quiet (fail); try go_wp2)
                    go_roundg k1
                    case measure => have := HK1.out; omega
                    case rel => exact ⟨(x4_1 ++ (⟨#[63]⟩ : ByteArray)), (wrap64 (x5_1 + 1)), (by first | rfl | (simp; done) | (simp [*]; done)), (by first | rfl | (simp; done) | (simp [*]; done)), H', ⟨by have := HK1.out; omega⟩, ⟨by (with_reducible repeat (first | apply Kd.R_alloc | apply Kd.R_drewN | apply Kd.R_drew)); exact HO_3.out⟩, ⟨by (with_reducible repeat (first | refine blk_drewN ?_ _ | refine blk_drew ?_ | refine blk_alloc ?_ _)); exact BK114.out⟩, ⟨by repeat (first | (with_reducible first | exact HB.out | apply below_alloc | apply pw_below_drewN | apply below_drew1 | refine below_set ?_ GE114.out) | exact HB.out)⟩⟩
                   ·rw [if_neg c39] at H
                    exact absurd H (by simp)
                ·rw [if_neg c29] at H
                 exact absurd H (by simp)
               ·rw [if_neg c28] at H
                exact absurd H (by simp)
              ·rw [if_neg c26] at H
               have c26b0 : decide (x5_1 < 6) = false := decide_eq_false c26
               clear c26
               obtain rfl := Option.some.inj H
               go_wp2
               repeat (go_quiet (fail); try go_wp2)
               go_ret
               exact ⟨by first | rfl | (simp [errW_none, errW_some] <;> rfl) | (simp [*, errW_none, errW_some] <;> rfl), by repeat (first | (with_reducible first | exact HB.out | apply below_alloc | apply pw_below_drewN | apply below_drew1 | refine below_set ?_ GE114.out) | exact HB.out)⟩
           ·rw [if_neg c19] at H
            exact absurd H (by simp)
          ·rw [if_neg c18] at H
           exact absurd H (by simp)
         ·rw [if_neg c16] at H
          exact absurd H (by simp)
        ·rw [if_neg c15] at H
         exact absurd H (by simp)
       ·rw [if_neg c13] at H
        exact absurd H (by simp)
      ·rw [if_neg c12] at H
       exact absurd H (by simp)
     ·rw [if_neg c10] at H
      exact absurd H (by simp)
    ·rw [if_neg c9] at H
     exact absurd H (by simp)
   ·rw [if_neg c7] at H
    exact absurd H (by simp)
  ·rw [if_neg c6] at H
   exact absurd H (by simp)
 ·replace c3 := Bool.eq_false_iff.mpr c3
  subst c3
  have H1 : (some (⟨#[]⟩ : ByteArray)) = some r := by rw [if_neg (show ¬ (false = true) by decide)] at H; exact H
  clear H
  have H := H1
  clear H1
  obtain rfl := Option.some.inj H
  go_enter Tryd.func9, Tryd.ntmps9
  go_wp2_with (first | ((with_reducible refine gate_dst (N := 1) rfl ?_); refine box_event ?hg (N := 1) ?hd (cs := #[.int .i64 a0_0, .int .i64 a0_1, .int .i64 a0_2, .int .i64 a0_3, .int .i64 a0_4, .int .i64 a0_5, .int .i64 a0_6, .int .i64 a0_7, .int .i64 a0_8, .int .i64 a0_9, .int .i64 a0_10]) (t := 25) ?hr ?_; (case hd => rfl); (case hg => rfl); (case hr => first | (go_simp; done) | (go_simp; rfl)); intro gb114 hg w41 hbox hb; have n0_ := Aside0.mk (below_step (by repeat (first | (with_reducible first | exact HB.out | apply below_alloc | apply pw_below_drewN | apply below_drew1) | exact HB.out)) hb); have n1_ := Aside0.mk (hbox); have n2_ := Aside0.mk ((by rw [hg]; exact (below_size (by repeat (first | (with_reducible first | exact HB.out | apply below_alloc | apply pw_below_drewN | apply below_drew1) | exact HB.out))) : w.heap.size ≤ gb114)); have n3_ := Aside0.mk ((by rw [hg]; exact (below_size (by repeat (first | (with_reducible first | exact HB.out | apply below_alloc | apply pw_below_drewN | apply below_drew1) | exact HB.out))) : w.heap.size ≤ gb114)); clear HB; have HB := n0_; have BK114 := n1_; have GW114 := n2_; have GE114 := n3_; clear n0_ n1_ n2_ n3_; clear hb hbox hg; have hcz42_0 : w41.cell? ⟨gb114, 0, none⟩ = some (.int .i64 a0_0) := (blk_cell BK114.out 0).trans rfl; have hcz42_1 : w41.cell? ⟨gb114, 1, none⟩ = some (.int .i64 a0_1) := (blk_cell BK114.out 1).trans rfl; have hcz42_2 : w41.cell? ⟨gb114, 2, none⟩ = some (.int .i64 a0_2) := (blk_cell BK114.out 2).trans rfl; have hcz42_3 : w41.cell? ⟨gb114, 3, none⟩ = some (.int .i64 a0_3) := (blk_cell BK114.out 3).trans rfl; have hcz42_4 : w41.cell? ⟨gb114, 4, none⟩ = some (.int .i64 a0_4) := (blk_cell BK114.out 4).trans rfl; have hcz42_5 : w41.cell? ⟨gb114, 5, none⟩ = some (.int .i64 a0_5) := (blk_cell BK114.out 5).trans rfl; have hcz42_6 : w41.cell? ⟨gb114, 6, none⟩ = some (.int .i64 a0_6) := (blk_cell BK114.out 6).trans rfl; have hcz42_7 : w41.cell? ⟨gb114, 7, none⟩ = some (.int .i64 a0_7) := (blk_cell BK114.out 7).trans rfl; have hcz42_8 : w41.cell? ⟨gb114, 8, none⟩ = some (.int .i64 a0_8) := (blk_cell BK114.out 8).trans rfl; have hcz42_9 : w41.cell? ⟨gb114, 9, none⟩ = some (.int .i64 a0_9) := (blk_cell BK114.out 9).trans rfl; have hcz42_10 : w41.cell? ⟨gb114, 10, none⟩ = some (.int .i64 a0_10) := (blk_cell BK114.out 10).trans rfl; have hfz42_0 := blk_frozen BK114.out 0; have hfz42_1 := blk_frozen BK114.out 1; have hfz42_2 := blk_frozen BK114.out 2; have hfz42_3 := blk_frozen BK114.out 3; have hfz42_4 := blk_frozen BK114.out 4; have hfz42_5 := blk_frozen BK114.out 5; have hfz42_6 := blk_frozen BK114.out 6; have hfz42_7 := blk_frozen BK114.out 7; have hfz42_8 := blk_frozen BK114.out 8; have hfz42_9 := blk_frozen BK114.out 9; have hfz42_10 := blk_frozen BK114.out 10) | (go_at_call 7; (with_reducible refine (spec_KnowOk.calls k a0_0 a0_1 a0_2 a0_3 a0_4 a0_5 a0_6 a0_7 a0_8 a0_9 a0_10 false _ A2.out).mono ?_); rintro e w43 ⟨rfl, hb⟩; have n0_ := Aside0.mk (blk_below (g := gb114) (o := .cells #[.int .i64 a0_0, .int .i64 a0_1, .int .i64 a0_2, .int .i64 a0_3, .int .i64 a0_4, .int .i64 a0_5, .int .i64 a0_6, .int .i64 a0_7, .int .i64 a0_8, .int .i64 a0_9, .int .i64 a0_10] 25 (0, 0)) (by (with_reducible repeat (first | refine blk_drewN ?_ _ | refine blk_drew ?_ | refine blk_alloc ?_ _)); exact BK114.out) hb); have n1_ := Aside0.mk (below_step (by repeat (first | (with_reducible first | exact HB.out | apply below_alloc | apply pw_below_drewN | apply below_drew1 | refine below_set ?_ GE114.out) | exact HB.out)) hb); clear BK114; clear HB; have BK114 := n0_; have HB := n1_; clear n0_ n1_; (try clear hb); (try clear hb2); (try clear hk); (try clear hi)))
  repeat (go_quiet (first | ((with_reducible refine gate_dst (N := 1) rfl ?_); refine box_event ?hg (N := 1) ?hd (cs := #[.int .i64 a0_0, .int .i64 a0_1, .int .i64 a0_2, .int .i64 a0_3, .int .i64 a0_4, .int .i64 a0_5, .int .i64 a0_6, .int .i64 a0_7, .int .i64 a0_8, .int .i64 a0_9, .int .i64 a0_10]) (t := 25) ?hr ?_; (case hd => rfl); (case hg => rfl); (case hr => first | (go_simp; done) | (go_simp; rfl)); intro gb114 hg w41 hbox hb; have n0_ := Aside0.mk (below_step (by repeat (first | (with_reducible first | exact HB.out | apply below_alloc | apply pw_below_drewN | apply below_drew1) | exact HB.out)) hb); have n1_ := Aside0.mk (hbox); have n2_ := Aside0.mk ((by rw [hg]; exact (below_size (by repeat (first | (with_reducible first | exact HB.out | apply below_alloc | apply pw_below_drewN | apply below_drew1) | exact HB.out))) : w.heap.size ≤ gb114)); have n3_ := Aside0.mk ((by rw [hg]; exact (below_size (by repeat (first | (with_reducible first | exact HB.out | apply below_alloc | apply pw_below_drewN | apply below_drew1) | exact HB.out))) : w.heap.size ≤ gb114)); clear HB; have HB := n0_; have BK114 := n1_; have GW114 := n2_; have GE114 := n3_; clear n0_ n1_ n2_ n3_; clear hb hbox hg; have hcz42_0 : w41.cell? ⟨gb114, 0, none⟩ = some (.int .i64 a0_0) := (blk_cell BK114.out 0).trans rfl; have hcz42_1 : w41.cell? ⟨gb114, 1, none⟩ = some (.int .i64 a0_1) := (blk_cell BK114.out 1).trans rfl; have hcz42_2 : w41.cell? ⟨gb114, 2, none⟩ = some (.int .i64 a0_2) := (blk_cell BK114.out 2).trans rfl; have hcz42_3 : w41.cell? ⟨gb114, 3, none⟩ = some (.int .i64 a0_3) := (blk_cell BK114.out 3).trans rfl; have hcz42_4 : w41.cell? ⟨gb114, 4, none⟩ = some (.int .i64 a0_4) := (blk_cell BK114.out 4).trans rfl; have hcz42_5 : w41.cell? ⟨gb114, 5, none⟩ = some (.int .i64 a0_5) := (blk_cell BK114.out 5).trans rfl; have hcz42_6 : w41.cell? ⟨gb114, 6, none⟩ = some (.int .i64 a0_6) := (blk_cell BK114.out 6).trans rfl; have hcz42_7 : w41.cell? ⟨gb114, 7, none⟩ = some (.int .i64 a0_7) := (blk_cell BK114.out 7).trans rfl; have hcz42_8 : w41.cell? ⟨gb114, 8, none⟩ = some (.int .i64 a0_8) := (blk_cell BK114.out 8).trans rfl; have hcz42_9 : w41.cell? ⟨gb114, 9, none⟩ = some (.int .i64 a0_9) := (blk_cell BK114.out 9).trans rfl; have hcz42_10 : w41.cell? ⟨gb114, 10, none⟩ = some (.int .i64 a0_10) := (blk_cell BK114.out 10).trans rfl; have hfz42_0 := blk_frozen BK114.out 0; have hfz42_1 := blk_frozen BK114.out 1; have hfz42_2 := blk_frozen BK114.out 2; have hfz42_3 := blk_frozen BK114.out 3; have hfz42_4 := blk_frozen BK114.out 4; have hfz42_5 := blk_frozen BK114.out 5; have hfz42_6 := blk_frozen BK114.out 6; have hfz42_7 := blk_frozen BK114.out 7; have hfz42_8 := blk_frozen BK114.out 8; have hfz42_9 := blk_frozen BK114.out 9; have hfz42_10 := blk_frozen BK114.out 10) | (go_at_call 7; (with_reducible refine (spec_KnowOk.calls k a0_0 a0_1 a0_2 a0_3 a0_4 a0_5 a0_6 a0_7 a0_8 a0_9 a0_10 false _ A2.out).mono ?_); rintro e w43 ⟨rfl, hb⟩; have n0_ := Aside0.mk (blk_below (g := gb114) (o := .cells #[.int .i64 a0_0, .int .i64 a0_1, .int .i64 a0_2, .int .i64 a0_3, .int .i64 a0_4, .int .i64 a0_5, .int .i64 a0_6, .int .i64 a0_7, .int .i64 a0_8, .int .i64 a0_9, .int .i64 a0_10] 25 (0, 0)) (by (with_reducible repeat (first | refine blk_drewN ?_ _ | refine blk_drew ?_ | refine blk_alloc ?_ _)); exact BK114.out) hb); have n1_ := Aside0.mk (below_step (by repeat (first | (with_reducible first | exact HB.out | apply below_alloc | apply pw_below_drewN | apply below_drew1 | refine below_set ?_ GE114.out) | exact HB.out)) hb); clear BK114; clear HB; have BK114 := n0_; have HB := n1_; clear n0_ n1_; (try clear hb); (try clear hb2); (try clear hk); (try clear hi))); try go_wp2_with (first | ((with_reducible refine gate_dst (N := 1) rfl ?_); refine box_event ?hg (N := 1) ?hd (cs := #[.int .i64 a0_0, .int .i64 a0_1, .int .i64 a0_2, .int .i64 a0_3, .int .i64 a0_4, .int .i64 a0_5, .int .i64 a0_6, .int .i64 a0_7, .int .i64 a0_8, .int .i64 a0_9, .int .i64 a0_10]) (t := 25) ?hr ?_; (case hd => rfl); (case hg => rfl); (case hr => first | (go_simp; done) | (go_simp; rfl)); intro gb114 hg w41 hbox hb; have n0_ := Aside0.mk (below_step (by repeat (first | (with_reducible first | exact HB.out | apply below_alloc | apply pw_below_drewN | apply below_drew1) | exact HB.out)) hb); have n1_ := Aside0.mk (hbox); have n2_ := Aside0.mk ((by rw [hg]; exact (below_size (by repeat (first | (with_reducible first | exact HB.out | apply below_alloc | apply pw_below_drewN | apply below_drew1) | exact HB.out))) : w.heap.size ≤ gb114)); have n3_ := Aside0.mk ((by rw [hg]; exact (below_size (by repeat (first | (with_reducible first | exact HB.out | apply below_alloc | apply pw_below_drewN | apply below_drew1) | exact HB.out))) : w.heap.size ≤ gb114)); clear HB; have HB := n0_; have BK114 := n1_; have GW114 := n2_; have GE114 := n3_; clear n0_ n1_ n2_ n3_; clear hb hbox hg; have hcz42_0 : w41.cell? ⟨gb114, 0, none⟩ = some (.int .i64 a0_0) := (blk_cell BK114.out 0).trans rfl; have hcz42_1 : w41.cell? ⟨gb114, 1, none⟩ = some (.int .i64 a0_1) := (blk_cell BK114.out 1).trans rfl; have hcz42_2 : w41.cell? ⟨gb114, 2, none⟩ = some (.int .i64 a0_2) := (blk_cell BK114.out 2).trans rfl; have hcz42_3 : w41.cell? ⟨gb114, 3, none⟩ = some (.int .i64 a0_3) := (blk_cell BK114.out 3).trans rfl; have hcz42_4 : w41.cell? ⟨gb114, 4, none⟩ = some (.int .i64 a0_4) := (blk_cell BK114.out 4).trans rfl; have hcz42_5 : w41.cell? ⟨gb114, 5, none⟩ = some (.int .i64 a0_5) := (blk_cell BK114.out 5).trans rfl; have hcz42_6 : w41.cell? ⟨gb114, 6, none⟩ = some (.int .i64 a0_6) := (blk_cell BK114.out 6).trans rfl; have hcz42_7 : w41.cell? ⟨gb114, 7, none⟩ = some (.int .i64 a0_7) := (blk_cell BK114.out 7).trans rfl; have hcz42_8 : w41.cell? ⟨gb114, 8, none⟩ = some (.int .i64 a0_8) := (blk_cell BK114.out 8).trans rfl; have hcz42_9 : w41.cell? ⟨gb114, 9, none⟩ = some (.int .i64 a0_9) := (blk_cell BK114.out 9).trans rfl; have hcz42_10 : w41.cell? ⟨gb114, 10, none⟩ = some (.int .i64 a0_10) := (blk_cell BK114.out 10).trans rfl; have hfz42_0 := blk_frozen BK114.out 0; have hfz42_1 := blk_frozen BK114.out 1; have hfz42_2 := blk_frozen BK114.out 2; have hfz42_3 := blk_frozen BK114.out 3; have hfz42_4 := blk_frozen BK114.out 4; have hfz42_5 := blk_frozen BK114.out 5; have hfz42_6 := blk_frozen BK114.out 6; have hfz42_7 := blk_frozen BK114.out 7; have hfz42_8 := blk_frozen BK114.out 8; have hfz42_9 := blk_frozen BK114.out 9; have hfz42_10 := blk_frozen BK114.out 10) | (go_at_call 7; (with_reducible refine (spec_KnowOk.calls k a0_0 a0_1 a0_2 a0_3 a0_4 a0_5 a0_6 a0_7 a0_8 a0_9 a0_10 false _ A2.out).mono ?_); rintro e w43 ⟨rfl, hb⟩; have n0_ := Aside0.mk (blk_below (g := gb114) (o := .cells #[.int .i64 a0_0, .int .i64 a0_1, .int .i64 a0_2, .int .i64 a0_3, .int .i64 a0_4, .int .i64 a0_5, .int .i64 a0_6, .int .i64 a0_7, .int .i64 a0_8, .int .i64 a0_9, .int .i64 a0_10] 25 (0, 0)) (by (with_reducible repeat (first | refine blk_drewN ?_ _ | refine blk_drew ?_ | refine blk_alloc ?_ _)); exact BK114.out) hb); have n1_ := Aside0.mk (below_step (by repeat (first | (with_reducible first | exact HB.out | apply below_alloc | apply pw_below_drewN | apply below_drew1 | refine below_set ?_ GE114.out) | exact HB.out)) hb); clear BK114; clear HB; have BK114 := n0_; have HB := n1_; clear n0_ n1_; (try clear hb); (try clear hb2); (try clear hk); (try clear hi))))
  go_ret
  exact ⟨by first | rfl | (simp [errW_none, errW_some] <;> rfl) | (simp [*, errW_none, errW_some] <;> rfl), by repeat (first | (with_reducible first | exact HB.out | apply below_alloc | apply pw_below_drewN | apply below_drew1 | refine below_set ?_ GE114.out) | exact HB.out)⟩

/-! ### spec_Row: function 4 -/
def spec_Row.j0 : Nat → Int → ByteArray → Bool → Int → Int → Int → Int → Int → Int → Int → Int → Int → Int → Int → Option (ByteArray)
 | 0, _, _, _, _, _, _, _, _, _, _, _, _, _, _ => none
 | k + 1, x0, x2, x13, x126000, x126001, x126002, x126003, x126004, x126005, x126006, x126007, x126008, x126009, x126010 => if x13 = true then (some (⟨#[]⟩ : ByteArray)) else ((spec_DecText.f k x0).bind fun t127 => (if t127.size + 1 ≤ 9223372036854775807 then ((spec_KnowText.f k x126000 x126001 x126002 x126003 x126004 x126005 x126006 x126007 x126008 x126009 x126010).bind fun t128 => (if (t127 ++ (⟨#[32]⟩ : ByteArray)).size + t128.size ≤ 9223372036854775807 then (if ((t127 ++ (⟨#[32]⟩ : ByteArray)) ++ t128).size + 1 ≤ 9223372036854775807 then (if (((t127 ++ (⟨#[32]⟩ : ByteArray)) ++ t128) ++ (⟨#[32]⟩ : ByteArray)).size + x2.size ≤ 9223372036854775807 then (some ((((t127 ++ (⟨#[32]⟩ : ByteArray)) ++ t128) ++ (⟨#[32]⟩ : ByteArray)) ++ x2)) else (none)) else (none)) else (none))) else (none)))
def spec_Row.f (k : Nat) (a0 : Int) (a1_0 : Int) (a1_1 : Int) (a1_2 : Int) (a1_3 : Int) (a1_4 : Int) (a1_5 : Int) (a1_6 : Int) (a1_7 : Int) (a1_8 : Int) (a1_9 : Int) (a1_10 : Int) (a2 : ByteArray) : Option (ByteArray) := if a0 < 0 then (spec_Row.j0 k a0 a2 true a1_0 a1_1 a1_2 a1_3 a1_4 a1_5 a1_6 a1_7 a1_8 a1_9 a1_10) else ((spec_KnowOk.f k a1_0 a1_1 a1_2 a1_3 a1_4 a1_5 a1_6 a1_7 a1_8 a1_9 a1_10).bind fun t126 => (spec_Row.j0 k a0 a2 (!t126) a1_0 a1_1 a1_2 a1_3 a1_4 a1_5 a1_6 a1_7 a1_8 a1_9 a1_10))
theorem spec_Row.mono_l : ∀ k, (∀ y0 y1 y2 y3 y4 y5 y6 y7 y8 y9 y10 y11 y12 y13, LeO (spec_Row.j0 k y0 y1 y2 y3 y4 y5 y6 y7 y8 y9 y10 y11 y12 y13) (spec_Row.j0 (k + 1) y0 y1 y2 y3 y4 y5 y6 y7 y8 y9 y10 y11 y12 y13))
 | 0 => fun _ _ _ _ _ _ _ _ _ _ _ _ _ _ r h => by simp [spec_Row.j0] at h
 | k + 1 => by
  have ih0 := spec_Row.mono_l k
  ·intro y0 y1 y2 y3 y4 y5 y6 y7 y8 y9 y10 y11 y12 y13
   unfold spec_Row.j0
   repeat' first
   | (with_reducible exact ih0 _ _ _ _ _ _ _ _ _ _ _ _ _ _)
   | (with_reducible exact spec_DecText.mono _ _)
   | (with_reducible exact spec_KnowOk.mono _ _ _ _ _ _ _ _ _ _ _ _)
   | (with_reducible exact spec_KnowText.mono _ _ _ _ _ _ _ _ _ _ _ _)
   | (with_reducible exact LeO.refl _)
   | (with_reducible exact LeO.none _)
   | (with_reducible refine LeO.ite ?_ ?_)
   | (with_reducible refine LeO.bind ?_ (fun _ => ?_))
   | exact ih0 _ _ _ _ _ _ _ _ _ _ _ _ _ _
   | exact spec_DecText.mono _ _
   | exact spec_KnowOk.mono _ _ _ _ _ _ _ _ _ _ _ _
   | exact spec_KnowText.mono _ _ _ _ _ _ _ _ _ _ _ _
   | exact LeO.none _
   | refine LeO.ite ?_ ?_
   | refine LeO.bind ?_ (fun _ => ?_)
theorem spec_Row.mono : ∀ a0 a1 a2 a3 a4 a5 a6 a7 a8 a9 a10 a11 a12 k, LeO (spec_Row.f k a0 a1 a2 a3 a4 a5 a6 a7 a8 a9 a10 a11 a12) (spec_Row.f (k + 1) a0 a1 a2 a3 a4 a5 a6 a7 a8 a9 a10 a11 a12) := by
 intro a0 a1 a2 a3 a4 a5 a6 a7 a8 a9 a10 a11 a12 k
 have ih0 := spec_Row.mono_l k
 unfold spec_Row.f
 repeat' first
   | (with_reducible exact ih0 _ _ _ _ _ _ _ _ _ _ _ _ _ _)
   | (with_reducible exact spec_DecText.mono _ _)
   | (with_reducible exact spec_KnowOk.mono _ _ _ _ _ _ _ _ _ _ _ _)
   | (with_reducible exact spec_KnowText.mono _ _ _ _ _ _ _ _ _ _ _ _)
   | (with_reducible exact LeO.refl _)
   | (with_reducible exact LeO.none _)
   | (with_reducible refine LeO.ite ?_ ?_)
   | (with_reducible refine LeO.bind ?_ (fun _ => ?_))
   | exact ih0 _ _ _ _ _ _ _ _ _ _ _ _ _ _
   | exact spec_DecText.mono _ _
   | exact spec_KnowOk.mono _ _ _ _ _ _ _ _ _ _ _ _
   | exact spec_KnowText.mono _ _ _ _ _ _ _ _ _ _ _ _
   | exact LeO.none _
   | refine LeO.ite ?_ ?_
   | refine LeO.bind ?_ (fun _ => ?_)
def spec_Row.T3 : Bool × List (List Nat × List Nat) := (true, [([], []), ([0], [0]), ([1], [1]), ([], []), ([3, 1], [3]), ([2, 4], [2, 4]), ([5], [5]), ([], []), ([6, 7], [6, 7]), ([8, 4, 0, 1, 2, 3, 4, 5, 6, 7, 8], [8])])
def spec_Row.B3 : List Nat := [0, 1, 3, 0, 11, 31, 63, 0, 255, 511]
theorem spec_Row.tab3 : rtab .any (opsOf Tryd.f4 3) = spec_Row.T3 := by kernel_rfl
theorem spec_Row.bits3 : waitsOk spec_Row.T3.2 spec_Row.B3 = true := by kernel_rfl
set_option maxHeartbeats 8000000 in
set_option maxRecDepth 100000 in
theorem spec_Row.calls (k : Nat) (a0 : Int) (a1_0 : Int) (a1_1 : Int) (a1_2 : Int) (a1_3 : Int) (a1_4 : Int) (a1_5 : Int) (a1_6 : Int) (a1_7 : Int) (a1_8 : Int) (a1_9 : Int) (a1_10 : Int) (a2 : ByteArray) (r : ByteArray) (w : World) (h : spec_Row.f k a0 a1_0 a1_1 a1_2 a1_3 a1_4 a1_5 a1_6 a1_7 a1_8 a1_9 a1_10 a2 = some r) :
  Calls Tryd.prog 4 #[.int .i64 a0, .agg #[.int .i64 a1_0, .int .i64 a1_1, .int .i64 a1_2, .int .i64 a1_3, .int .i64 a1_4, .int .i64 a1_5, .int .i64 a1_6, .int .i64 a1_7, .int .i64 a1_8, .int .i64 a1_9, .int .i64 a1_10], .string a2] w fun e w' => e = .returned (.string r) ∧ Below w.heap.size w w' := by
 have hu25 := Tryd.underlying25
 have HB := Aside0.mk (Below.refl w.heap.size w)
 have H : (if a0 < 0 then (spec_Row.j0 k a0 a2 true a1_0 a1_1 a1_2 a1_3 a1_4 a1_5 a1_6 a1_7 a1_8 a1_9 a1_10) else ((spec_KnowOk.f k a1_0 a1_1 a1_2 a1_3 a1_4 a1_5 a1_6 a1_7 a1_8 a1_9 a1_10).bind fun t126 => (spec_Row.j0 k a0 a2 (!t126) a1_0 a1_1 a1_2 a1_3 a1_4 a1_5 a1_6 a1_7 a1_8 a1_9 a1_10))) = some r := h
 clear h
 have HC4 := Aside0.mk H
 clear H
 go_enter Tryd.func4, Tryd.ntmps4
 go_upto_region 1 with (first | ((with_reducible refine gate_dst (N := 4) rfl ?_); refine box_event ?hg (N := 4) ?hd (cs := #[.int .i64 a1_0, .int .i64 a1_1, .int .i64 a1_2, .int .i64 a1_3, .int .i64 a1_4, .int .i64 a1_5, .int .i64 a1_6, .int .i64 a1_7, .int .i64 a1_8, .int .i64 a1_9, .int .i64 a1_10]) (t := 25) ?hr ?_; (case hd => rfl); (case hg => rfl); (case hr => first | (go_simp; done) | (go_simp; rfl)); intro gb125 hg w5 hbox hb; have n0_ := Aside0.mk (below_step (by repeat (first | (with_reducible first | exact HB.out | apply below_alloc | apply pw_below_drewN | apply below_drew1) | exact HB.out)) hb); have n1_ := Aside0.mk (hbox); have n2_ := Aside0.mk ((by rw [hg]; exact (below_size (by repeat (first | (with_reducible first | exact HB.out | apply below_alloc | apply pw_below_drewN | apply below_drew1) | exact HB.out))) : w.heap.size ≤ gb125)); have n3_ := Aside0.mk ((by rw [hg]; exact (below_size (by repeat (first | (with_reducible first | exact HB.out | apply below_alloc | apply pw_below_drewN | apply below_drew1) | exact HB.out))) : w.heap.size ≤ gb125)); clear HB; have HB := n0_; have BK125 := n1_; have GW125 := n2_; have GE125 := n3_; clear n0_ n1_ n2_ n3_; clear hb hbox hg))
 (try simp only [Act.put, List.setIfInBounds_toArray, List.set_cons_zero, List.set_cons_succ])
 go_cut [13] (fun v13 wc => ∃ (kq : Nat) (x13_3 : Bool), v13 = .bool x13_3 ∧ Aside0 (spec_Row.j0 kq a0 a2 x13_3 a1_0 a1_1 a1_2 a1_3 a1_4 a1_5 a1_6 a1_7 a1_8 a1_9 a1_10 = some r) ∧ Aside0 (kq ≤ k) ∧ Aside0 (wc.heap[gb125]? = some (.cells #[.int .i64 a1_0, .int .i64 a1_1, .int .i64 a1_2, .int .i64 a1_3, .int .i64 a1_4, .int .i64 a1_5, .int .i64 a1_6, .int .i64 a1_7, .int .i64 a1_8, .int .i64 a1_9, .int .i64 a1_10] 25 (0, 0))) ∧ Aside0 (Below w.heap.size w wc))
 case first =>
  have H := HC4.out
  clear HC4
  by_cases c6 : a0 < 0
  ·rw [if_pos c6] at H
   have c6b0 : decide (a0 < 0) = true := decide_eq_true c6
   clear c6
   (first | rw [c6b0] | (simp only [i64_w, i32_w]; rw [c6b0]) | skip)
   have H' := Aside0.mk H
   clear H
   go_wp2
   go_meet
   case rel => exact ⟨_, (true), (by first | rfl | (simp; done) | (simp [*]; done)), H', ⟨by first | omega | exact Nat.le_refl _⟩, ⟨by (with_reducible repeat (first | refine blk_drewN ?_ _ | refine blk_drew ?_ | refine blk_alloc ?_ _)); exact BK125.out⟩, ⟨by repeat (first | (with_reducible first | exact HB.out | apply below_alloc | apply pw_below_drewN | apply below_drew1 | refine below_set ?_ GE125.out) | exact HB.out)⟩⟩
  ·rw [if_neg c6] at H
   have c6b0 : decide (a0 < 0) = false := decide_eq_false c6
   clear c6
   (first | rw [c6b0] | (simp only [i64_w, i32_w]; rw [c6b0]) | skip)
   replace H := Option.bind_eq_some_iff.mp H
   obtain ⟨t126, A70, H⟩ := H
   replace H : (spec_Row.j0 k a0 a2 (!t126) a1_0 a1_1 a1_2 a1_3 a1_4 a1_5 a1_6 a1_7 a1_8 a1_9 a1_10) = some r := H
   have A7 := Aside0.mk A70
   clear A70
   have H' := Aside0.mk H
   clear H
   have hcz8_0 : w5.cell? ⟨gb125, 0, none⟩ = some (.int .i64 a1_0) := (blk_cell BK125.out 0).trans rfl
   have hcz8_1 : w5.cell? ⟨gb125, 1, none⟩ = some (.int .i64 a1_1) := (blk_cell BK125.out 1).trans rfl
   have hcz8_2 : w5.cell? ⟨gb125, 2, none⟩ = some (.int .i64 a1_2) := (blk_cell BK125.out 2).trans rfl
   have hcz8_3 : w5.cell? ⟨gb125, 3, none⟩ = some (.int .i64 a1_3) := (blk_cell BK125.out 3).trans rfl
   have hcz8_4 : w5.cell? ⟨gb125, 4, none⟩ = some (.int .i64 a1_4) := (blk_cell BK125.out 4).trans rfl
   have hcz8_5 : w5.cell? ⟨gb125, 5, none⟩ = some (.int .i64 a1_5) := (blk_cell BK125.out 5).trans rfl
   have hcz8_6 : w5.cell? ⟨gb125, 6, none⟩ = some (.int .i64 a1_6) := (blk_cell BK125.out 6).trans rfl
   have hcz8_7 : w5.cell? ⟨gb125, 7, none⟩ = some (.int .i64 a1_7) := (blk_cell BK125.out 7).trans rfl
   have hcz8_8 : w5.cell? ⟨gb125, 8, none⟩ = some (.int .i64 a1_8) := (blk_cell BK125.out 8).trans rfl
   have hcz8_9 : w5.cell? ⟨gb125, 9, none⟩ = some (.int .i64 a1_9) := (blk_cell BK125.out 9).trans rfl
   have hcz8_10 : w5.cell? ⟨gb125, 10, none⟩ = some (.int .i64 a1_10) := (blk_cell BK125.out 10).trans rfl
   have hfz8_0 := blk_frozen BK125.out 0
   have hfz8_1 := blk_frozen BK125.out 1
   have hfz8_2 := blk_frozen BK125.out 2
   have hfz8_3 := blk_frozen BK125.out 3
   have hfz8_4 := blk_frozen BK125.out 4
   have hfz8_5 := blk_frozen BK125.out 5
   have hfz8_6 := blk_frozen BK125.out 6
   have hfz8_7 := blk_frozen BK125.out 7
   have hfz8_8 := blk_frozen BK125.out 8
   have hfz8_9 := blk_frozen BK125.out 9
   have hfz8_10 := blk_frozen BK125.out 10
   go_wp2_with (first | (go_at_call 7; (with_reducible refine (spec_KnowOk.calls k a1_0 a1_1 a1_2 a1_3 a1_4 a1_5 a1_6 a1_7 a1_8 a1_9 a1_10 t126 _ A7.out).mono ?_); rintro e w9 ⟨rfl, hb⟩; have n0_ := Aside0.mk (blk_below (g := gb125) (o := .cells #[.int .i64 a1_0, .int .i64 a1_1, .int .i64 a1_2, .int .i64 a1_3, .int .i64 a1_4, .int .i64 a1_5, .int .i64 a1_6, .int .i64 a1_7, .int .i64 a1_8, .int .i64 a1_9, .int .i64 a1_10] 25 (0, 0)) (by (with_reducible repeat (first | refine blk_drewN ?_ _ | refine blk_drew ?_ | refine blk_alloc ?_ _)); exact BK125.out) hb); have n1_ := Aside0.mk (below_step (by repeat (first | (with_reducible first | exact HB.out | apply below_alloc | apply pw_below_drewN | apply below_drew1 | refine below_set ?_ GE125.out) | exact HB.out)) hb); clear BK125; clear HB; have BK125 := n0_; have HB := n1_; clear n0_ n1_; (try clear hb); (try clear hb2); (try clear hk); (try clear hi)))
   go_meet
   case rel => exact ⟨_, (!t126), (by first | rfl | (simp; done) | (simp [*]; done)), H', ⟨by first | omega | exact Nat.le_refl _⟩, ⟨by (with_reducible repeat (first | refine blk_drewN ?_ _ | refine blk_drew ?_ | refine blk_alloc ?_ _)); exact BK125.out⟩, ⟨by repeat (first | (with_reducible first | exact HB.out | apply below_alloc | apply pw_below_drewN | apply below_drew1 | refine below_set ?_ GE125.out) | exact HB.out)⟩⟩
 case rest =>
  clear HC4
  try clear p2
  try clear c4
  try clear c6
  try clear c6b0
  try clear hcz8_0
  try clear hcz8_1
  try clear hcz8_10
  try clear hcz8_2
  try clear hcz8_3
  try clear hcz8_4
  try clear hcz8_5
  try clear hcz8_6
  try clear hcz8_7
  try clear hcz8_8
  try clear hcz8_9
  try clear hfz8_0
  try clear hfz8_1
  try clear hfz8_10
  try clear hfz8_2
  try clear hfz8_3
  try clear hfz8_4
  try clear hfz8_5
  try clear hfz8_6
  try clear hfz8_7
  try clear hfz8_8
  try clear hfz8_9
  obtain ⟨kq, x13_3, rfl, HA, HJ3, BK125, HB⟩ := hcut
  cases kq with
  | zero => exact absurd HA.out (by simp [spec_Row.j0])
  | succ kj3 =>
   have H := HA.out
   clear HA
   simp only [spec_Row.j0] at H
   by_cases c10 : x13_3 = true
   ·subst c10
    have H1 : (some (⟨#[]⟩ : ByteArray)) = some r := by rw [if_pos rfl] at H; exact H
    clear H
    have H := H1
    clear H1
    obtain rfl := Option.some.inj H
    go_wp2
    go_ret
    exact ⟨by first | rfl | (simp [errW_none, errW_some] <;> rfl) | (simp [*, errW_none, errW_some] <;> rfl), by repeat (first | (with_reducible first | exact HB.out | apply below_alloc | apply pw_below_drewN | apply below_drew1 | refine below_set ?_ GE125.out) | exact HB.out)⟩
   ·replace c10 := Bool.eq_false_iff.mpr c10
    subst c10
    have H1 : ((spec_DecText.f kj3 a0).bind fun t127 => (if t127.size + 1 ≤ 9223372036854775807 then ((spec_KnowText.f kj3 a1_0 a1_1 a1_2 a1_3 a1_4 a1_5 a1_6 a1_7 a1_8 a1_9 a1_10).bind fun t128 => (if (t127 ++ (⟨#[32]⟩ : ByteArray)).size + t128.size ≤ 9223372036854775807 then (if ((t127 ++ (⟨#[32]⟩ : ByteArray)) ++ t128).size + 1 ≤ 9223372036854775807 then (if (((t127 ++ (⟨#[32]⟩ : ByteArray)) ++ t128) ++ (⟨#[32]⟩ : ByteArray)).size + a2.size ≤ 9223372036854775807 then (some ((((t127 ++ (⟨#[32]⟩ : ByteArray)) ++ t128) ++ (⟨#[32]⟩ : ByteArray)) ++ a2)) else (none)) else (none)) else (none))) else (none))) = some r := by rw [if_neg (show ¬ (false = true) by decide)] at H; exact H
    clear H
    have H := H1
    clear H1
    replace H := Option.bind_eq_some_iff.mp H
    obtain ⟨t127, A110, H⟩ := H
    replace H : (if t127.size + 1 ≤ 9223372036854775807 then ((spec_KnowText.f kj3 a1_0 a1_1 a1_2 a1_3 a1_4 a1_5 a1_6 a1_7 a1_8 a1_9 a1_10).bind fun t128 => (if (t127 ++ (⟨#[32]⟩ : ByteArray)).size + t128.size ≤ 9223372036854775807 then (if ((t127 ++ (⟨#[32]⟩ : ByteArray)) ++ t128).size + 1 ≤ 9223372036854775807 then (if (((t127 ++ (⟨#[32]⟩ : ByteArray)) ++ t128) ++ (⟨#[32]⟩ : ByteArray)).size + a2.size ≤ 9223372036854775807 then (some ((((t127 ++ (⟨#[32]⟩ : ByteArray)) ++ t128) ++ (⟨#[32]⟩ : ByteArray)) ++ a2)) else (none)) else (none)) else (none))) else (none)) = some r := H
    have A11 := Aside0.mk A110
    clear A110
    by_cases c12 : t127.size + 1 ≤ 9223372036854775807
    ·rw [if_pos c12] at H
     have c12b0 := eq_true c12
     have c12b1 : decide (t127.size + 1 ≤ 9223372036854775807) = true := decide_eq_true c12
     try have c12b2 : (9223372036854775807 < t127.size + 1) = False := eq_false (Nat.not_lt.2 c12)
     try (have c12b3 := c12; simp at c12b3; have c12b4 := eq_true c12b3; have c12b5 := decide_eq_true c12b3; have c12b6 := eq_false (Nat.not_lt.2 c12b3))
     replace H := Option.bind_eq_some_iff.mp H
     obtain ⟨t128, A130, H⟩ := H
     replace H : (if (t127 ++ (⟨#[32]⟩ : ByteArray)).size + t128.size ≤ 9223372036854775807 then (if ((t127 ++ (⟨#[32]⟩ : ByteArray)) ++ t128).size + 1 ≤ 9223372036854775807 then (if (((t127 ++ (⟨#[32]⟩ : ByteArray)) ++ t128) ++ (⟨#[32]⟩ : ByteArray)).size + a2.size ≤ 9223372036854775807 then (some ((((t127 ++ (⟨#[32]⟩ : ByteArray)) ++ t128) ++ (⟨#[32]⟩ : ByteArray)) ++ a2)) else (none)) else (none)) else (none)) = some r := H
     have A13 := Aside0.mk A130
     clear A130
     by_cases c14 : (t127 ++ (⟨#[32]⟩ : ByteArray)).size + t128.size ≤ 9223372036854775807
     ·rw [if_pos c14] at H
      have c14b0 := eq_true c14
      have c14b1 : decide ((t127 ++ (⟨#[32]⟩ : ByteArray)).size + t128.size ≤ 9223372036854775807) = true := decide_eq_true c14
      try have c14b2 : (9223372036854775807 < (t127 ++ (⟨#[32]⟩ : ByteArray)).size + t128.size) = False := eq_false (Nat.not_lt.2 c14)
      try (have c14b3 := c14; simp at c14b3; have c14b4 := eq_true c14b3; have c14b5 := decide_eq_true c14b3; have c14b6 := eq_false (Nat.not_lt.2 c14b3))
      have c14b7 : t127.size + 1 + t128.size ≤ 9223372036854775807 := by have h_ := c14; simp only [ByteArray.size_append] at h_; exact h_
      have c14b8 := eq_false (Nat.not_lt.2 c14b7)
      replace c14b7 := eq_true c14b7
      by_cases c15 : ((t127 ++ (⟨#[32]⟩ : ByteArray)) ++ t128).size + 1 ≤ 9223372036854775807
      ·rw [if_pos c15] at H
       have c15b0 := eq_true c15
       have c15b1 : decide (((t127 ++ (⟨#[32]⟩ : ByteArray)) ++ t128).size + 1 ≤ 9223372036854775807) = true := decide_eq_true c15
       try have c15b2 : (9223372036854775807 < ((t127 ++ (⟨#[32]⟩ : ByteArray)) ++ t128).size + 1) = False := eq_false (Nat.not_lt.2 c15)
       try (have c15b3 := c15; simp at c15b3; have c15b4 := eq_true c15b3; have c15b5 := decide_eq_true c15b3; have c15b6 := eq_false (Nat.not_lt.2 c15b3))
       have c15b7 : t127.size + 1 + t128.size + 1 ≤ 9223372036854775807 := by have h_ := c15; simp only [ByteArray.size_append] at h_; exact h_
       have c15b8 := eq_false (Nat.not_lt.2 c15b7)
       replace c15b7 := eq_true c15b7
       by_cases c16 : (((t127 ++ (⟨#[32]⟩ : ByteArray)) ++ t128) ++ (⟨#[32]⟩ : ByteArray)).size + a2.size ≤ 9223372036854775807
       ·rw [if_pos c16] at H
        have c16b0 := eq_true c16
        have c16b1 : decide ((((t127 ++ (⟨#[32]⟩ : ByteArray)) ++ t128) ++ (⟨#[32]⟩ : ByteArray)).size + a2.size ≤ 9223372036854775807) = true := decide_eq_true c16
        try have c16b2 : (9223372036854775807 < (((t127 ++ (⟨#[32]⟩ : ByteArray)) ++ t128) ++ (⟨#[32]⟩ : ByteArray)).size + a2.size) = False := eq_false (Nat.not_lt.2 c16)
        try (have c16b3 := c16; simp at c16b3; have c16b4 := eq_true c16b3; have c16b5 := decide_eq_true c16b3; have c16b6 := eq_false (Nat.not_lt.2 c16b3))
        have c16b7 : t127.size + 1 + t128.size + 1 + a2.size ≤ 9223372036854775807 := by have h_ := c16; simp only [ByteArray.size_append] at h_; exact h_
        have c16b8 := eq_false (Nat.not_lt.2 c16b7)
        replace c16b7 := eq_true c16b7
        obtain rfl := Option.some.inj H
        try go_wp2
        have n0_ := Aside0.mk (blk_drew BK125.out)
        have n1_ := Aside0.mk (below_drew1 HB.out)
        clear BK125
        clear HB
        have BK125 := n0_
        have HB := n1_
        clear n0_ n1_
        refine start_ (n := 10) (S := fun w' => w'.cell? ⟨gb125, 0, none⟩ = some (.int .i64 a1_0) ∧ w'.cell? ⟨gb125, 1, none⟩ = some (.int .i64 a1_1) ∧ w'.cell? ⟨gb125, 2, none⟩ = some (.int .i64 a1_2) ∧ w'.cell? ⟨gb125, 3, none⟩ = some (.int .i64 a1_3) ∧ w'.cell? ⟨gb125, 4, none⟩ = some (.int .i64 a1_4) ∧ w'.cell? ⟨gb125, 5, none⟩ = some (.int .i64 a1_5) ∧ w'.cell? ⟨gb125, 6, none⟩ = some (.int .i64 a1_6) ∧ w'.cell? ⟨gb125, 7, none⟩ = some (.int .i64 a1_7) ∧ w'.cell? ⟨gb125, 8, none⟩ = some (.int .i64 a1_8) ∧ w'.cell? ⟨gb125, 9, none⟩ = some (.int .i64 a1_9) ∧ w'.cell? ⟨gb125, 10, none⟩ = some (.int .i64 a1_10)) (ds := []) #[false, false, false, false, false, false, false, false, false, false] (by kernel_rfl) rfl rfl ⟨(blk_cell BK125.out 0).trans rfl, (blk_cell BK125.out 1).trans rfl, (blk_cell BK125.out 2).trans rfl, (blk_cell BK125.out 3).trans rfl, (blk_cell BK125.out 4).trans rfl, (blk_cell BK125.out 5).trans rfl, (blk_cell BK125.out 6).trans rfl, (blk_cell BK125.out 7).trans rfl, (blk_cell BK125.out 8).trans rfl, (blk_cell BK125.out 9).trans rfl, (blk_cell BK125.out 10).trans rfl⟩ (fun hHeld => ?_); refine with_tabW spec_Row.tab3 spec_Row.bits3 (fun HT_ HW_ => ?_)
        generalize wc.drew = w17 at BK125 HB hHeld ⊢
        refine pure_ (i := 0) (N := some 14) (v := ?_) (a' := ?_) #[true, false, false, false, false, false, false, false, false, false] rfl rfl (any_of HT_.out (by kernel_rfl)) (fun _ _ _ h => h) (Or.inl ⟨by rfl, ?_⟩) ?_ ?_
        rotate_left
        ·intro w'
         go_simp
         with_reducible rfl
        rotate_left
        ·simp only [Act.put, List.setIfInBounds_toArray, List.set_cons_zero, List.set_cons_succ, i64_w, i32_w]
         rfl
        refine pure_ (i := 7) (N := some 21) (v := ?_) (a' := ?_) #[true, false, false, false, false, false, false, true, false, false] rfl rfl (any_of HT_.out (by kernel_rfl)) (fun _ _ _ h => h) (Or.inl ⟨by rfl, ?_⟩) ?_ ?_
        rotate_left
        ·intro w'
         go_simp
         with_reducible rfl
        rotate_left
        ·simp only [Act.put, List.setIfInBounds_toArray, List.set_cons_zero, List.set_cons_succ, i64_w, i32_w]
         rfl
        refine take_ (i := 3) (N := some 17) (v := ?_) (a' := ?_) #[true, false, false, true, false, false, false, true, false, false] rfl rfl (take_ofW HT_.out HW_.out (by kernel_rfl)) (fun _ _ _ h => h) (Or.inl ⟨by rfl, ?_⟩) hHeld ?_ ?_
        rotate_left
        ·rintro w' ⟨s0, s1, s2, s3, s4, s5, s6, s7, s8, s9, s10⟩
         go_simp
         with_reducible rfl
        rotate_left
        ·simp only [Act.put, List.setIfInBounds_toArray, List.set_cons_zero, List.set_cons_succ, i64_w, i32_w]
         rfl
        refine one_ (i := 1) (N := some 15) #[true, true, false, true, false, false, false, true, false, false] rfl rfl (one_of HT_.out (by kernel_rfl)) (by decide) (fun K hK => ?_)
        refine goes_ Tryd.func8 (by kernel_rfl) rfl #[.int .i64 a0] (by rfl) rfl rfl (by (try simp only [List.map_toArray, List.map_cons, List.map_nil]); first | done | rfl | (simp only [List.length_drop, List.length_take]; rfl)) ?_
        with_reducible refine (spec_DecText.calls kj3 a0 t127 _ A11.out).mono ?_
        rintro e w' ⟨rfl, ⟨nd, rfl⟩⟩
        refine ⟨_, rfl, ?_⟩
        refine hK.out _ _ ⟨(blk_cell BK125.out 0).trans rfl, (blk_cell BK125.out 1).trans rfl, (blk_cell BK125.out 2).trans rfl, (blk_cell BK125.out 3).trans rfl, (blk_cell BK125.out 4).trans rfl, (blk_cell BK125.out 5).trans rfl, (blk_cell BK125.out 6).trans rfl, (blk_cell BK125.out 7).trans rfl, (blk_cell BK125.out 8).trans rfl, (blk_cell BK125.out 9).trans rfl, (blk_cell BK125.out 10).trans rfl⟩ (fun hHeld => ?_)
        clear hK K
        refine norm_ (a' := ?_) ?_ ?_
        rotate_left
        ·show Act.put _ (some 15) _ = _
         simp only [Act.put, List.setIfInBounds_toArray, List.set_cons_zero, List.set_cons_succ, i64_w, i32_w]
         rfl
        refine pure_ (i := 2) (N := some 16) (v := ?_) (a' := ?_) #[true, true, true, true, false, false, false, true, false, false] rfl rfl (any_of HT_.out (by kernel_rfl)) (fun _ _ _ h => h) (Or.inl ⟨by rfl, ?_⟩) ?_ ?_
        rotate_left
        ·intro w'
         go_simp
         with_reducible rfl
        rotate_left
        ·simp only [Act.put, List.setIfInBounds_toArray, List.set_cons_zero, List.set_cons_succ, i64_w, i32_w]
         rfl
        refine one_ (i := 4) (N := some 18) #[true, true, true, true, true, false, false, true, false, false] rfl rfl (one_of HT_.out (by kernel_rfl)) (by decide) (fun K hK => ?_)
        refine goes_ Tryd.func9 (by kernel_rfl) rfl #[.agg #[.int .i64 a1_0, .int .i64 a1_1, .int .i64 a1_2, .int .i64 a1_3, .int .i64 a1_4, .int .i64 a1_5, .int .i64 a1_6, .int .i64 a1_7, .int .i64 a1_8, .int .i64 a1_9, .int .i64 a1_10]] (by rfl) rfl rfl (by (try simp only [List.map_toArray, List.map_cons, List.map_nil]); first | done | rfl | (simp only [List.length_drop, List.length_take]; rfl)) ?_
        with_reducible refine (spec_KnowText.calls kj3 a1_0 a1_1 a1_2 a1_3 a1_4 a1_5 a1_6 a1_7 a1_8 a1_9 a1_10 t128 _ A13.out).mono ?_
        rintro e w18 ⟨rfl, hb⟩
        refine ⟨_, rfl, ?_⟩
        have n0_ := Aside0.mk (blk_below (g := gb125) (o := .cells #[.int .i64 a1_0, .int .i64 a1_1, .int .i64 a1_2, .int .i64 a1_3, .int .i64 a1_4, .int .i64 a1_5, .int .i64 a1_6, .int .i64 a1_7, .int .i64 a1_8, .int .i64 a1_9, .int .i64 a1_10] 25 (0, 0)) (by (with_reducible repeat (first | refine blk_drewN ?_ _ | refine blk_drew ?_ | refine blk_alloc ?_ _)); exact BK125.out) hb)
        have n1_ := Aside0.mk (below_step (by repeat (first | (with_reducible first | exact HB.out | apply below_alloc | apply pw_below_drewN | apply below_drew1 | refine below_set ?_ GE125.out) | exact HB.out)) hb)
        clear BK125
        clear HB
        have BK125 := n0_
        have HB := n1_
        clear n0_ n1_
        (try clear hb)
        (try clear hb2)
        (try clear hk)
        (try clear hi)
        refine hK.out _ _ ⟨(blk_cell BK125.out 0).trans rfl, (blk_cell BK125.out 1).trans rfl, (blk_cell BK125.out 2).trans rfl, (blk_cell BK125.out 3).trans rfl, (blk_cell BK125.out 4).trans rfl, (blk_cell BK125.out 5).trans rfl, (blk_cell BK125.out 6).trans rfl, (blk_cell BK125.out 7).trans rfl, (blk_cell BK125.out 8).trans rfl, (blk_cell BK125.out 9).trans rfl, (blk_cell BK125.out 10).trans rfl⟩ (fun hHeld => ?_)
        clear hK K
        refine norm_ (a' := ?_) ?_ ?_
        rotate_left
        ·show Act.put _ (some 18) _ = _
         simp only [Act.put, List.setIfInBounds_toArray, List.set_cons_zero, List.set_cons_succ, i64_w, i32_w]
         rfl
        refine pure_ (i := 5) (N := some 19) (v := ?_) (a' := ?_) #[true, true, true, true, true, true, false, true, false, false] rfl rfl (any_of HT_.out (by kernel_rfl)) (fun _ _ _ h => h) (Or.inl ⟨by rfl, ?_⟩) ?_ ?_
        rotate_left
        ·intro w'
         go_simp
         with_reducible rfl
        rotate_left
        ·simp only [Act.put, List.setIfInBounds_toArray, List.set_cons_zero, List.set_cons_succ, i64_w, i32_w]
         rfl
        refine pure_ (i := 6) (N := some 20) (v := ?_) (a' := ?_) #[true, true, true, true, true, true, true, true, false, false] rfl rfl (any_of HT_.out (by kernel_rfl)) (fun _ _ _ h => h) (Or.inl ⟨by rfl, ?_⟩) ?_ ?_
        rotate_left
        ·intro w'
         go_simp
         with_reducible rfl
        rotate_left
        ·simp only [Act.put, List.setIfInBounds_toArray, List.set_cons_zero, List.set_cons_succ, i64_w, i32_w]
         rfl
        refine pure_ (i := 8) (N := some 22) (v := ?_) (a' := ?_) #[true, true, true, true, true, true, true, true, true, false] rfl rfl (any_of HT_.out (by kernel_rfl)) (fun _ _ _ h => h) (Or.inl ⟨by rfl, ?_⟩) ?_ ?_
        rotate_left
        ·intro w'
         go_simp
         with_reducible rfl
        rotate_left
        ·simp only [Act.put, List.setIfInBounds_toArray, List.set_cons_zero, List.set_cons_succ, i64_w, i32_w]
         rfl
        refine pure_ (i := 9) (N := some 6) (v := ?_) (a' := ?_) #[true, true, true, true, true, true, true, true, true, true] rfl rfl (any_of HT_.out (by kernel_rfl)) (fun _ _ _ h => h) (Or.inl ⟨by rfl, ?_⟩) ?_ ?_
        rotate_left
        ·intro w'
         go_simp
         with_reducible rfl
        rotate_left
        ·simp only [Act.put, List.setIfInBounds_toArray, List.set_cons_zero, List.set_cons_succ, i64_w, i32_w]
         rfl
        refine done_ (done_of HT_.out (by kernel_rfl)) ?_
        try go_wp2
        go_ret
        exact ⟨by first | rfl | (simp [errW_none, errW_some] <;> rfl) | (simp [*, errW_none, errW_some] <;> rfl), by repeat (first | (with_reducible first | exact HB.out | apply below_alloc | apply pw_below_drewN | apply below_drew1 | refine below_set ?_ GE125.out) | exact HB.out)⟩
       ·rw [if_neg c16] at H
        exact absurd H (by simp)
      ·rw [if_neg c15] at H
       exact absurd H (by simp)
     ·rw [if_neg c14] at H
      exact absurd H (by simp)
    ·rw [if_neg c12] at H
     exact absurd H (by simp)

/-! ### laws_toKnow: function 5 -/
def laws_toKnow.f (a0_0 : Int) (a0_1 : Int) (a0_2 : Int) (a0_3 : Int) (a0_4 : Int) (a0_5 : Int) (a0_6 : Int) (a0_7 : Int) (a0_8 : Int) (a0_9 : Int) (a0_10 : Int) : Option (Int × Int × Int × Int × Int × Int × Int × Int × Int × Int × Int) := some (a0_0, a0_1, a0_2, a0_3, a0_4, a0_5, a0_6, a0_7, a0_8, a0_9, a0_10)
set_option maxHeartbeats 8000000 in
set_option maxRecDepth 100000 in
theorem laws_toKnow.calls (a0_0 : Int) (a0_1 : Int) (a0_2 : Int) (a0_3 : Int) (a0_4 : Int) (a0_5 : Int) (a0_6 : Int) (a0_7 : Int) (a0_8 : Int) (a0_9 : Int) (a0_10 : Int) (r1 : Int) (r2 : Int) (r3 : Int) (r4 : Int) (r5 : Int) (r6 : Int) (r7 : Int) (r8 : Int) (r9 : Int) (r10 : Int) (r11 : Int) (w : World) (h : laws_toKnow.f a0_0 a0_1 a0_2 a0_3 a0_4 a0_5 a0_6 a0_7 a0_8 a0_9 a0_10 = some (r1, r2, r3, r4, r5, r6, r7, r8, r9, r10, r11)) :
  Calls Tryd.prog 5 #[.agg #[.int .i64 a0_0, .int .i64 a0_1, .int .i64 a0_2, .int .i64 a0_3, .int .i64 a0_4, .int .i64 a0_5, .int .i64 a0_6, .int .i64 a0_7, .int .i64 a0_8, .int .i64 a0_9, .int .i64 a0_10]] w fun e w' => e = .returned (.agg #[.int .i64 r1, .int .i64 r2, .int .i64 r3, .int .i64 r4, .int .i64 r5, .int .i64 r6, .int .i64 r7, .int .i64 r8, .int .i64 r9, .int .i64 r10, .int .i64 r11]) ∧ Below w.heap.size w w' := by
 have hu23 := Tryd.underlying23
 have hu25 := Tryd.underlying25
 have HB := Aside0.mk (Below.refl w.heap.size w)
 have H : (some (a0_0, a0_1, a0_2, a0_3, a0_4, a0_5, a0_6, a0_7, a0_8, a0_9, a0_10)) = some (r1, r2, r3, r4, r5, r6, r7, r8, r9, r10, r11) := h
 clear h
 simp only [Option.some.injEq, Prod.mk.injEq] at H
 obtain ⟨rfl, rfl, rfl, rfl, rfl, rfl, rfl, rfl, rfl, rfl, rfl⟩ := H
 go_enter Tryd.func5, Tryd.ntmps5
 go_wp2_with (first | ((with_reducible refine gate_dst (N := 1) rfl ?_); refine box_event ?hg (N := 1) ?hd (cs := #[.int .i64 a0_0, .int .i64 a0_1, .int .i64 a0_2, .int .i64 a0_3, .int .i64 a0_4, .int .i64 a0_5, .int .i64 a0_6, .int .i64 a0_7, .int .i64 a0_8, .int .i64 a0_9, .int .i64 a0_10]) (t := 23) ?hr ?_; (case hd => rfl); (case hg => rfl); (case hr => first | (go_simp; done) | (go_simp; rfl)); intro gb129 hg w2 hbox hb; have n0_ := Aside0.mk (below_step (by repeat (first | (with_reducible first | exact HB.out | apply below_alloc | apply pw_below_drewN | apply below_drew1) | exact HB.out)) hb); have n1_ := Aside0.mk (hbox); have n2_ := Aside0.mk ((by rw [hg]; exact (below_size (by repeat (first | (with_reducible first | exact HB.out | apply below_alloc | apply pw_below_drewN | apply below_drew1) | exact HB.out))) : w.heap.size ≤ gb129)); have n3_ := Aside0.mk ((by rw [hg]; exact (below_size (by repeat (first | (with_reducible first | exact HB.out | apply below_alloc | apply pw_below_drewN | apply below_drew1) | exact HB.out))) : w.heap.size ≤ gb129)); clear HB; have HB := n0_; have BK129 := n1_; have GW129 := n2_; have GE129 := n3_; clear n0_ n1_ n2_ n3_; clear hb hbox hg) | ((with_reducible refine gate_dst (N := 2) rfl ?_); refine box_event ?hg (N := 2) ?hd (cs := #[.int .i64 0, .int .i64 0, .int .i64 0, .int .i64 0, .int .i64 0, .int .i64 0, .int .i64 0, .int .i64 0, .int .i64 0, .int .i64 0, .int .i64 0]) (t := 25) ?hr ?_; (case hd => rfl); (case hg => rfl); (case hr => first | (go_simp; done) | (go_simp; rfl)); intro gb130 hg w3 hbox hb; have n0_ := Aside0.mk (blk_below (g := gb129) (o := .cells #[.int .i64 a0_0, .int .i64 a0_1, .int .i64 a0_2, .int .i64 a0_3, .int .i64 a0_4, .int .i64 a0_5, .int .i64 a0_6, .int .i64 a0_7, .int .i64 a0_8, .int .i64 a0_9, .int .i64 a0_10] 23 (0, 0)) (by (with_reducible repeat (first | refine blk_drewN ?_ _ | refine blk_drew ?_ | refine blk_alloc ?_ _)); exact BK129.out) hb); have n1_ := Aside0.mk (below_step (by repeat (first | (with_reducible first | exact HB.out | apply below_alloc | apply pw_below_drewN | apply below_drew1 | refine below_set ?_ GE129.out) | exact HB.out)) hb); have n2_ := Aside0.mk (hbox); have n3_ := Aside0.mk ((by rw [hg]; exact (below_size (by repeat (first | (with_reducible first | exact HB.out | apply below_alloc | apply pw_below_drewN | apply below_drew1 | refine below_set ?_ GE129.out) | exact HB.out))) : w.heap.size ≤ gb130)); have n4_ := Aside0.mk ((by rw [hg]; exact (below_size (by repeat (first | (with_reducible first | exact HB.out | apply below_alloc | apply pw_below_drewN | apply below_drew1 | refine below_set ?_ GE129.out) | exact HB.out))) : w.heap.size ≤ gb130)); have n5_ := Aside0.mk ((by rw [hg]; exact Nat.ne_of_lt (blk_lt (g := gb129) (o := .cells #[.int .i64 a0_0, .int .i64 a0_1, .int .i64 a0_2, .int .i64 a0_3, .int .i64 a0_4, .int .i64 a0_5, .int .i64 a0_6, .int .i64 a0_7, .int .i64 a0_8, .int .i64 a0_9, .int .i64 a0_10] 23 (0, 0)) (by (with_reducible repeat (first | refine blk_drewN ?_ _ | refine blk_drew ?_ | refine blk_alloc ?_ _)); exact BK129.out)) : gb129 ≠ gb130)); have n6_ := Aside0.mk ((by rw [hg]; exact Nat.ne_of_gt (blk_lt (g := gb129) (o := .cells #[.int .i64 a0_0, .int .i64 a0_1, .int .i64 a0_2, .int .i64 a0_3, .int .i64 a0_4, .int .i64 a0_5, .int .i64 a0_6, .int .i64 a0_7, .int .i64 a0_8, .int .i64 a0_9, .int .i64 a0_10] 23 (0, 0)) (by (with_reducible repeat (first | refine blk_drewN ?_ _ | refine blk_drew ?_ | refine blk_alloc ?_ _)); exact BK129.out)) : gb130 ≠ gb129)); clear BK129; clear HB; have BK129 := n0_; have HB := n1_; have BK130 := n2_; have GW130 := n3_; have GE130 := n4_; have NB129_130 := n5_; have NB130_129 := n6_; clear n0_ n1_ n2_ n3_ n4_ n5_ n6_; clear hb hbox hg) | ((with_reducible refine gate_dst (N := 3) rfl ?_); refine box_event ?hg (N := 3) ?hd (cs := #[.int .i64 0, .int .i64 0, .int .i64 0, .int .i64 0, .int .i64 0, .int .i64 0, .int .i64 0, .int .i64 0, .int .i64 0, .int .i64 0, .int .i64 0]) (t := 25) ?hr ?_; (case hd => rfl); (case hg => rfl); (case hr => first | (go_simp; done) | (go_simp; rfl)); intro gb131 hg w4 hbox hb; have n0_ := Aside0.mk (blk_below (g := gb129) (o := .cells #[.int .i64 a0_0, .int .i64 a0_1, .int .i64 a0_2, .int .i64 a0_3, .int .i64 a0_4, .int .i64 a0_5, .int .i64 a0_6, .int .i64 a0_7, .int .i64 a0_8, .int .i64 a0_9, .int .i64 a0_10] 23 (0, 0)) (by (with_reducible repeat (first | refine blk_drewN ?_ _ | refine blk_drew ?_ | refine blk_alloc ?_ _)); exact BK129.out) hb); have n1_ := Aside0.mk (blk_below (g := gb130) (o := .cells #[.int .i64 0, .int .i64 0, .int .i64 0, .int .i64 0, .int .i64 0, .int .i64 0, .int .i64 0, .int .i64 0, .int .i64 0, .int .i64 0, .int .i64 0] 25 (0, 0)) (by (with_reducible repeat (first | refine blk_drewN ?_ _ | refine blk_drew ?_ | refine blk_alloc ?_ _)); exact BK130.out) hb); have n2_ := Aside0.mk (below_step (by repeat (first | (with_reducible first | exact HB.out | apply below_alloc | apply pw_below_drewN | apply below_drew1 | refine below_set ?_ GE129.out | refine below_set ?_ GE130.out) | exact HB.out)) hb); have n3_ := Aside0.mk (hbox); have n4_ := Aside0.mk ((by rw [hg]; exact (below_size (by repeat (first | (with_reducible first | exact HB.out | apply below_alloc | apply pw_below_drewN | apply below_drew1 | refine below_set ?_ GE129.out | refine below_set ?_ GE130.out) | exact HB.out))) : w.heap.size ≤ gb131)); have n5_ := Aside0.mk ((by rw [hg]; exact (below_size (by repeat (first | (with_reducible first | exact HB.out | apply below_alloc | apply pw_below_drewN | apply below_drew1 | refine below_set ?_ GE129.out | refine below_set ?_ GE130.out) | exact HB.out))) : w.heap.size ≤ gb131)); have n6_ := Aside0.mk ((by rw [hg]; exact Nat.ne_of_lt (blk_lt (g := gb129) (o := .cells #[.int .i64 a0_0, .int .i64 a0_1, .int .i64 a0_2, .int .i64 a0_3, .int .i64 a0_4, .int .i64 a0_5, .int .i64 a0_6, .int .i64 a0_7, .int .i64 a0_8, .int .i64 a0_9, .int .i64 a0_10] 23 (0, 0)) (by (with_reducible repeat (first | refine blk_drewN ?_ _ | refine blk_drew ?_ | refine blk_alloc ?_ _)); exact BK129.out)) : gb129 ≠ gb131)); have n7_ := Aside0.mk ((by rw [hg]; exact Nat.ne_of_gt (blk_lt (g := gb129) (o := .cells #[.int .i64 a0_0, .int .i64 a0_1, .int .i64 a0_2, .int .i64 a0_3, .int .i64 a0_4, .int .i64 a0_5, .int .i64 a0_6, .int .i64 a0_7, .int .i64 a0_8, .int .i64 a0_9, .int .i64 a0_10] 23 (0, 0)) (by (with_reducible repeat (first | refine blk_drewN ?_ _ | refine blk_drew ?_ | refine blk_alloc ?_ _)); exact BK129.out)) : gb131 ≠ gb129)); have n8_ := Aside0.mk ((by rw [hg]; exact Nat.ne_of_lt (blk_lt (g := gb130) (o := .cells #[.int .i64 0, .int .i64 0, .int .i64 0, .int .i64 0, .int .i64 0, .int .i64 0, .int .i64 0, .int .i64 0, .int .i64 0, .int .i64 0, .int .i64 0] 25 (0, 0)) (by (with_reducible repeat (first | refine blk_drewN ?_ _ | refine blk_drew ?_ | refine blk_alloc ?_ _)); exact BK130.out)) : gb130 ≠ gb131)); have n9_ := Aside0.mk ((by rw [hg]; exact Nat.ne_of_gt (blk_lt (g := gb130) (o := .cells #[.int .i64 0, .int .i64 0, .int .i64 0, .int .i64 0, .int .i64 0, .int .i64 0, .int .i64 0, .int .i64 0, .int .i64 0, .int .i64 0, .int .i64 0] 25 (0, 0)) (by (with_reducible repeat (first | refine blk_drewN ?_ _ | refine blk_drew ?_ | refine blk_alloc ?_ _)); exact BK130.out)) : gb131 ≠ gb130)); clear BK129; clear BK130; clear HB; have BK129 := n0_; have BK130 := n1_; have HB := n2_; have BK131 := n3_; have GW131 := n4_; have GE131 := n5_; have NB129_131 := n6_; have NB131_129 := n7_; have NB130_131 := n8_; have NB131_130 := n9_; clear n0_ n1_ n2_ n3_ n4_ n5_ n6_ n7_ n8_ n9_; clear hb hbox hg; have hnb5 := NB129_130.out; have hnc5 := NB130_129.out; have hnb6 := NB129_131.out; have hnc6 := NB131_129.out; have hcz7_0 : w4.cell? ⟨gb129, 0, none⟩ = some (.int .i64 a0_0) := (blk_cell BK129.out 0).trans rfl; have hcz7_1 : w4.cell? ⟨gb129, 1, none⟩ = some (.int .i64 a0_1) := (blk_cell BK129.out 1).trans rfl; have hcz7_2 : w4.cell? ⟨gb129, 2, none⟩ = some (.int .i64 a0_2) := (blk_cell BK129.out 2).trans rfl; have hcz7_3 : w4.cell? ⟨gb129, 3, none⟩ = some (.int .i64 a0_3) := (blk_cell BK129.out 3).trans rfl; have hcz7_4 : w4.cell? ⟨gb129, 4, none⟩ = some (.int .i64 a0_4) := (blk_cell BK129.out 4).trans rfl; have hcz7_5 : w4.cell? ⟨gb129, 5, none⟩ = some (.int .i64 a0_5) := (blk_cell BK129.out 5).trans rfl; have hcz7_6 : w4.cell? ⟨gb129, 6, none⟩ = some (.int .i64 a0_6) := (blk_cell BK129.out 6).trans rfl; have hcz7_7 : w4.cell? ⟨gb129, 7, none⟩ = some (.int .i64 a0_7) := (blk_cell BK129.out 7).trans rfl; have hcz7_8 : w4.cell? ⟨gb129, 8, none⟩ = some (.int .i64 a0_8) := (blk_cell BK129.out 8).trans rfl; have hcz7_9 : w4.cell? ⟨gb129, 9, none⟩ = some (.int .i64 a0_9) := (blk_cell BK129.out 9).trans rfl; have hcz7_10 : w4.cell? ⟨gb129, 10, none⟩ = some (.int .i64 a0_10) := (blk_cell BK129.out 10).trans rfl; have hfz7_0 := blk_frozen BK129.out 0; have hfz7_1 := blk_frozen BK129.out 1; have hfz7_2 := blk_frozen BK129.out 2; have hfz7_3 := blk_frozen BK129.out 3; have hfz7_4 := blk_frozen BK129.out 4; have hfz7_5 := blk_frozen BK129.out 5; have hfz7_6 := blk_frozen BK129.out 6; have hfz7_7 := blk_frozen BK129.out 7; have hfz7_8 := blk_frozen BK129.out 8; have hfz7_9 := blk_frozen BK129.out 9; have hfz7_10 := blk_frozen BK129.out 10; have hnb8 := NB131_130.out; have hnc8 := NB130_131.out; have hcz9_0 : w4.cell? ⟨gb131, 0, none⟩ = some (.int .i64 0) := (blk_cell BK131.out 0).trans rfl; have hcz9_1 : w4.cell? ⟨gb131, 1, none⟩ = some (.int .i64 0) := (blk_cell BK131.out 1).trans rfl; have hcz9_2 : w4.cell? ⟨gb131, 2, none⟩ = some (.int .i64 0) := (blk_cell BK131.out 2).trans rfl; have hcz9_3 : w4.cell? ⟨gb131, 3, none⟩ = some (.int .i64 0) := (blk_cell BK131.out 3).trans rfl; have hcz9_4 : w4.cell? ⟨gb131, 4, none⟩ = some (.int .i64 0) := (blk_cell BK131.out 4).trans rfl; have hcz9_5 : w4.cell? ⟨gb131, 5, none⟩ = some (.int .i64 0) := (blk_cell BK131.out 5).trans rfl; have hcz9_6 : w4.cell? ⟨gb131, 6, none⟩ = some (.int .i64 0) := (blk_cell BK131.out 6).trans rfl; have hcz9_7 : w4.cell? ⟨gb131, 7, none⟩ = some (.int .i64 0) := (blk_cell BK131.out 7).trans rfl; have hcz9_8 : w4.cell? ⟨gb131, 8, none⟩ = some (.int .i64 0) := (blk_cell BK131.out 8).trans rfl; have hcz9_9 : w4.cell? ⟨gb131, 9, none⟩ = some (.int .i64 0) := (blk_cell BK131.out 9).trans rfl; have hcz9_10 : w4.cell? ⟨gb131, 10, none⟩ = some (.int .i64 0) := (blk_cell BK131.out 10).trans rfl; have hfz9_0 := blk_frozen BK131.out 0; have hfz9_1 := blk_frozen BK131.out 1; have hfz9_2 := blk_frozen BK131.out 2; have hfz9_3 := blk_frozen BK131.out 3; have hfz9_4 := blk_frozen BK131.out 4; have hfz9_5 := blk_frozen BK131.out 5; have hfz9_6 := blk_frozen BK131.out 6; have hfz9_7 := blk_frozen BK131.out 7; have hfz9_8 := blk_frozen BK131.out 8; have hfz9_9 := blk_frozen BK131.out 9; have hfz9_10 := blk_frozen BK131.out 10; have hcz10_0 : w4.cell? ⟨gb130, 0, none⟩ = some (.int .i64 0) := (blk_cell BK130.out 0).trans rfl; have hcz10_1 : w4.cell? ⟨gb130, 1, none⟩ = some (.int .i64 0) := (blk_cell BK130.out 1).trans rfl; have hcz10_2 : w4.cell? ⟨gb130, 2, none⟩ = some (.int .i64 0) := (blk_cell BK130.out 2).trans rfl; have hcz10_3 : w4.cell? ⟨gb130, 3, none⟩ = some (.int .i64 0) := (blk_cell BK130.out 3).trans rfl; have hcz10_4 : w4.cell? ⟨gb130, 4, none⟩ = some (.int .i64 0) := (blk_cell BK130.out 4).trans rfl; have hcz10_5 : w4.cell? ⟨gb130, 5, none⟩ = some (.int .i64 0) := (blk_cell BK130.out 5).trans rfl; have hcz10_6 : w4.cell? ⟨gb130, 6, none⟩ = some (.int .i64 0) := (blk_cell BK130.out 6).trans rfl; have hcz10_7 : w4.cell? ⟨gb130, 7, none⟩ = some (.int .i64 0) := (blk_cell BK130.out 7).trans rfl; have hcz10_8 : w4.cell? ⟨gb130, 8, none⟩ = some (.int .i64 0) := (blk_cell BK130.out 8).trans rfl; have hcz10_9 : w4.cell? ⟨gb130, 9, none⟩ = some (.int .i64 0) := (blk_cell BK130.out 9).trans rfl; have hcz10_10 : w4.cell? ⟨gb130, 10, none⟩ = some (.int .i64 0) := (blk_cell BK130.out 10).trans rfl; have hfz10_0 := blk_frozen BK130.out 0; have hfz10_1 := blk_frozen BK130.out 1; have hfz10_2 := blk_frozen BK130.out 2; have hfz10_3 := blk_frozen BK130.out 3; have hfz10_4 := blk_frozen BK130.out 4; have hfz10_5 := blk_frozen BK130.out 5; have hfz10_6 := blk_frozen BK130.out 6; have hfz10_7 := blk_frozen BK130.out 7; have hfz10_8 := blk_frozen BK130.out 8; have hfz10_9 := blk_frozen BK130.out 9; have hfz10_10 := blk_frozen BK130.out 10))
 refine bodyPost_ret (results_cell_row rfl _ _ gb130 25 #[.int .i64 a0_0, .int .i64 a0_1, .int .i64 a0_2, .int .i64 a0_3, .int .i64 a0_4, .int .i64 a0_5, .int .i64 a0_6, .int .i64 a0_7, .int .i64 a0_8, .int .i64 a0_9, .int .i64 a0_10] (0, 0) _ rfl (by (with_reducible repeat (first | refine blk_drewN ?_ _ | refine blk_drew ?_ | refine blk_alloc ?_ _)); refine blk_put (cs := #[.int .i64 a0_0, .int .i64 a0_1, .int .i64 a0_2, .int .i64 a0_3, .int .i64 a0_4, .int .i64 a0_5, .int .i64 a0_6, .int .i64 a0_7, .int .i64 a0_8, .int .i64 a0_9, .int .i64 0]) ?_ 10 _ rfl; (with_reducible repeat (first | refine blk_drewN ?_ _ | refine blk_drew ?_ | refine blk_alloc ?_ _)); refine blk_put (cs := #[.int .i64 a0_0, .int .i64 a0_1, .int .i64 a0_2, .int .i64 a0_3, .int .i64 a0_4, .int .i64 a0_5, .int .i64 a0_6, .int .i64 a0_7, .int .i64 a0_8, .int .i64 0, .int .i64 0]) ?_ 9 _ rfl; (with_reducible repeat (first | refine blk_drewN ?_ _ | refine blk_drew ?_ | refine blk_alloc ?_ _)); refine blk_put (cs := #[.int .i64 a0_0, .int .i64 a0_1, .int .i64 a0_2, .int .i64 a0_3, .int .i64 a0_4, .int .i64 a0_5, .int .i64 a0_6, .int .i64 a0_7, .int .i64 0, .int .i64 0, .int .i64 0]) ?_ 8 _ rfl; (with_reducible repeat (first | refine blk_drewN ?_ _ | refine blk_drew ?_ | refine blk_alloc ?_ _)); refine blk_put (cs := #[.int .i64 a0_0, .int .i64 a0_1, .int .i64 a0_2, .int .i64 a0_3, .int .i64 a0_4, .int .i64 a0_5, .int .i64 a0_6, .int .i64 0, .int .i64 0, .int .i64 0, .int .i64 0]) ?_ 7 _ rfl; (with_reducible repeat (first | refine blk_drewN ?_ _ | refine blk_drew ?_ | refine blk_alloc ?_ _)); refine blk_put (cs := #[.int .i64 a0_0, .int .i64 a0_1, .int .i64 a0_2, .int .i64 a0_3, .int .i64 a0_4, .int .i64 a0_5, .int .i64 0, .int .i64 0, .int .i64 0, .int .i64 0, .int .i64 0]) ?_ 6 _ rfl; (with_reducible repeat (first | refine blk_drewN ?_ _ | refine blk_drew ?_ | refine blk_alloc ?_ _)); refine blk_put (cs := #[.int .i64 a0_0, .int .i64 a0_1, .int .i64 a0_2, .int .i64 a0_3, .int .i64 a0_4, .int .i64 0, .int .i64 0, .int .i64 0, .int .i64 0, .int .i64 0, .int .i64 0]) ?_ 5 _ rfl; (with_reducible repeat (first | refine blk_drewN ?_ _ | refine blk_drew ?_ | refine blk_alloc ?_ _)); refine blk_put (cs := #[.int .i64 a0_0, .int .i64 a0_1, .int .i64 a0_2, .int .i64 a0_3, .int .i64 0, .int .i64 0, .int .i64 0, .int .i64 0, .int .i64 0, .int .i64 0, .int .i64 0]) ?_ 4 _ rfl; (with_reducible repeat (first | refine blk_drewN ?_ _ | refine blk_drew ?_ | refine blk_alloc ?_ _)); refine blk_put (cs := #[.int .i64 a0_0, .int .i64 a0_1, .int .i64 a0_2, .int .i64 0, .int .i64 0, .int .i64 0, .int .i64 0, .int .i64 0, .int .i64 0, .int .i64 0, .int .i64 0]) ?_ 3 _ rfl; (with_reducible repeat (first | refine blk_drewN ?_ _ | refine blk_drew ?_ | refine blk_alloc ?_ _)); refine blk_put (cs := #[.int .i64 a0_0, .int .i64 a0_1, .int .i64 0, .int .i64 0, .int .i64 0, .int .i64 0, .int .i64 0, .int .i64 0, .int .i64 0, .int .i64 0, .int .i64 0]) ?_ 2 _ rfl; (with_reducible repeat (first | refine blk_drewN ?_ _ | refine blk_drew ?_ | refine blk_alloc ?_ _)); refine blk_put (cs := #[.int .i64 a0_0, .int .i64 0, .int .i64 0, .int .i64 0, .int .i64 0, .int .i64 0, .int .i64 0, .int .i64 0, .int .i64 0, .int .i64 0, .int .i64 0]) ?_ 1 _ rfl; (with_reducible repeat (first | refine blk_drewN ?_ _ | refine blk_drew ?_ | refine blk_alloc ?_ _)); refine blk_put (cs := #[.int .i64 0, .int .i64 0, .int .i64 0, .int .i64 0, .int .i64 0, .int .i64 0, .int .i64 0, .int .i64 0, .int .i64 0, .int .i64 0, .int .i64 0]) ?_ 0 _ rfl; (with_reducible repeat (first | refine blk_drewN ?_ _ | refine blk_drew ?_ | refine blk_alloc ?_ _)); refine blk_far ?_ NB130_131.out _; (with_reducible repeat (first | refine blk_drewN ?_ _ | refine blk_drew ?_ | refine blk_alloc ?_ _)); refine blk_far ?_ NB130_131.out _; (with_reducible repeat (first | refine blk_drewN ?_ _ | refine blk_drew ?_ | refine blk_alloc ?_ _)); refine blk_far ?_ NB130_131.out _; (with_reducible repeat (first | refine blk_drewN ?_ _ | refine blk_drew ?_ | refine blk_alloc ?_ _)); refine blk_far ?_ NB130_131.out _; (with_reducible repeat (first | refine blk_drewN ?_ _ | refine blk_drew ?_ | refine blk_alloc ?_ _)); refine blk_far ?_ NB130_131.out _; (with_reducible repeat (first | refine blk_drewN ?_ _ | refine blk_drew ?_ | refine blk_alloc ?_ _)); refine blk_far ?_ NB130_131.out _; (with_reducible repeat (first | refine blk_drewN ?_ _ | refine blk_drew ?_ | refine blk_alloc ?_ _)); refine blk_far ?_ NB130_131.out _; (with_reducible repeat (first | refine blk_drewN ?_ _ | refine blk_drew ?_ | refine blk_alloc ?_ _)); refine blk_far ?_ NB130_131.out _; (with_reducible repeat (first | refine blk_drewN ?_ _ | refine blk_drew ?_ | refine blk_alloc ?_ _)); refine blk_far ?_ NB130_131.out _; (with_reducible repeat (first | refine blk_drewN ?_ _ | refine blk_drew ?_ | refine blk_alloc ?_ _)); refine blk_far ?_ NB130_131.out _; (with_reducible repeat (first | refine blk_drewN ?_ _ | refine blk_drew ?_ | refine blk_alloc ?_ _)); refine blk_far ?_ NB130_131.out _; (with_reducible repeat (first | refine blk_drewN ?_ _ | refine blk_drew ?_ | refine blk_alloc ?_ _)); exact BK130.out) Tryd.underlying25 rfl (by kernel_rfl)) rfl ?_
 exact ⟨by first | rfl | (simp [errW_none, errW_some] <;> rfl) | (simp [*, errW_none, errW_some] <;> rfl), by repeat (first | (with_reducible first | exact HB.out | apply below_alloc | apply pw_below_drewN | apply below_drew1 | refine below_set ?_ GE129.out | refine below_set ?_ GE130.out | refine below_set ?_ GE131.out) | exact HB.out)⟩

/-! ### impl_within: function 18 -/
def impl_within.f (a0 : Int) (a1 : Int) (a2 : Int) : Option (Bool) := if a0 ≥ a1 then (some (decide (a0 ≤ a2))) else (some false)
set_option maxHeartbeats 8000000 in
set_option maxRecDepth 100000 in
theorem impl_within.calls (a0 : Int) (a1 : Int) (a2 : Int) (r : Bool) (w : World) (h : impl_within.f a0 a1 a2 = some r) :
  Calls Tryd.prog 18 #[.int .i64 a0, .int .i64 a1, .int .i64 a2] w fun e w' => e = .returned (.bool r) ∧ Drawn0 w w' := by
 have H : (if a0 ≥ a1 then (some (decide (a0 ≤ a2))) else (some false)) = some r := h
 clear h
 by_cases c4 : a0 ≥ a1
 ·rw [if_pos c4] at H
  have c4b0 : decide (a1 ≤ a0) = true := decide_eq_true c4
  clear c4
  obtain rfl := Option.some.inj H
  go_enter Tryd.func18, Tryd.ntmps18
  go_wp2
  go_ret
  exact ⟨by first | rfl | (simp; done) | (simp [*]; done), by repeat (first | exact Drawn0.refl _ | apply Drawn0.step)⟩
 ·rw [if_neg c4] at H
  have c4b0 : decide (a1 ≤ a0) = false := decide_eq_false c4
  clear c4
  obtain rfl := Option.some.inj H
  go_enter Tryd.func18, Tryd.ntmps18
  go_wp2
  go_ret
  exact ⟨by first | rfl | (simp; done) | (simp [*]; done), by repeat (first | exact Drawn0.refl _ | apply Drawn0.step)⟩

/-! ### impl_bitsOf: function 19 -/
def impl_bitsOf.f (a0 : Int) : Option (Int) := if a0 < 4 then (some 8) else (if a0 = 4 then (some 16) else (some 1))
set_option maxHeartbeats 8000000 in
set_option maxRecDepth 100000 in
theorem impl_bitsOf.calls (a0 : Int) (r : Int) (w : World) (h : impl_bitsOf.f a0 = some r) :
  Calls Tryd.prog 19 #[.int .i64 a0] w fun e w' => e = .returned (.int .i64 r) ∧ Drawn0 w w' := by
 have H : (if a0 < 4 then (some 8) else (if a0 = 4 then (some 16) else (some 1))) = some r := h
 clear h
 by_cases c2 : a0 < 4
 ·rw [if_pos c2] at H
  have c2b0 : decide (a0 < 4) = true := decide_eq_true c2
  clear c2
  obtain rfl := Option.some.inj H
  go_enter Tryd.func19, Tryd.ntmps19
  go_wp2
  go_ret
  exact ⟨by first | rfl | (simp; done) | (simp [*]; done), by repeat (first | exact Drawn0.refl _ | apply Drawn0.step)⟩
 ·rw [if_neg c2] at H
  have c2b0 : decide (a0 < 4) = false := decide_eq_false c2
  clear c2
  by_cases c3 : a0 = 4
  ·rw [if_pos c3] at H
   have c3b0 : (a0 == 4) = true := beq_iff_eq.mpr c3
   have c3b1 : (a0 != 4) = false := bne_eq_false_iff_eq.mpr c3
   clear c3
   obtain rfl := Option.some.inj H
   go_enter Tryd.func19, Tryd.ntmps19
   go_wp2
   go_ret
   exact ⟨by first | rfl | (simp; done) | (simp [*]; done), by repeat (first | exact Drawn0.refl _ | apply Drawn0.step)⟩
  ·rw [if_neg c3] at H
   have c3b0 : (a0 == 4) = false := beq_eq_false_iff_ne.mpr c3
   have c3b1 : (a0 != 4) = true := bne_iff_ne.mpr c3
   obtain rfl := Option.some.inj H
   go_enter Tryd.func19, Tryd.ntmps19
   go_wp2
   go_ret
   exact ⟨by first | rfl | (simp; done) | (simp [*]; done), by repeat (first | exact Drawn0.refl _ | apply Drawn0.step)⟩

end Go.Proofs.YtidencofapcliaaDoor.MT
