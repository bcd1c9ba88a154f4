-- Written by this session's own program (wip/myprint.py) over the kit's print of the translation. Lean checks it.
import Derived.Test.YtlglpolokcnlhaaDoorMKx0
import Derived.Test.YtlglpolokcnlhaaDoorMKx2
namespace Go.Proofs.YtlglpolokcnlhaaDoor.MK
open Go.RowKit Go.Proofs.YtlglpolokcnlhaaDoorW.PrintWords Go.Proofs.YtlglpolokcnlhaaDoorW.PrintLast Go.Proofs.YtlglpolokcnlhaaDoorW.PrintMore
attribute [local go_sem] max2_int min2_int max_two min_two max_three min_three max_four min_four   -- for this text's walks alone
set_option linter.unusedVariables false
set_option linter.unusedSimpArgs false

/-! ### impl_operand: function 45 -/
mutual
def impl_operand.j0 : Nat → Int → List Int → Int → ByteArray → ByteArray → Option (ByteArray)
 | 0, _, _, _, _, _ => none
 | k + 1, x0, x1, x2, x7, x8 => if (x1.length : Int) > 2 then (if 2 < (x1.length : Int) then ((impl_HexText.f k (wrap64 (rd x1 2)) 2).bind fun t149 => (if 1 + t149.size ≤ 9223372036854775807 then (if 1 < (x1.length : Int) then ((impl_HexText.f k (wrap64 (rd x1 1)) 2).bind fun t151 => (if ((⟨#[36]⟩ : ByteArray) ++ t149).size + t151.size ≤ 9223372036854775807 then (impl_operand.j1 k x0 x1 x2 x7 (((⟨#[36]⟩ : ByteArray) ++ t149) ++ t151)) else (none))) else (none)) else (none))) else (none)) else (impl_operand.j1 k x0 x1 x2 x7 x8)
def impl_operand.j1 : Nat → Int → List Int → Int → ByteArray → ByteArray → Option (ByteArray)
 | 0, _, _, _, _, _ => none
 | k + 1, x0, x1, x2, x7, x8 => if x0 = 1 then (some (⟨#[65]⟩ : ByteArray)) else (if x0 = 2 then (if 1 + x7.size ≤ 9223372036854775807 then (some ((⟨#[35]⟩ : ByteArray) ++ x7)) else (none)) else (if x0 = 3 then (some x7) else (if x0 = 4 then (if x7.size + 2 ≤ 9223372036854775807 then (some (x7 ++ (⟨#[44, 88]⟩ : ByteArray))) else (none)) else (if x0 = 5 then (if x7.size + 2 ≤ 9223372036854775807 then (some (x7 ++ (⟨#[44, 89]⟩ : ByteArray))) else (none)) else (if x0 = 6 then (some x8) else (if x0 = 7 then (if x8.size + 2 ≤ 9223372036854775807 then (some (x8 ++ (⟨#[44, 88]⟩ : ByteArray))) else (none)) else (if x0 = 8 then (if x8.size + 2 ≤ 9223372036854775807 then (some (x8 ++ (⟨#[44, 89]⟩ : ByteArray))) else (none)) else (if x0 = 9 then (if 1 + x8.size ≤ 9223372036854775807 then (if ((⟨#[40]⟩ : ByteArray) ++ x8).size + 1 ≤ 9223372036854775807 then (some (((⟨#[40]⟩ : ByteArray) ++ x8) ++ (⟨#[41]⟩ : ByteArray))) else (none)) else (none)) else (if x0 = 10 then (if 1 + x7.size ≤ 9223372036854775807 then (if ((⟨#[40]⟩ : ByteArray) ++ x7).size + 3 ≤ 9223372036854775807 then (some (((⟨#[40]⟩ : ByteArray) ++ x7) ++ (⟨#[44, 88, 41]⟩ : ByteArray))) else (none)) else (none)) else (if x0 = 11 then (if 1 + x7.size ≤ 9223372036854775807 then (if ((⟨#[40]⟩ : ByteArray) ++ x7).size + 3 ≤ 9223372036854775807 then (some (((⟨#[40]⟩ : ByteArray) ++ x7) ++ (⟨#[41, 44, 89]⟩ : ByteArray))) else (none)) else (none)) else (if 1 < (x1.length : Int) then ((impl_target.f x2 (rd x1 1)).bind fun t153 => ((impl_HexText.f k (wrap64 (t153)) 4).bind fun t154 => (if 1 + t154.size ≤ 9223372036854775807 then (some ((⟨#[36]⟩ : ByteArray) ++ t154)) else (none)))) else (none))))))))))))
end
def impl_operand.f (k : Nat) (a0 : Int) (l1 : List Int) (a2 : Int) : Option (ByteArray) := if (l1.length : Int) > 1 then (if 1 < (l1.length : Int) then ((impl_HexText.f k (wrap64 (rd l1 1)) 2).bind fun t147 => (if 1 + t147.size ≤ 9223372036854775807 then (impl_operand.j0 k a0 l1 a2 ((⟨#[36]⟩ : ByteArray) ++ t147) (⟨#[]⟩ : ByteArray)) else (none))) else (none)) else (impl_operand.j0 k a0 l1 a2 (⟨#[]⟩ : ByteArray) (⟨#[]⟩ : ByteArray))
theorem impl_operand.mono_l : ∀ k, (∀ y0 y1 y2 y3 y4, LeO (impl_operand.j0 k y0 y1 y2 y3 y4) (impl_operand.j0 (k + 1) y0 y1 y2 y3 y4)) ∧ (∀ y0 y1 y2 y3 y4, LeO (impl_operand.j1 k y0 y1 y2 y3 y4) (impl_operand.j1 (k + 1) y0 y1 y2 y3 y4))
 | 0 => ⟨fun _ _ _ _ _ r h => by simp [impl_operand.j0] at h, fun _ _ _ _ _ r h => by simp [impl_operand.j1] at h⟩
 | k + 1 => by
  obtain ⟨ih0, ih1⟩ := impl_operand.mono_l k
  refine ⟨?_, ?_⟩
  ·intro y0 y1 y2 y3 y4
   unfold impl_operand.j0
   repeat' first
   | (with_reducible exact ih0 _ _ _ _ _)
   | (with_reducible exact ih1 _ _ _ _ _)
   | (with_reducible exact impl_HexText.mono _ _ _)
   | (with_reducible exact LeO.refl _)
   | (with_reducible exact LeO.none _)
   | (with_reducible refine LeO.ite ?_ ?_)
   | (with_reducible refine LeO.bind ?_ (fun _ => ?_))
   | exact ih0 _ _ _ _ _
   | exact ih1 _ _ _ _ _
   | exact impl_HexText.mono _ _ _
   | exact LeO.none _
   | refine LeO.ite ?_ ?_
   | refine LeO.bind ?_ (fun _ => ?_)
  ·intro y0 y1 y2 y3 y4
   unfold impl_operand.j1
   repeat' first
   | (with_reducible exact ih0 _ _ _ _ _)
   | (with_reducible exact ih1 _ _ _ _ _)
   | (with_reducible exact impl_HexText.mono _ _ _)
   | (with_reducible exact LeO.refl _)
   | (with_reducible exact LeO.none _)
   | (with_reducible refine LeO.ite ?_ ?_)
   | (with_reducible refine LeO.bind ?_ (fun _ => ?_))
   | exact ih0 _ _ _ _ _
   | exact ih1 _ _ _ _ _
   | exact impl_HexText.mono _ _ _
   | exact LeO.none _
   | refine LeO.ite ?_ ?_
   | refine LeO.bind ?_ (fun _ => ?_)
theorem impl_operand.mono : ∀ a0 a1 a2 k, LeO (impl_operand.f k a0 a1 a2) (impl_operand.f (k + 1) a0 a1 a2) := by
 intro a0 a1 a2 k
 obtain ⟨ih0, ih1⟩ := impl_operand.mono_l k
 unfold impl_operand.f
 repeat' first
   | (with_reducible exact ih0 _ _ _ _ _)
   | (with_reducible exact ih1 _ _ _ _ _)
   | (with_reducible exact impl_HexText.mono _ _ _)
   | (with_reducible exact LeO.refl _)
   | (with_reducible exact LeO.none _)
   | (with_reducible refine LeO.ite ?_ ?_)
   | (with_reducible refine LeO.bind ?_ (fun _ => ?_))
   | exact ih0 _ _ _ _ _
   | exact ih1 _ _ _ _ _
   | exact impl_HexText.mono _ _ _
   | exact LeO.none _
   | refine LeO.ite ?_ ?_
   | refine LeO.bind ?_ (fun _ => ?_)
def impl_operand.T5 : Bool × List (List Nat × List Nat) := (true, [([], []), ([0], [0]), ([1], [1]), ([2], [2]), ([3], [3]), ([4], [4]), ([], []), ([6], [6]), ([7], [7]), ([8], [8]), ([9, 4], [9]), ([5, 10], [5, 10]), ([11, 10, 0, 1, 2, 3, 4, 5, 6, 7, 8, 9, 10, 11], [11])])
def impl_operand.B5 : List Nat := [0, 1, 3, 7, 15, 31, 0, 64, 192, 448, 991, 2047, 4095]
theorem impl_operand.tab5 : rtab .any (opsOf Tryd.f45 5) = impl_operand.T5 := by kernel_rfl
theorem impl_operand.bits5 : waitsOk impl_operand.T5.2 impl_operand.B5 = true := by kernel_rfl
set_option maxHeartbeats 8000000 in
set_option maxRecDepth 100000 in
theorem impl_operand.calls (k : Nat) (a0 : Int) (A1 : Option Addr) (c1 : Nat) (l1 : List Int) (a2 : Int) (r : ByteArray) (w : World) (hr1 : Kd.C (Kd.int .u8) w A1 l1.length l1) (hc1 : l1.length ≤ c1) (h : impl_operand.f k a0 l1 a2 = some r) :
  Calls Tryd.prog 45 #[.int .i64 a0, .slice A1 l1.length c1, .int .u16 a2] w fun e w' => e = .returned (.string r) ∧ Below w.heap.size w w' := by
 have HR1 := Aside0.mk hr1
 have HC1 := Aside0.mk hc1
 clear hr1 hc1
 have HB := Aside0.mk (Below.refl w.heap.size w)
 have H : (if (l1.length : Int) > 1 then (if 1 < (l1.length : Int) then ((impl_HexText.f k (wrap64 (rd l1 1)) 2).bind fun t147 => (if 1 + t147.size ≤ 9223372036854775807 then (impl_operand.j0 k a0 l1 a2 ((⟨#[36]⟩ : ByteArray) ++ t147) (⟨#[]⟩ : ByteArray)) else (none))) else (none)) else (impl_operand.j0 k a0 l1 a2 (⟨#[]⟩ : ByteArray) (⟨#[]⟩ : ByteArray))) = some r := h
 clear h
 have HC4 := Aside0.mk H
 clear H
 go_enter Tryd.func45, Tryd.ntmps45
 go_upto_if 11 with (fail)
 go_cut [7] (fun v7 wc => ∃ (kq : Nat) (x7_3 : ByteArray), v7 = .string x7_3 ∧ Aside0 (impl_operand.j0 kq a0 l1 a2 x7_3 (⟨#[]⟩ : ByteArray) = some r) ∧ Aside0 (kq ≤ k) ∧ Aside0 (Below w.heap.size w wc))
 case first =>
  have H := HC4.out
  clear HC4
  by_cases c5 : (l1.length : Int) > 1
  ·rw [if_pos c5] at H
   have c5b0 : decide (1 < (l1.length : Int)) = true := decide_eq_true c5
   have c5b1 : decide (1 < l1.length) = true := decide_eq_true (by omega)
   clear c5
   (first | rw [c5b0] | (simp only [i64_w, i32_w]; rw [c5b0]) | skip)
   by_cases c6 : 1 < (l1.length : Int)
   ·rw [if_pos c6] at H
    have c6b0 : decide (1 < (l1.length : Int)) = true := decide_eq_true c6
    have c6b1 : decide (1 < l1.length) = true := decide_eq_true (by omega)
    clear c6
    replace H := Option.bind_eq_some_iff.mp H
    obtain ⟨t147, A70, H⟩ := H
    replace H : (if 1 + t147.size ≤ 9223372036854775807 then (impl_operand.j0 k a0 l1 a2 ((⟨#[36]⟩ : ByteArray) ++ t147) (⟨#[]⟩ : ByteArray)) else (none)) = some r := H
    have A7 := Aside0.mk A70
    clear A70
    by_cases c8 : 1 + t147.size ≤ 9223372036854775807
    ·rw [if_pos c8] at H
     have c8b0 := eq_true c8
     have c8b1 : decide (1 + t147.size ≤ 9223372036854775807) = true := decide_eq_true c8
     try have c8b2 : (9223372036854775807 < 1 + t147.size) = False := eq_false (Nat.not_lt.2 c8)
     try (have c8b3 := c8; simp at c8b3; have c8b4 := eq_true c8b3; have c8b5 := decide_eq_true c8b3; have c8b6 := eq_false (Nat.not_lt.2 c8b3))
     have H' := Aside0.mk H
     clear H
     have p146 : 0 ≤ (1 : Int) := (by omega)
     have q146 : 1 < (l1.length : Int) := of_decide_eq_true (by first | (with_reducible assumption) | assumption)
     obtain ⟨ad146, e146, hx146_0⟩ := Kd.at_int HR1.out 1 p146 q146
     cases e146
     (try simp only [show (1 : Int).toNat = 1 from rfl, Nat.reduceMul, Nat.reduceEqDiff, Go.Addr.add, ↓reduceIte] at hx146_0)
     have qi146 : (1 < l1.length) = True := eq_true (by omega)
     (try rw [show ((1 : Int)).toNat = 1 from rfl] at hx146_0)
     replace hx146_0 := (HB.out.cell (World.block_lt_of_cell? w _ hx146_0)).trans hx146_0
     replace p146 := eq_true p146
     replace q146 := eq_true q146
     go_wp2_with (first | ((with_reducible refine gate_callee (f := 52) rfl ?_); refine goesL_ (some 16) rfl rfl Tryd.func52 (by kernel_rfl) rfl #[.int .i64 (wrap64 (rd l1 1)), .int .i64 2] rfl (by (try simp only [List.map_toArray, List.map_cons, List.map_nil]); first | done | rfl | (simp only [List.length_drop, List.length_take]; rfl)) ?_; (with_reducible refine (impl_HexText.calls k (wrap64 (rd l1 1)) 2 t147 _ A7.out).mono ?_); rintro e w9 ⟨rfl, hb⟩; refine ⟨_, rfl, ?_⟩; have n0_ := Aside0.mk (below_step (by repeat (first | (with_reducible first | exact HB.out | apply below_alloc | apply pw_below_drewN | apply below_drew1) | exact HB.out)) hb); clear HB; have HB := n0_; clear n0_; (try clear hb); (try clear hb2); (try clear hk); (try clear hi)))
     go_meet
     case rel => exact ⟨_, ((⟨#[36]⟩ : ByteArray) ++ t147), (by first | rfl | (simp; done) | (simp [*]; done)), H', ⟨by first | omega | exact Nat.le_refl _⟩, ⟨by repeat (first | (with_reducible first | exact HB.out | apply below_alloc | apply pw_below_drewN | apply below_drew1) | exact HB.out)⟩⟩
    ·rw [if_neg c8] at H
     exact absurd H (by simp)
   ·rw [if_neg c6] at H
    exact absurd H (by simp)
  ·rw [if_neg c5] at H
   have c5b0 : decide (1 < (l1.length : Int)) = false := decide_eq_false c5
   have c5b1 : decide (1 < l1.length) = false := decide_eq_false (by omega)
   clear c5
   (first | rw [c5b0] | (simp only [i64_w, i32_w]; rw [c5b0]) | skip)
   have H' := Aside0.mk H
   clear H
   go_wp2
   go_meet
   case rel => exact ⟨_, ((⟨#[]⟩ : ByteArray)), (by first | rfl | (simp; done) | (simp [*]; done)), H', ⟨by first | omega | exact Nat.le_refl _⟩, ⟨by repeat (first | (with_reducible first | exact HB.out | apply below_alloc | apply pw_below_drewN | apply below_drew1) | exact HB.out)⟩⟩
 case rest =>
  clear HC4
  try clear c1
  try clear p1
  try clear q1
  try clear hx1
  try clear qi1
  try clear p2
  try clear c4
  try clear c5
  try clear c5b0
  try clear c5b1
  try clear c6
  try clear c6b0
  try clear c6b1
  try clear p6
  try clear c8
  try clear c8b0
  try clear c8b1
  try clear c8b2
  try clear hx146_0
  try clear p146
  try clear q146
  obtain ⟨kq, x7_3, rfl, HA, HJ3, HB⟩ := hcut
  cases kq with
  | zero => exact absurd HA.out (by simp [impl_operand.j0])
  | succ kj3 =>
   have H := HA.out
   clear HA
   simp only [impl_operand.j0] at H
   have HC10 := Aside0.mk H
   clear H
   go_upto_if 20 with (fail)
   go_cut [8] (fun v8 wc => ∃ (kq : Nat) (x8_9 : ByteArray), v8 = .string x8_9 ∧ Aside0 (impl_operand.j1 kq a0 l1 a2 x7_3 x8_9 = some r) ∧ Aside0 (kq ≤ kj3) ∧ Aside0 (Below w.heap.size w wc))
   case first =>
    have H := HC10.out
    clear HC10
    by_cases c11 : (l1.length : Int) > 2
    ·rw [if_pos c11] at H
     have c11b0 : decide (2 < (l1.length : Int)) = true := decide_eq_true c11
     have c11b1 : decide (2 < l1.length) = true := decide_eq_true (by omega)
     clear c11
     (first | rw [c11b0] | (simp only [i64_w, i32_w]; rw [c11b0]) | skip)
     by_cases c12 : 2 < (l1.length : Int)
     ·rw [if_pos c12] at H
      have c12b0 : decide (2 < (l1.length : Int)) = true := decide_eq_true c12
      have c12b1 : decide (2 < l1.length) = true := decide_eq_true (by omega)
      clear c12
      replace H := Option.bind_eq_some_iff.mp H
      obtain ⟨t149, A130, H⟩ := H
      replace H : (if 1 + t149.size ≤ 9223372036854775807 then (if 1 < (l1.length : Int) then ((impl_HexText.f kj3 (wrap64 (rd l1 1)) 2).bind fun t151 => (if ((⟨#[36]⟩ : ByteArray) ++ t149).size + t151.size ≤ 9223372036854775807 then (impl_operand.j1 kj3 a0 l1 a2 x7_3 (((⟨#[36]⟩ : ByteArray) ++ t149) ++ t151)) else (none))) else (none)) else (none)) = some r := H
      have A13 := Aside0.mk A130
      clear A130
      by_cases c14 : 1 + t149.size ≤ 9223372036854775807
      ·rw [if_pos c14] at H
       have c14b0 := eq_true c14
       have c14b1 : decide (1 + t149.size ≤ 9223372036854775807) = true := decide_eq_true c14
       try have c14b2 : (9223372036854775807 < 1 + t149.size) = False := eq_false (Nat.not_lt.2 c14)
       try (have c14b3 := c14; simp at c14b3; have c14b4 := eq_true c14b3; have c14b5 := decide_eq_true c14b3; have c14b6 := eq_false (Nat.not_lt.2 c14b3))
       by_cases c15 : 1 < (l1.length : Int)
       ·rw [if_pos c15] at H
        have c15b0 : decide (1 < (l1.length : Int)) = true := decide_eq_true c15
        have c15b1 : decide (1 < l1.length) = true := decide_eq_true (by omega)
        clear c15
        replace H := Option.bind_eq_some_iff.mp H
        obtain ⟨t151, A160, H⟩ := H
        replace H : (if ((⟨#[36]⟩ : ByteArray) ++ t149).size + t151.size ≤ 9223372036854775807 then (impl_operand.j1 kj3 a0 l1 a2 x7_3 (((⟨#[36]⟩ : ByteArray) ++ t149) ++ t151)) else (none)) = some r := H
        have A16 := Aside0.mk A160
        clear A160
        by_cases c17 : ((⟨#[36]⟩ : ByteArray) ++ t149).size + t151.size ≤ 9223372036854775807
        ·rw [if_pos c17] at H
         have c17b0 := eq_true c17
         have c17b1 : decide (((⟨#[36]⟩ : ByteArray) ++ t149).size + t151.size ≤ 9223372036854775807) = true := decide_eq_true c17
         try have c17b2 : (9223372036854775807 < ((⟨#[36]⟩ : ByteArray) ++ t149).size + t151.size) = False := eq_false (Nat.not_lt.2 c17)
         try (have c17b3 := c17; simp at c17b3; have c17b4 := eq_true c17b3; have c17b5 := decide_eq_true c17b3; have c17b6 := eq_false (Nat.not_lt.2 c17b3))
         have c17b7 : 1 + t149.size + t151.size ≤ 9223372036854775807 := by have h_ := c17; simp only [ByteArray.size_append] at h_; exact h_
         have c17b8 := eq_false (Nat.not_lt.2 c17b7)
         replace c17b7 := eq_true c17b7
         have H' := Aside0.mk H
         clear H
         try go_wp2
         have n0_ := Aside0.mk (below_drew1 HB.out)
         clear HB
         have HB := n0_
         clear n0_
         have p148 : 0 ≤ (2 : Int) := (by omega)
         have q148 : 2 < (l1.length : Int) := of_decide_eq_true (by first | (with_reducible assumption) | assumption)
         obtain ⟨ad148, e148, hx148_0⟩ := Kd.at_int HR1.out 2 p148 q148
         have hw148_0 := hx148_0
         (try rw [show ((2 : Int)).toNat = 2 from rfl] at hw148_0)
         (try rw [show 2 * 1 = 2 from rfl] at hw148_0)
         (try simp only [Nat.reduceMul, Nat.reduceEqDiff, Go.Addr.add, ↓reduceIte] at hw148_0)
         cases e148
         (try simp only [show (2 : Int).toNat = 2 from rfl, Nat.reduceMul, Nat.reduceEqDiff, Go.Addr.add, ↓reduceIte] at hx148_0)
         have qi148 : (2 < l1.length) = True := eq_true (by omega)
         (try rw [show ((2 : Int)).toNat = 2 from rfl] at hx148_0)
         replace hx148_0 := (HB.out.cell (World.block_lt_of_cell? w _ hx148_0)).trans hx148_0
         replace p148 := eq_true p148
         replace q148 := eq_true q148
         have p150 : 0 ≤ (1 : Int) := (by omega)
         have q150 : 1 < (l1.length : Int) := of_decide_eq_true (by first | (with_reducible assumption) | assumption)
         obtain ⟨ad150, e150, hx150_0⟩ := Kd.at_int HR1.out 1 p150 q150
         have hw150_0 := hx150_0
         (try rw [show ((1 : Int)).toNat = 1 from rfl] at hw150_0)
         (try rw [show 1 * 1 = 1 from rfl] at hw150_0)
         (try simp only [Nat.reduceMul, Nat.reduceEqDiff, Go.Addr.add, ↓reduceIte] at hw150_0)
         obtain rfl : ad148 = ad150 := (by injection e150)
         (try simp only [show (1 : Int).toNat = 1 from rfl, Nat.reduceMul, Nat.reduceEqDiff, Go.Addr.add, ↓reduceIte] at hx150_0)
         have qi150 : (1 < l1.length) = True := eq_true (by omega)
         (try rw [show ((1 : Int)).toNat = 1 from rfl] at hx150_0)
         replace hx150_0 := (HB.out.cell (World.block_lt_of_cell? w _ hx150_0)).trans hx150_0
         replace p150 := eq_true p150
         replace q150 := eq_true q150
         refine start_ (n := 13) (S := fun w' => w'.cell? ⟨ad148.block, ad148.off + 2, none⟩ = some (.int .u8 (rd l1 2)) ∧ w'.cell? ⟨ad148.block, ad148.off + 1, none⟩ = some (.int .u8 (rd l1 1))) (ds := []) #[false, false, false, false, false, false, false, false, false, false, false, false, false] (by kernel_rfl) rfl rfl ⟨((HB.out.cell (World.block_lt_of_cell? w _ hw148_0)).trans hw148_0), ((HB.out.cell (World.block_lt_of_cell? w _ hw150_0)).trans hw150_0)⟩ (fun hHeld => ?_); refine with_tabW impl_operand.tab5 impl_operand.bits5 (fun HT_ HW_ => ?_)
         generalize wc.drew = w18 at HB hx148_0 hx150_0 hHeld ⊢
         refine pure_ (i := 0) (N := some 21) (v := ?_) (a' := ?_) #[true, false, false, false, false, false, false, false, false, false, false, false, false] rfl rfl (any_of HT_.out (by kernel_rfl)) (fun _ _ _ h => h) (Or.inl ⟨by rfl, ?_⟩) ?_ ?_
         rotate_left
         ·intro w'
          go_simp
          with_reducible rfl
         rotate_left
         ·simp only [Act.put, List.setIfInBounds_toArray, List.set_cons_zero, List.set_cons_succ, i64_w, i32_w]
          rfl
         refine pure_ (i := 1) (N := some 22) (v := ?_) (a' := ?_) #[true, true, false, false, false, false, false, false, false, false, false, false, false] rfl rfl (any_of HT_.out (by kernel_rfl)) (fun _ _ _ h => h) (Or.inl ⟨by rfl, ?_⟩) ?_ ?_
         rotate_left
         ·intro w'
          go_simp
          with_reducible rfl
         rotate_left
         ·simp only [Act.put, List.setIfInBounds_toArray, List.set_cons_zero, List.set_cons_succ, i64_w, i32_w]
          rfl
         refine pure_ (i := 6) (N := some 27) (v := ?_) (a' := ?_) #[true, true, false, false, false, false, true, false, false, false, false, false, false] rfl rfl (any_of HT_.out (by kernel_rfl)) (fun _ _ _ h => h) (Or.inl ⟨by rfl, ?_⟩) ?_ ?_
         rotate_left
         ·intro w'
          go_simp
          with_reducible rfl
         rotate_left
         ·simp only [Act.put, List.setIfInBounds_toArray, List.set_cons_zero, List.set_cons_succ, i64_w, i32_w]
          rfl
         refine pure_ (i := 7) (N := some 28) (v := ?_) (a' := ?_) #[true, true, false, false, false, false, true, true, false, false, false, false, false] rfl rfl (any_of HT_.out (by kernel_rfl)) (fun _ _ _ h => h) (Or.inl ⟨by rfl, ?_⟩) ?_ ?_
         rotate_left
         ·intro w'
          go_simp
          with_reducible rfl
         rotate_left
         ·simp only [Act.put, List.setIfInBounds_toArray, List.set_cons_zero, List.set_cons_succ, i64_w, i32_w]
          rfl
         refine take_ (i := 2) (N := some 23) (v := ?_) (a' := ?_) #[true, true, true, false, false, false, true, true, false, false, false, false, false] rfl rfl (take_ofW HT_.out HW_.out (by kernel_rfl)) (fun _ _ _ h => h) (Or.inl ⟨by rfl, ?_⟩) hHeld ?_ ?_
         rotate_left
         ·rintro w' ⟨s0, s1⟩
          go_simp
          with_reducible rfl
         rotate_left
         ·simp only [Act.put, List.setIfInBounds_toArray, List.set_cons_zero, List.set_cons_succ, i64_w, i32_w]
          rfl
         refine pure_ (i := 3) (N := some 24) (v := ?_) (a' := ?_) #[true, true, true, true, false, false, true, true, false, false, false, false, false] rfl rfl (any_of HT_.out (by kernel_rfl)) (fun _ _ _ h => h) (Or.inl ⟨by rfl, ?_⟩) ?_ ?_
         rotate_left
         ·intro w'
          go_simp
          with_reducible rfl
         rotate_left
         ·simp only [Act.put, List.setIfInBounds_toArray, List.set_cons_zero, List.set_cons_succ, i64_w, i32_w]
          rfl
         refine take_ (i := 8) (N := some 29) (v := ?_) (a' := ?_) #[true, true, true, true, false, false, true, true, true, false, false, false, false] rfl rfl (take_ofW HT_.out HW_.out (by kernel_rfl)) (fun _ _ _ h => h) (Or.inl ⟨by rfl, ?_⟩) hHeld ?_ ?_
         rotate_left
         ·rintro w' ⟨s0, s1⟩
          go_simp
          with_reducible rfl
         rotate_left
         ·simp only [Act.put, List.setIfInBounds_toArray, List.set_cons_zero, List.set_cons_succ, i64_w, i32_w]
          rfl
         refine pure_ (i := 9) (N := some 30) (v := ?_) (a' := ?_) #[true, true, true, true, false, false, true, true, true, true, false, false, false] rfl rfl (any_of HT_.out (by kernel_rfl)) (fun _ _ _ h => h) (Or.inl ⟨by rfl, ?_⟩) ?_ ?_
         rotate_left
         ·intro w'
          go_simp
          with_reducible rfl
         rotate_left
         ·simp only [Act.put, List.setIfInBounds_toArray, List.set_cons_zero, List.set_cons_succ, i64_w, i32_w]
          rfl
         refine one_ (i := 4) (N := some 25) #[true, true, true, true, true, false, true, true, true, true, false, false, false] rfl rfl (one_of HT_.out (by kernel_rfl)) (by decide) (fun K hK => ?_)
         refine goes_ Tryd.func52 (by kernel_rfl) rfl #[.int .i64 (wrap64 (rd l1 2)), .int .i64 2] (by rfl) rfl rfl (by (try simp only [List.map_toArray, List.map_cons, List.map_nil]); first | done | rfl | (simp only [List.length_drop, List.length_take]; rfl)) ?_
         with_reducible refine (impl_HexText.calls kj3 (wrap64 (rd l1 2)) 2 t149 _ A13.out).mono ?_
         rintro e w19 ⟨rfl, hb⟩
         refine ⟨_, rfl, ?_⟩
         have n0_ := Aside0.mk (below_step (by repeat (first | (with_reducible first | exact HB.out | apply below_alloc | apply pw_below_drewN | apply below_drew1) | exact HB.out)) hb)
         clear HB
         have HB := n0_
         clear n0_
         (try clear hb)
         (try clear hb2)
         (try clear hk)
         (try clear hi)
         refine hK.out _ _ ⟨((HB.out.cell (World.block_lt_of_cell? w _ hw148_0)).trans hw148_0), ((HB.out.cell (World.block_lt_of_cell? w _ hw150_0)).trans hw150_0)⟩ (fun hHeld => ?_)
         clear hK K
         refine norm_ (a' := ?_) ?_ ?_
         rotate_left
         ·show Act.put _ (some 25) _ = _
          simp only [Act.put, List.setIfInBounds_toArray, List.set_cons_zero, List.set_cons_succ, i64_w, i32_w]
          rfl
         refine pure_ (i := 5) (N := some 26) (v := ?_) (a' := ?_) #[true, true, true, true, true, true, true, true, true, true, false, false, false] rfl rfl (any_of HT_.out (by kernel_rfl)) (fun _ _ _ h => h) (Or.inl ⟨by rfl, ?_⟩) ?_ ?_
         rotate_left
         ·intro w'
          go_simp
          with_reducible rfl
         rotate_left
         ·simp only [Act.put, List.setIfInBounds_toArray, List.set_cons_zero, List.set_cons_succ, i64_w, i32_w]
          rfl
         refine one_ (i := 10) (N := some 31) #[true, true, true, true, true, true, true, true, true, true, true, false, false] rfl rfl (one_of HT_.out (by kernel_rfl)) (by decide) (fun K hK => ?_)
         refine goes_ Tryd.func52 (by kernel_rfl) rfl #[.int .i64 (wrap64 (rd l1 1)), .int .i64 2] (by rfl) rfl rfl (by (try simp only [List.map_toArray, List.map_cons, List.map_nil]); first | done | rfl | (simp only [List.length_drop, List.length_take]; rfl)) ?_
         with_reducible refine (impl_HexText.calls kj3 (wrap64 (rd l1 1)) 2 t151 _ A16.out).mono ?_
         rintro e w20 ⟨rfl, hb⟩
         refine ⟨_, rfl, ?_⟩
         have n0_ := Aside0.mk (below_step (by repeat (first | (with_reducible first | exact HB.out | apply below_alloc | apply pw_below_drewN | apply below_drew1) | exact HB.out)) hb)
         clear HB
         have HB := n0_
         clear n0_
         (try clear hb)
         (try clear hb2)
         (try clear hk)
         (try clear hi)
         refine hK.out _ _ ⟨((HB.out.cell (World.block_lt_of_cell? w _ hw148_0)).trans hw148_0), ((HB.out.cell (World.block_lt_of_cell? w _ hw150_0)).trans hw150_0)⟩ (fun hHeld => ?_)
         clear hK K
         refine norm_ (a' := ?_) ?_ ?_
         rotate_left
         ·show Act.put _ (some 31) _ = _
          simp only [Act.put, List.setIfInBounds_toArray, List.set_cons_zero, List.set_cons_succ, i64_w, i32_w]
          rfl
         refine pure_ (i := 11) (N := some 32) (v := ?_) (a' := ?_) #[true, true, true, true, true, true, true, true, true, true, true, true, false] rfl rfl (any_of HT_.out (by kernel_rfl)) (fun _ _ _ h => h) (Or.inl ⟨by rfl, ?_⟩) ?_ ?_
         rotate_left
         ·intro w'
          go_simp
          with_reducible rfl
         rotate_left
         ·simp only [Act.put, List.setIfInBounds_toArray, List.set_cons_zero, List.set_cons_succ, i64_w, i32_w]
          rfl
         refine pure_ (i := 12) (N := some 8) (v := ?_) (a' := ?_) #[true, true, true, true, true, true, true, true, true, true, true, true, true] rfl rfl (any_of HT_.out (by kernel_rfl)) (fun _ _ _ h => h) (Or.inl ⟨by rfl, ?_⟩) ?_ ?_
         rotate_left
         ·intro w'
          go_simp
          with_reducible rfl
         rotate_left
         ·simp only [Act.put, List.setIfInBounds_toArray, List.set_cons_zero, List.set_cons_succ, i64_w, i32_w]
          rfl
         refine done_ (done_of HT_.out (by kernel_rfl)) ?_
         try go_wp2
         go_meet
         case rel => exact ⟨_, (((⟨#[36]⟩ : ByteArray) ++ t149) ++ t151), (by first | rfl | (simp; done) | (simp [*]; done)), H', ⟨by have := HJ3.out; first | omega | exact Nat.le_refl _⟩, ⟨by repeat (first | (with_reducible first | exact HB.out | apply below_alloc | apply pw_below_drewN | apply below_drew1) | exact HB.out)⟩⟩
        ·rw [if_neg c17] at H
         exact absurd H (by simp)
       ·rw [if_neg c15] at H
        exact absurd H (by simp)
      ·rw [if_neg c14] at H
       exact absurd H (by simp)
     ·rw [if_neg c12] at H
      exact absurd H (by simp)
    ·rw [if_neg c11] at H
     have c11b0 : decide (2 < (l1.length : Int)) = false := decide_eq_false c11
     have c11b1 : decide (2 < l1.length) = false := decide_eq_false (by omega)
     clear c11
     (first | rw [c11b0] | (simp only [i64_w, i32_w]; rw [c11b0]) | skip)
     have H' := Aside0.mk H
     clear H
     go_wp2
     go_meet
     case rel => exact ⟨_, ((⟨#[]⟩ : ByteArray)), (by first | rfl | (simp; done) | (simp [*]; done)), H', ⟨by have := HJ3.out; first | omega | exact Nat.le_refl _⟩, ⟨by repeat (first | (with_reducible first | exact HB.out | apply below_alloc | apply pw_below_drewN | apply below_drew1) | exact HB.out)⟩⟩
   case rest =>
    clear HC10
    try clear c1
    try clear p1
    try clear q1
    try clear hx1
    try clear qi1
    try clear p2
    try clear c4
    try clear c5
    try clear c5b0
    try clear c5b1
    try clear c6
    try clear c6b0
    try clear c6b1
    try clear p6
    try clear c8
    try clear c8b0
    try clear c8b1
    try clear c8b2
    try clear c11
    try clear c11b0
    try clear c11b1
    try clear c12
    try clear c12b0
    try clear c12b1
    try clear c14
    try clear c14b0
    try clear c14b1
    try clear c14b2
    try clear p14
    try clear q14
    try clear hx14
    try clear qi14
    try clear c15
    try clear c15b0
    try clear c15b1
    try clear p15
    try clear q15
    try clear hx15
    try clear qi15
    try clear c17
    try clear c17b0
    try clear c17b1
    try clear c17b2
    try clear hx146_0
    try clear hx148_0
    try clear hx150_0
    try clear p1
    try clear p146
    try clear p148
    try clear p150
    try clear p2
    try clear p6
    try clear q1
    try clear q146
    try clear q148
    try clear q150
    obtain ⟨kq, x8_9, rfl, HA, HJ9, HB⟩ := hcut
    cases kq with
    | zero => exact absurd HA.out (by simp [impl_operand.j1])
    | succ kj9 =>
     have H := HA.out
     clear HA
     simp only [impl_operand.j1] at H
     by_cases c21 : a0 = 1
     ·rw [if_pos c21] at H
      have c21b0 : (a0 == 1) = true := beq_iff_eq.mpr c21
      have c21b1 : (a0 != 1) = false := bne_eq_false_iff_eq.mpr c21
      clear c21
      obtain rfl := Option.some.inj H
      go_wp2
      go_ret
      exact ⟨by first | rfl | (simp [errW_none, errW_some] <;> rfl) | (simp [*, errW_none, errW_some] <;> rfl), by repeat (first | (with_reducible first | exact HB.out | apply below_alloc | apply pw_below_drewN | apply below_drew1) | exact HB.out)⟩
     ·rw [if_neg c21] at H
      have c21b0 : (a0 == 1) = false := beq_eq_false_iff_ne.mpr c21
      have c21b1 : (a0 != 1) = true := bne_iff_ne.mpr c21
      by_cases c22 : a0 = 2
      ·rw [if_pos c22] at H
       have c22b0 : (a0 == 2) = true := beq_iff_eq.mpr c22
       have c22b1 : (a0 != 2) = false := bne_eq_false_iff_eq.mpr c22
       clear c22
       by_cases c23 : 1 + x7_3.size ≤ 9223372036854775807
       ·rw [if_pos c23] at H
        have c23b0 := eq_true c23
        have c23b1 : decide (1 + x7_3.size ≤ 9223372036854775807) = true := decide_eq_true c23
        try have c23b2 : (9223372036854775807 < 1 + x7_3.size) = False := eq_false (Nat.not_lt.2 c23)
        try (have c23b3 := c23; simp at c23b3; have c23b4 := eq_true c23b3; have c23b5 := decide_eq_true c23b3; have c23b6 := eq_false (Nat.not_lt.2 c23b3))
        obtain rfl := Option.some.inj H
        go_wp2
        go_ret
        exact ⟨by first | rfl | (simp [errW_none, errW_some] <;> rfl) | (simp [*, errW_none, errW_some] <;> rfl), by repeat (first | (with_reducible first | exact HB.out | apply below_alloc | apply pw_below_drewN | apply below_drew1) | exact HB.out)⟩
       ·rw [if_neg c23] at H
        exact absurd H (by simp)
      ·rw [if_neg c22] at H
       have c22b0 : (a0 == 2) = false := beq_eq_false_iff_ne.mpr c22
       have c22b1 : (a0 != 2) = true := bne_iff_ne.mpr c22
       by_cases c24 : a0 = 3
       ·rw [if_pos c24] at H
        have c24b0 : (a0 == 3) = true := beq_iff_eq.mpr c24
        have c24b1 : (a0 != 3) = false := bne_eq_false_iff_eq.mpr c24
        clear c24
        obtain rfl := Option.some.inj H
        go_wp2
        go_ret
        exact ⟨by first | rfl | (simp [errW_none, errW_some] <;> rfl) | (simp [*, errW_none, errW_some] <;> rfl), by repeat (first | (with_reducible first | exact HB.out | apply below_alloc | apply pw_below_drewN | apply below_drew1) | exact HB.out)⟩
       ·rw [if_neg c24] at H
        have c24b0 : (a0 == 3) = false := beq_eq_false_iff_ne.mpr c24
        have c24b1 : (a0 != 3) = true := bne_iff_ne.mpr c24
        by_cases c25 : a0 = 4
        ·rw [if_pos c25] at H
         have c25b0 : (a0 == 4) = true := beq_iff_eq.mpr c25
         have c25b1 : (a0 != 4) = false := bne_eq_false_iff_eq.mpr c25
         clear c25
         by_cases c26 : x7_3.size + 2 ≤ 9223372036854775807
         ·rw [if_pos c26] at H
          have c26b0 := eq_true c26
          have c26b1 : decide (x7_3.size + 2 ≤ 9223372036854775807) = true := decide_eq_true c26
          try have c26b2 : (9223372036854775807 < x7_3.size + 2) = False := eq_false (Nat.not_lt.2 c26)
          try (have c26b3 := c26; simp at c26b3; have c26b4 := eq_true c26b3; have c26b5 := decide_eq_true c26b3; have c26b6 := eq_false (Nat.not_lt.2 c26b3))
          obtain rfl := Option.some.inj H
          go_wp2
          go_ret
          exact ⟨by first | rfl | (simp [errW_none, errW_some] <;> rfl) | (simp [*, errW_none, errW_some] <;> rfl), by repeat (first | (with_reducible first | exact HB.out | apply below_alloc | apply pw_below_drewN | apply below_drew1) | exact HB.out)⟩
         ·rw [if_neg c26] at H
          exact absurd H (by simp)
        ·rw [if_neg c25] at H
         have c25b0 : (a0 == 4) = false := beq_eq_false_iff_ne.mpr c25
         have c25b1 : (a0 != 4) = true := bne_iff_ne.mpr c25
         by_cases c27 : a0 = 5
         ·rw [if_pos c27] at H
          have c27b0 : (a0 == 5) = true := beq_iff_eq.mpr c27
          have c27b1 : (a0 != 5) = false := bne_eq_false_iff_eq.mpr c27
          clear c27
          by_cases c28 : x7_3.size + 2 ≤ 9223372036854775807
          ·rw [if_pos c28] at H
           have c28b0 := eq_true c28
           have c28b1 : decide (x7_3.size + 2 ≤ 9223372036854775807) = true := decide_eq_true c28
           try have c28b2 : (9223372036854775807 < x7_3.size + 2) = False := eq_false (Nat.not_lt.2 c28)
           try (have c28b3 := c28; simp at c28b3; have c28b4 := eq_true c28b3; have c28b5 := decide_eq_true c28b3; have c28b6 := eq_false (Nat.not_lt.2 c28b3))
           obtain rfl := Option.some.inj H
           go_wp2
           go_ret
           exact ⟨by first | rfl | (simp [errW_none, errW_some] <;> rfl) | (simp [*, errW_none, errW_some] <;> rfl), by repeat (first | (with_reducible first | exact HB.out | apply below_alloc | apply pw_below_drewN | apply below_drew1) | exact HB.out)⟩
          ·rw [if_neg c28] at H
           exact absurd H (by simp)
         ·rw [if_neg c27] at H
          have c27b0 : (a0 == 5) = false := beq_eq_false_iff_ne.mpr c27
          have c27b1 : (a0 != 5) = true := bne_iff_ne.mpr c27
          by_cases c29 : a0 = 6
          ·rw [if_pos c29] at H
           have c29b0 : (a0 == 6) = true := beq_iff_eq.mpr c29
           have c29b1 : (a0 != 6) = false := bne_eq_false_iff_eq.mpr c29
           clear c29
           obtain rfl := Option.some.inj H
           go_wp2
           go_ret
           exact ⟨by first | rfl | (simp [errW_none, errW_some] <;> rfl) | (simp [*, errW_none, errW_some] <;> rfl), by repeat (first | (with_reducible first | exact HB.out | apply below_alloc | apply pw_below_drewN | apply below_drew1) | exact HB.out)⟩
          ·rw [if_neg c29] at H
           have c29b0 : (a0 == 6) = false := beq_eq_false_iff_ne.mpr c29
           have c29b1 : (a0 != 6) = true := bne_iff_ne.mpr c29
           by_cases c30 : a0 = 7
           ·rw [if_pos c30] at H
            have c30b0 : (a0 == 7) = true := beq_iff_eq.mpr c30
            have c30b1 : (a0 != 7) = false := bne_eq_false_iff_eq.mpr c30
            clear c30
            by_cases c31 : x8_9.size + 2 ≤ 9223372036854775807
            ·rw [if_pos c31] at H
             have c31b0 := eq_true c31
             have c31b1 : decide (x8_9.size + 2 ≤ 9223372036854775807) = true := decide_eq_true c31
             try have c31b2 : (9223372036854775807 < x8_9.size + 2) = False := eq_false (Nat.not_lt.2 c31)
             try (have c31b3 := c31; simp at c31b3; have c31b4 := eq_true c31b3; have c31b5 := decide_eq_true c31b3; have c31b6 := eq_false (Nat.not_lt.2 c31b3))
             obtain rfl := Option.some.inj H
             go_wp2
             go_ret
             exact ⟨by first | rfl | (simp [errW_none, errW_some] <;> rfl) | (simp [*, errW_none, errW_some] <;> rfl), by repeat (first | (with_reducible first | exact HB.out | apply below_alloc | apply pw_below_drewN | apply below_drew1) | exact HB.out)⟩
            ·rw [if_neg c31] at H
             exact absurd H (by simp)
           ·rw [if_neg c30] at H
            have c30b0 : (a0 == 7) = false := beq_eq_false_iff_ne.mpr c30
            have c30b1 : (a0 != 7) = true := bne_iff_ne.mpr c30
            by_cases c32 : a0 = 8
            ·rw [if_pos c32] at H
             have c32b0 : (a0 == 8) = true := beq_iff_eq.mpr c32
             have c32b1 : (a0 != 8) = false := bne_eq_false_iff_eq.mpr c32
             clear c32
             by_cases c33 : x8_9.size + 2 ≤ 9223372036854775807
             ·rw [if_pos c33] at H
              have c33b0 := eq_true c33
              have c33b1 : decide (x8_9.size + 2 ≤ 9223372036854775807) = true := decide_eq_true c33
              try have c33b2 : (9223372036854775807 < x8_9.size + 2) = False := eq_false (Nat.not_lt.2 c33)
              try (have c33b3 := c33; simp at c33b3; have c33b4 := eq_true c33b3; have c33b5 := decide_eq_true c33b3; have c33b6 := eq_false (Nat.not_lt.2 c33b3))
              obtain rfl := Option.some.inj H
              go_wp2
              go_ret
              exact ⟨by first | rfl | (simp [errW_none, errW_some] <;> rfl) | (simp [*, errW_none, errW_some] <;> rfl), by repeat (first | (with_reducible first | exact HB.out | apply below_alloc | apply pw_below_drewN | apply below_drew1) | exact HB.out)⟩
             ·rw [if_neg c33] at H
              exact absurd H (by simp)
            ·rw [if_neg c32] at H
             have c32b0 : (a0 == 8) = false := beq_eq_false_iff_ne.mpr c32
             have c32b1 : (a0 != 8) = true := bne_iff_ne.mpr c32
             by_cases c34 : a0 = 9
             ·rw [if_pos c34] at H
              have c34b0 : (a0 == 9) = true := beq_iff_eq.mpr c34
              have c34b1 : (a0 != 9) = false := bne_eq_false_iff_eq.mpr c34
              clear c34
              by_cases c35 : 1 + x8_9.size ≤ 9223372036854775807
              ·rw [if_pos c35] at H
               have c35b0 := eq_true c35
               have c35b1 : decide (1 + x8_9.size ≤ 9223372036854775807) = true := decide_eq_true c35
               try have c35b2 : (9223372036854775807 < 1 + x8_9.size) = False := eq_false (Nat.not_lt.2 c35)
               try (have c35b3 := c35; simp at c35b3; have c35b4 := eq_true c35b3; have c35b5 := decide_eq_true c35b3; have c35b6 := eq_false (Nat.not_lt.2 c35b3))
               by_cases c36 : ((⟨#[40]⟩ : ByteArray) ++ x8_9).size + 1 ≤ 9223372036854775807
               ·rw [if_pos c36] at H
                have c36b0 := eq_true c36
                have c36b1 : decide (((⟨#[40]⟩ : ByteArray) ++ x8_9).size + 1 ≤ 9223372036854775807) = true := decide_eq_true c36
                try have c36b2 : (9223372036854775807 < ((⟨#[40]⟩ : ByteArray) ++ x8_9).size + 1) = False := eq_false (Nat.not_lt.2 c36)
                try (have c36b3 := c36; simp at c36b3; have c36b4 := eq_true c36b3; have c36b5 := decide_eq_true c36b3; have c36b6 := eq_false (Nat.not_lt.2 c36b3))
                have c36b7 : 1 + x8_9.size + 1 ≤ 9223372036854775807 := by have h_ := c36; simp only [ByteArray.size_append] at h_; exact h_
                have c36b8 := eq_false (Nat.not_lt.2 c36b7)
                replace c36b7 := eq_true c36b7
                obtain rfl := Option.some.inj H
                go_wp2
                go_ret
                exact ⟨by first | rfl | (simp [errW_none, errW_some] <;> rfl) | (simp [*, errW_none, errW_some] <;> rfl), by repeat (first | (with_reducible first | exact HB.out | apply below_alloc | apply pw_below_drewN | apply below_drew1) | exact HB.out)⟩
               ·rw [if_neg c36] at H
                exact absurd H (by simp)
              ·rw [if_neg c35] at H
               exact absurd H (by simp)
             ·rw [if_neg c34] at H
              have c34b0 : (a0 == 9) = false := beq_eq_false_iff_ne.mpr c34
              have c34b1 : (a0 != 9) = true := bne_iff_ne.mpr c34
              by_cases c37 : a0 = 10
              ·rw [if_pos c37] at H
               have c37b0 : (a0 == 10) = true := beq_iff_eq.mpr c37
               have c37b1 : (a0 != 10) = false := bne_eq_false_iff_eq.mpr c37
               clear c37
               by_cases c38 : 1 + x7_3.size ≤ 9223372036854775807
               ·rw [if_pos c38] at H
                have c38b0 := eq_true c38
                have c38b1 : decide (1 + x7_3.size ≤ 9223372036854775807) = true := decide_eq_true c38
                try have c38b2 : (9223372036854775807 < 1 + x7_3.size) = False := eq_false (Nat.not_lt.2 c38)
                try (have c38b3 := c38; simp at c38b3; have c38b4 := eq_true c38b3; have c38b5 := decide_eq_true c38b3; have c38b6 := eq_false (Nat.not_lt.2 c38b3))
                by_cases c39 : ((⟨#[40]⟩ : ByteArray) ++ x7_3).size + 3 ≤ 9223372036854775807
                ·rw [if_pos c39] at H
                 have c39b0 := eq_true c39
                 have c39b1 : decide (((⟨#[40]⟩ : ByteArray) ++ x7_3).size + 3 ≤ 9223372036854775807) = true := decide_eq_true c39
                 try have c39b2 : (9223372036854775807 < ((⟨#[40]⟩ : ByteArray) ++ x7_3).size + 3) = False := eq_false (Nat.not_lt.2 c39)
                 try (have c39b3 := c39; simp at c39b3; have c39b4 := eq_true c39b3; have c39b5 := decide_eq_true c39b3; have c39b6 := eq_false (Nat.not_lt.2 c39b3))
                 have c39b7 : 1 + x7_3.size + 3 ≤ 9223372036854775807 := by have h_ := c39; simp only [ByteArray.size_append] at h_; exact h_
                 have c39b8 := eq_false (Nat.not_lt.2 c39b7)
                 replace c39b7 := eq_true c39b7
                 obtain rfl := Option.some.inj H
                 go_wp2
                 go_ret
                 exact ⟨by first | rfl | (simp [errW_none, errW_some] <;> rfl) | (simp [*, errW_none, errW_some] <;> rfl), by repeat (first | (with_reducible first | exact HB.out | apply below_alloc | apply pw_below_drewN | apply below_drew1) | exact HB.out)⟩
                ·rw [if_neg c39] at H
                 exact absurd H (by simp)
               ·rw [if_neg c38] at H
                exact absurd H (by simp)
              ·rw [if_neg c37] at H
               have c37b0 : (a0 == 10) = false := beq_eq_false_iff_ne.mpr c37
               have c37b1 : (a0 != 10) = true := bne_iff_ne.mpr c37
               by_cases c40 : a0 = 11
               ·rw [if_pos c40] at H
                have c40b0 : (a0 == 11) = true := beq_iff_eq.mpr c40
                have c40b1 : (a0 != 11) = false := bne_eq_false_iff_eq.mpr c40
                clear c40
                by_cases c41 : 1 + x7_3.size ≤ 9223372036854775807
                ·rw [if_pos c41] at H
                 have c41b0 := eq_true c41
                 have c41b1 : decide (1 + x7_3.size ≤ 9223372036854775807) = true := decide_eq_true c41
                 try have c41b2 : (9223372036854775807 < 1 + x7_3.size) = False := eq_false (Nat.not_lt.2 c41)
                 try (have c41b3 := c41; simp at c41b3; have c41b4 := eq_true c41b3; have c41b5 := decide_eq_true c41b3; have c41b6 := eq_false (Nat.not_lt.2 c41b3))
                 by_cases c42 : ((⟨#[40]⟩ : ByteArray) ++ x7_3).size + 3 ≤ 9223372036854775807
                 ·rw [if_pos c42] at H
                  have c42b0 := eq_true c42
                  have c42b1 : decide (((⟨#[40]⟩ : ByteArray) ++ x7_3).size + 3 ≤ 9223372036854775807) = true := decide_eq_true c42
                  try have c42b2 : (9223372036854775807 < ((⟨#[40]⟩ : ByteArray) ++ x7_3).size + 3) = False := eq_false (Nat.not_lt.2 c42)
                  try (have c42b3 := c42; simp at c42b3; have c42b4 := eq_true c42b3; have c42b5 := decide_eq_true c42b3; have c42b6 := eq_false (Nat.not_lt.2 c42b3))
                  have c42b7 : 1 + x7_3.size + 3 ≤ 9223372036854775807 := by have h_ := c42; simp only [ByteArray.size_append] at h_; exact h_
                  have c42b8 := eq_false (Nat.not_lt.2 c42b7)
                  replace c42b7 := eq_true c42b7
                  obtain rfl := Option.some.inj H
                  go_wp2
                  go_ret
                  exact ⟨by first | rfl | (simp [errW_none, errW_some] <;> rfl) | (simp [*, errW_none, errW_some] <;> rfl), by repeat (first | (with_reducible first | exact HB.out | apply below_alloc | apply pw_below_drewN | apply below_drew1) | exact HB.out)⟩
                 ·rw [if_neg c42] at H
                  exact absurd H (by simp)
                ·rw [if_neg c41] at H
                 exact absurd H (by simp)
               ·rw [if_neg c40] at H
                have c40b0 : (a0 == 11) = false := beq_eq_false_iff_ne.mpr c40
                have c40b1 : (a0 != 11) = true := bne_iff_ne.mpr c40
                by_cases c43 : 1 < (l1.length : Int)
                ·rw [if_pos c43] at H
                 have c43b0 : decide (1 < (l1.length : Int)) = true := decide_eq_true c43
                 have c43b1 : decide (1 < l1.length) = true := decide_eq_true (by omega)
                 clear c43
                 replace H := Option.bind_eq_some_iff.mp H
                 obtain ⟨t153, A440, H⟩ := H
                 replace H : ((impl_HexText.f kj9 (wrap64 (t153)) 4).bind fun t154 => (if 1 + t154.size ≤ 9223372036854775807 then (some ((⟨#[36]⟩ : ByteArray) ++ t154)) else (none))) = some r := H
                 have A44 := Aside0.mk A440
                 clear A440
                 replace H := Option.bind_eq_some_iff.mp H
                 obtain ⟨t154, A450, H⟩ := H
                 replace H : (if 1 + t154.size ≤ 9223372036854775807 then (some ((⟨#[36]⟩ : ByteArray) ++ t154)) else (none)) = some r := H
                 have A45 := Aside0.mk A450
                 clear A450
                 by_cases c46 : 1 + t154.size ≤ 9223372036854775807
                 ·rw [if_pos c46] at H
                  have c46b0 := eq_true c46
                  have c46b1 : decide (1 + t154.size ≤ 9223372036854775807) = true := decide_eq_true c46
                  try have c46b2 : (9223372036854775807 < 1 + t154.size) = False := eq_false (Nat.not_lt.2 c46)
                  try (have c46b3 := c46; simp at c46b3; have c46b4 := eq_true c46b3; have c46b5 := decide_eq_true c46b3; have c46b6 := eq_false (Nat.not_lt.2 c46b3))
                  obtain rfl := Option.some.inj H
                  have p152 : 0 ≤ (1 : Int) := (by omega)
                  have q152 : 1 < (l1.length : Int) := of_decide_eq_true (by first | (with_reducible assumption) | assumption)
                  obtain ⟨ad152, e152, hx152_0⟩ := Kd.at_int HR1.out 1 p152 q152
                  cases e152
                  (try simp only [show (1 : Int).toNat = 1 from rfl, Nat.reduceMul, Nat.reduceEqDiff, Go.Addr.add, ↓reduceIte] at hx152_0)
                  have qi152 : (1 < l1.length) = True := eq_true (by omega)
                  (try rw [show ((1 : Int)).toNat = 1 from rfl] at hx152_0)
                  replace hx152_0 := (HB.out.cell (World.block_lt_of_cell? w _ hx152_0)).trans hx152_0
                  replace p152 := eq_true p152
                  replace q152 := eq_true q152
                  go_wp2_with (first | ((with_reducible refine gate_callee (f := 71) rfl ?_); refine goesL_ (some 81) rfl rfl Tryd.func71 (by kernel_rfl) rfl #[.int .u16 a2, .int .u8 (rd l1 1)] rfl (by (try simp only [List.map_toArray, List.map_cons, List.map_nil]); first | done | rfl | (simp only [List.length_drop, List.length_take]; rfl)) ?_; (with_reducible refine (impl_target.calls a2 (rd l1 1) t153 _ A44.out).mono ?_); rintro e w' ⟨rfl, ⟨nd, rfl⟩⟩; refine ⟨_, rfl, ?_⟩) | ((with_reducible refine gate_callee (f := 52) rfl ?_); refine goesL_ (some 83) rfl rfl Tryd.func52 (by kernel_rfl) rfl #[.int .i64 (wrap64 (t153)), .int .i64 4] rfl (by (try simp only [List.map_toArray, List.map_cons, List.map_nil]); first | done | rfl | (simp only [List.length_drop, List.length_take]; rfl)) ?_; (with_reducible refine (impl_HexText.calls kj9 (wrap64 (t153)) 4 t154 _ A45.out).mono ?_); rintro e w47 ⟨rfl, hb⟩; refine ⟨_, rfl, ?_⟩; have n0_ := Aside0.mk (below_step (by repeat (first | (with_reducible first | exact HB.out | apply below_alloc | apply pw_below_drewN | apply below_drew1) | exact HB.out)) hb); clear HB; have HB := n0_; clear n0_; (try clear hb); (try clear hb2); (try clear hk); (try clear hi)))
                  go_ret
                  exact ⟨by first | rfl | (simp [errW_none, errW_some] <;> rfl) | (simp [*, errW_none, errW_some] <;> rfl), by repeat (first | (with_reducible first | exact HB.out | apply below_alloc | apply pw_below_drewN | apply below_drew1) | exact HB.out)⟩
                 ·rw [if_neg c46] at H
                  exact absurd H (by simp)
                ·rw [if_neg c43] at H
                 exact absurd H (by simp)

/-! ### impl_ShowOp: function 17 -/
def impl_ShowOp.f (k : Nat) (l0 : List Int) (a1 : Int) : Option (ByteArray) := (impl_isWhole.f k l0).bind fun t155 => (if t155 = true then (if 0 < (l0.length : Int) then ((impl_operation.f k (rd l0 0)).bind fun bt157 => (if bt157.2 = 0 then (some bt157.1) else (if bt157.1.size + 1 ≤ 9223372036854775807 then ((impl_SizeOf.f k (rd l0 0)).bind fun t160 => (if 0 ≤ t160 then (if t160 ≤ (l0.length : Int) then ((impl_operand.f k bt157.2 (l0.take (t160 : Int).toNat) a1).bind fun t162 => (if (bt157.1 ++ (⟨#[32]⟩ : ByteArray)).size + t162.size ≤ 9223372036854775807 then (some ((bt157.1 ++ (⟨#[32]⟩ : ByteArray)) ++ t162)) else (none))) else (none)) else (none))) else (none)))) else (none)) else (some (⟨#[]⟩ : ByteArray)))
theorem impl_ShowOp.mono : ∀ a0 a1 k, LeO (impl_ShowOp.f k a0 a1) (impl_ShowOp.f (k + 1) a0 a1) := by
 intro a0 a1 k
 unfold impl_ShowOp.f
 repeat' first
   | (with_reducible exact impl_SizeOf.mono _ _)
   | (with_reducible exact impl_isWhole.mono _ _)
   | (with_reducible exact impl_operand.mono _ _ _ _)
   | (with_reducible exact impl_operation.mono _ _)
   | (with_reducible exact LeO.refl _)
   | (with_reducible exact LeO.none _)
   | (with_reducible refine LeO.ite ?_ ?_)
   | (with_reducible refine LeO.bind ?_ (fun _ => ?_))
   | exact impl_SizeOf.mono _ _
   | exact impl_isWhole.mono _ _
   | exact impl_operand.mono _ _ _ _
   | exact impl_operation.mono _ _
   | exact LeO.none _
   | refine LeO.ite ?_ ?_
   | refine LeO.bind ?_ (fun _ => ?_)
set_option maxHeartbeats 8000000 in
set_option maxRecDepth 100000 in
theorem impl_ShowOp.calls (k : Nat) (A0 : Option Addr) (c0 : Nat) (l0 : List Int) (a1 : Int) (r : ByteArray) (w : World) (hr0 : Kd.C (Kd.int .u8) w A0 l0.length l0) (hc0 : l0.length ≤ c0) (h : impl_ShowOp.f k l0 a1 = some r) (HT : Aside0 (Giv.TabW w)) :
  Calls Tryd.prog 17 #[.slice A0 l0.length c0, .int .u16 a1] w fun e w' => e = .returned (.string r) ∧ Below w.heap.size w w' := by
 have HR0 := Aside0.mk hr0
 have HC0 := Aside0.mk hc0
 clear hr0 hc0
 have HB := Aside0.mk (Below.refl w.heap.size w)
 have H : ((impl_isWhole.f k l0).bind fun t155 => (if t155 = true then (if 0 < (l0.length : Int) then ((impl_operation.f k (rd l0 0)).bind fun bt157 => (if bt157.2 = 0 then (some bt157.1) else (if bt157.1.size + 1 ≤ 9223372036854775807 then ((impl_SizeOf.f k (rd l0 0)).bind fun t160 => (if 0 ≤ t160 then (if t160 ≤ (l0.length : Int) then ((impl_operand.f k bt157.2 (l0.take (t160 : Int).toNat) a1).bind fun t162 => (if (bt157.1 ++ (⟨#[32]⟩ : ByteArray)).size + t162.size ≤ 9223372036854775807 then (some ((bt157.1 ++ (⟨#[32]⟩ : ByteArray)) ++ t162)) else (none))) else (none)) else (none))) else (none)))) else (none)) else (some (⟨#[]⟩ : ByteArray)))) = some r := h
 clear h
 replace H := Option.bind_eq_some_iff.mp H
 obtain ⟨t155, A30, H⟩ := H
 replace H : (if t155 = true then (if 0 < (l0.length : Int) then ((impl_operation.f k (rd l0 0)).bind fun bt157 => (if bt157.2 = 0 then (some bt157.1) else (if bt157.1.size + 1 ≤ 9223372036854775807 then ((impl_SizeOf.f k (rd l0 0)).bind fun t160 => (if 0 ≤ t160 then (if t160 ≤ (l0.length : Int) then ((impl_operand.f k bt157.2 (l0.take (t160 : Int).toNat) a1).bind fun t162 => (if (bt157.1 ++ (⟨#[32]⟩ : ByteArray)).size + t162.size ≤ 9223372036854775807 then (some ((bt157.1 ++ (⟨#[32]⟩ : ByteArray)) ++ t162)) else (none))) else (none)) else (none))) else (none)))) else (none)) else (some (⟨#[]⟩ : ByteArray))) = some r := H
 have A3 := Aside0.mk A30
 clear A30
 by_cases c4 : t155 = true
 ·subst c4
  have H1 : (if 0 < (l0.length : Int) then ((impl_operation.f k (rd l0 0)).bind fun bt157 => (if bt157.2 = 0 then (some bt157.1) else (if bt157.1.size + 1 ≤ 9223372036854775807 then ((impl_SizeOf.f k (rd l0 0)).bind fun t160 => (if 0 ≤ t160 then (if t160 ≤ (l0.length : Int) then ((impl_operand.f k bt157.2 (l0.take (t160 : Int).toNat) a1).bind fun t162 => (if (bt157.1 ++ (⟨#[32]⟩ : ByteArray)).size + t162.size ≤ 9223372036854775807 then (some ((bt157.1 ++ (⟨#[32]⟩ : ByteArray)) ++ t162)) else (none))) else (none)) else (none))) else (none)))) else (none)) = some r := by rw [if_pos rfl] at H; exact H
  clear H
  have H := H1
  clear H1
  by_cases c5 : 0 < (l0.length : Int)
  ·rw [if_pos c5] at H
   have c5b0 : decide (0 < (l0.length : Int)) = true := decide_eq_true c5
   have c5b1 : decide (0 < l0.length) = true := decide_eq_true (by omega)
   clear c5
   replace H := Option.bind_eq_some_iff.mp H
   obtain ⟨⟨t157, t158⟩, A60, H⟩ := H
   replace H : (if t158 = 0 then (some t157) else (if t157.size + 1 ≤ 9223372036854775807 then ((impl_SizeOf.f k (rd l0 0)).bind fun t160 => (if 0 ≤ t160 then (if t160 ≤ (l0.length : Int) then ((impl_operand.f k t158 (l0.take (t160 : Int).toNat) a1).bind fun t162 => (if (t157 ++ (⟨#[32]⟩ : ByteArray)).size + t162.size ≤ 9223372036854775807 then (some ((t157 ++ (⟨#[32]⟩ : ByteArray)) ++ t162)) else (none))) else (none)) else (none))) else (none))) = some r := H
   have A6 := Aside0.mk A60
   clear A60
   by_cases c7 : t158 = 0
   ·rw [if_pos c7] at H
    have c7b0 : (t158 == 0) = true := beq_iff_eq.mpr c7
    have c7b1 : (t158 != 0) = false := bne_eq_false_iff_eq.mpr c7
    clear c7
    obtain rfl := Option.some.inj H
    go_enter Tryd.func17, Tryd.ntmps17
    go_wp2_with (first | ((with_reducible refine gate_callee (f := 43) rfl ?_); refine goesL_ (some 8) rfl rfl Tryd.func43 (by kernel_rfl) rfl #[.slice A0 l0.length c0] rfl (by (try simp only [List.map_toArray, List.map_cons, List.map_nil]); first | done | rfl | (simp only [List.length_drop, List.length_take]; rfl)) ?_; (with_reducible refine (impl_isWhole.calls k _ _ l0 true _ ?side1 ?side2 A3.out (Giv.at_ HT (by repeat (first | (with_reducible first | exact HB.out | apply below_alloc | apply pw_below_drewN | apply below_drew1) | exact HB.out)))).mono ?_); (case side1 => repeat (first | exact HR0.out | (with_reducible refine Kd.C_alloc ?_ _) | (with_reducible refine Kd.C_drewN ?_ _) | (with_reducible refine Kd.C_drew ?_))); (case side2 => exact HC0.out); rintro e w8 ⟨rfl, hb⟩; refine ⟨_, rfl, ?_⟩; have n0_ := Aside0.mk (below_step (by repeat (first | (with_reducible first | exact HB.out | apply below_alloc | apply pw_below_drewN | apply below_drew1) | exact HB.out)) hb); clear HB; have HB := n0_; clear n0_; (try clear hb); (try clear hb2); (try clear hk); (try clear hi); have p156 : 0 ≤ (0 : Int) := (by omega); have q156 : 0 < (l0.length : Int) := of_decide_eq_true (by first | (with_reducible assumption) | assumption); obtain ⟨ad156, e156, hx156_0⟩ := Kd.at_int HR0.out 0 p156 q156; cases e156; have qi156 : (0 < l0.length) = True := eq_true (by omega); (try rw [show ((0 : Int)).toNat = 0 from rfl] at hx156_0); (try rw [Addr.add_zero'] at hx156_0); replace hx156_0 := (HB.out.cell (World.block_lt_of_cell? w _ hx156_0)).trans hx156_0; replace p156 := eq_true p156; replace q156 := eq_true q156) | ((with_reducible refine gate_callee (f := 44) rfl ?_); refine goesL_ (some 14) rfl rfl Tryd.func44 (by kernel_rfl) rfl #[.int .u8 (rd l0 0)] rfl (by (try simp only [List.map_toArray, List.map_cons, List.map_nil]); first | done | rfl | (simp only [List.length_drop, List.length_take]; rfl)) ?_; (with_reducible refine (impl_operation.calls k (rd l0 0) t157 t158 _ A6.out (Giv.at_ HT (by repeat (first | (with_reducible first | exact HB.out | apply below_alloc | apply pw_below_drewN | apply below_drew1) | exact HB.out)))).mono ?_); rintro e w9 ⟨rfl, hb⟩; refine ⟨_, rfl, ?_⟩; have n0_ := Aside0.mk (below_step (by repeat (first | (with_reducible first | exact HB.out | apply below_alloc | apply pw_below_drewN | apply below_drew1) | exact HB.out)) hb); clear HB; have HB := n0_; clear n0_; (try clear hb); (try clear hb2); (try clear hk); (try clear hi)))
    go_ret
    exact ⟨by first | rfl | (simp [errW_none, errW_some] <;> rfl) | (simp [*, errW_none, errW_some] <;> rfl), by repeat (first | (with_reducible first | exact HB.out | apply below_alloc | apply pw_below_drewN | apply below_drew1) | exact HB.out)⟩
   ·rw [if_neg c7] at H
    have c7b0 : (t158 == 0) = false := beq_eq_false_iff_ne.mpr c7
    have c7b1 : (t158 != 0) = true := bne_iff_ne.mpr c7
    by_cases c10 : t157.size + 1 ≤ 9223372036854775807
    ·rw [if_pos c10] at H
     have c10b0 := eq_true c10
     have c10b1 : decide (t157.size + 1 ≤ 9223372036854775807) = true := decide_eq_true c10
     try have c10b2 : (9223372036854775807 < t157.size + 1) = False := eq_false (Nat.not_lt.2 c10)
     try (have c10b3 := c10; simp at c10b3; have c10b4 := eq_true c10b3; have c10b5 := decide_eq_true c10b3; have c10b6 := eq_false (Nat.not_lt.2 c10b3))
     replace H := Option.bind_eq_some_iff.mp H
     obtain ⟨t160, A110, H⟩ := H
     replace H : (if 0 ≤ t160 then (if t160 ≤ (l0.length : Int) then ((impl_operand.f k t158 (l0.take (t160 : Int).toNat) a1).bind fun t162 => (if (t157 ++ (⟨#[32]⟩ : ByteArray)).size + t162.size ≤ 9223372036854775807 then (some ((t157 ++ (⟨#[32]⟩ : ByteArray)) ++ t162)) else (none))) else (none)) else (none)) = some r := H
     have A11 := Aside0.mk A110
     clear A110
     by_cases c12 : 0 ≤ t160
     ·rw [if_pos c12] at H
      have c12b0 := eq_true c12
      have c12b1 : decide (0 ≤ t160) = true := decide_eq_true c12
      clear c12
      by_cases c13 : t160 ≤ (l0.length : Int)
      ·rw [if_pos c13] at H
       have c13b0 := eq_true c13
       have c13b1 : decide (t160 ≤ (l0.length : Int)) = true := decide_eq_true c13
       clear c13
       replace H := Option.bind_eq_some_iff.mp H
       obtain ⟨t162, A140, H⟩ := H
       replace H : (if (t157 ++ (⟨#[32]⟩ : ByteArray)).size + t162.size ≤ 9223372036854775807 then (some ((t157 ++ (⟨#[32]⟩ : ByteArray)) ++ t162)) else (none)) = some r := H
       have A14 := Aside0.mk A140
       clear A140
       by_cases c15 : (t157 ++ (⟨#[32]⟩ : ByteArray)).size + t162.size ≤ 9223372036854775807
       ·rw [if_pos c15] at H
        have c15b0 := eq_true c15
        have c15b1 : decide ((t157 ++ (⟨#[32]⟩ : ByteArray)).size + t162.size ≤ 9223372036854775807) = true := decide_eq_true c15
        try have c15b2 : (9223372036854775807 < (t157 ++ (⟨#[32]⟩ : ByteArray)).size + t162.size) = False := eq_false (Nat.not_lt.2 c15)
        try (have c15b3 := c15; simp at c15b3; have c15b4 := eq_true c15b3; have c15b5 := decide_eq_true c15b3; have c15b6 := eq_false (Nat.not_lt.2 c15b3))
        have c15b7 : t157.size + 1 + t162.size ≤ 9223372036854775807 := by have h_ := c15; simp only [ByteArray.size_append] at h_; exact h_
        have c15b8 := eq_false (Nat.not_lt.2 c15b7)
        replace c15b7 := eq_true c15b7
        obtain rfl := Option.some.inj H
        go_enter Tryd.func17, Tryd.ntmps17
        go_wp2_with (first | ((with_reducible refine gate_callee (f := 43) rfl ?_); refine goesL_ (some 8) rfl rfl Tryd.func43 (by kernel_rfl) rfl #[.slice A0 l0.length c0] rfl (by (try simp only [List.map_toArray, List.map_cons, List.map_nil]); first | done | rfl | (simp only [List.length_drop, List.length_take]; rfl)) ?_; (with_reducible refine (impl_isWhole.calls k _ _ l0 true _ ?side1 ?side2 A3.out (Giv.at_ HT (by repeat (first | (with_reducible first | exact HB.out | apply below_alloc | apply pw_below_drewN | apply below_drew1) | exact HB.out)))).mono ?_); (case side1 => repeat (first | exact HR0.out | (with_reducible refine Kd.C_alloc ?_ _) | (with_reducible refine Kd.C_drewN ?_ _) | (with_reducible refine Kd.C_drew ?_))); (case side2 => exact HC0.out); rintro e w16 ⟨rfl, hb⟩; refine ⟨_, rfl, ?_⟩; have n0_ := Aside0.mk (below_step (by repeat (first | (with_reducible first | exact HB.out | apply below_alloc | apply pw_below_drewN | apply below_drew1) | exact HB.out)) hb); clear HB; have HB := n0_; clear n0_; (try clear hb); (try clear hb2); (try clear hk); (try clear hi); have p156 : 0 ≤ (0 : Int) := (by omega); have q156 : 0 < (l0.length : Int) := of_decide_eq_true (by first | (with_reducible assumption) | assumption); obtain ⟨ad156, e156, hx156_0⟩ := Kd.at_int HR0.out 0 p156 q156; cases e156; have qi156 : (0 < l0.length) = True := eq_true (by omega); (try rw [show ((0 : Int)).toNat = 0 from rfl] at hx156_0); (try rw [Addr.add_zero'] at hx156_0); replace hx156_0 := (HB.out.cell (World.block_lt_of_cell? w _ hx156_0)).trans hx156_0; replace p156 := eq_true p156; replace q156 := eq_true q156) | ((with_reducible refine gate_callee (f := 44) rfl ?_); refine goesL_ (some 14) rfl rfl Tryd.func44 (by kernel_rfl) rfl #[.int .u8 (rd l0 0)] rfl (by (try simp only [List.map_toArray, List.map_cons, List.map_nil]); first | done | rfl | (simp only [List.length_drop, List.length_take]; rfl)) ?_; (with_reducible refine (impl_operation.calls k (rd l0 0) t157 t158 _ A6.out (Giv.at_ HT (by repeat (first | (with_reducible first | exact HB.out | apply below_alloc | apply pw_below_drewN | apply below_drew1) | exact HB.out)))).mono ?_); rintro e w17 ⟨rfl, hb⟩; refine ⟨_, rfl, ?_⟩; have n0_ := Aside0.mk (below_step (by repeat (first | (with_reducible first | exact HB.out | apply below_alloc | apply pw_below_drewN | apply below_drew1) | exact HB.out)) hb); clear HB; have HB := n0_; clear n0_; (try clear hb); (try clear hb2); (try clear hk); (try clear hi); have p159 : 0 ≤ (0 : Int) := (by omega); have q159 : 0 < (l0.length : Int) := of_decide_eq_true (by first | (with_reducible assumption) | assumption); obtain ⟨ad159, e159, hx159_0⟩ := Kd.at_int HR0.out 0 p159 q159; obtain rfl : ad156 = ad159 := (by injection e159); have qi159 : (0 < l0.length) = True := eq_true (by omega); (try rw [show ((0 : Int)).toNat = 0 from rfl] at hx159_0); (try rw [Addr.add_zero'] at hx159_0); replace hx159_0 := (HB.out.cell (World.block_lt_of_cell? w _ hx159_0)).trans hx159_0; replace p159 := eq_true p159; replace q159 := eq_true q159) | ((with_reducible refine gate_callee (f := 20) rfl ?_); refine goesL_ (some 27) rfl rfl Tryd.func20 (by kernel_rfl) rfl #[.int .u8 (rd l0 0)] rfl (by (try simp only [List.map_toArray, List.map_cons, List.map_nil]); first | done | rfl | (simp only [List.length_drop, List.length_take]; rfl)) ?_; (with_reducible refine (impl_SizeOf.calls k (rd l0 0) t160 _ A11.out (Giv.at_ HT (by repeat (first | (with_reducible first | exact HB.out | apply below_alloc | apply pw_below_drewN | apply below_drew1) | exact HB.out)))).mono ?_); rintro e w18 ⟨rfl, hb⟩; refine ⟨_, rfl, ?_⟩; have n0_ := Aside0.mk (below_step (by repeat (first | (with_reducible first | exact HB.out | apply below_alloc | apply pw_below_drewN | apply below_drew1) | exact HB.out)) hb); clear HB; have HB := n0_; clear n0_; (try clear hb); (try clear hb2); (try clear hk); (try clear hi); obtain ⟨i019, hi019, _, hsz19, _⟩ := info_parts info5; obtain ⟨hcut19, hA19, hC19⟩ := print_take_of (P := Tryd.prog) (Value.int .u8) 0 23 5 .i64 Tryd.underlying23 hi019 hsz19 (some ad156) c0 l0 t160 (of_decide_eq_true (by first | (with_reducible assumption) | assumption)) (of_decide_eq_true (by first | (with_reducible assumption) | assumption)) HC0.out; have HR161 := Aside0.mk (Kd.C_of_reads (h1 := fun _ => rfl) (hA19 _ (Kd.reads_of_C HR0.out))); have HC161 := Aside0.mk hC19; clear hA19 hC19 hi019 hsz19) | ((with_reducible refine gate_callee (f := 45) rfl ?_); refine goesL_ (some 30) rfl rfl Tryd.func45 (by kernel_rfl) rfl #[.int .i64 t158, .slice (some ad156) (l0.take (t160 : Int).toNat).length c0, .int .u16 a1] rfl (by (try simp only [List.map_toArray, List.map_cons, List.map_nil]); first | done | (rw [show (l0.take (t160 : Int).toNat).length = t160.toNat from (by rw [List.length_take]; have h_ : (t160 : Int) ≤ (l0.length : Int) := of_decide_eq_true (by first | (with_reducible assumption) | assumption); omega)] <;> rfl) | rfl | (simp only [List.length_drop, List.length_take]; rfl)) ?_; (with_reducible refine (impl_operand.calls k t158 _ _ (l0.take (t160 : Int).toNat) a1 t162 _ ?side1 ?side2 A14.out).mono ?_); (case side1 => repeat (first | exact (Kd.C_below HR161.out HB.out) | (with_reducible refine Kd.C_alloc ?_ _) | (with_reducible refine Kd.C_drewN ?_ _) | (with_reducible refine Kd.C_drew ?_))); (case side2 => exact HC161.out); rintro e w20 ⟨rfl, hb⟩; refine ⟨_, rfl, ?_⟩; have n0_ := Aside0.mk (below_step (by repeat (first | (with_reducible first | exact HB.out | apply below_alloc | apply pw_below_drewN | apply below_drew1) | exact HB.out)) hb); clear HB; have HB := n0_; clear n0_; (try clear hb); (try clear hb2); (try clear hk); (try clear hi)))
        go_ret
        exact ⟨by first | rfl | (simp [errW_none, errW_some] <;> rfl) | (simp [*, errW_none, errW_some] <;> rfl), by repeat (first | (with_reducible first | exact HB.out | apply below_alloc | apply pw_below_drewN | apply below_drew1) | exact HB.out)⟩
       ·rw [if_neg c15] at H
        exact absurd H (by simp)
      ·rw [if_neg c13] at H
       exact absurd H (by simp)
     ·rw [if_neg c12] at H
      exact absurd H (by simp)
    ·rw [if_neg c10] at H
     exact absurd H (by simp)
  ·rw [if_neg c5] at H
   exact absurd H (by simp)
 ·replace c4 := Bool.eq_false_iff.mpr c4
  subst c4
  have H1 : (some (⟨#[]⟩ : ByteArray)) = some r := by rw [if_neg (show ¬ (false = true) by decide)] at H; exact H
  clear H
  have H := H1
  clear H1
  obtain rfl := Option.some.inj H
  go_enter Tryd.func17, Tryd.ntmps17
  go_wp2_with (first | ((with_reducible refine gate_callee (f := 43) rfl ?_); refine goesL_ (some 8) rfl rfl Tryd.func43 (by kernel_rfl) rfl #[.slice A0 l0.length c0] rfl (by (try simp only [List.map_toArray, List.map_cons, List.map_nil]); first | done | rfl | (simp only [List.length_drop, List.length_take]; rfl)) ?_; (with_reducible refine (impl_isWhole.calls k _ _ l0 false _ ?side1 ?side2 A3.out (Giv.at_ HT (by repeat (first | (with_reducible first | exact HB.out | apply below_alloc | apply pw_below_drewN | apply below_drew1) | exact HB.out)))).mono ?_); (case side1 => repeat (first | exact HR0.out | (with_reducible refine Kd.C_alloc ?_ _) | (with_reducible refine Kd.C_drewN ?_ _) | (with_reducible refine Kd.C_drew ?_))); (case side2 => exact HC0.out); rintro e w21 ⟨rfl, hb⟩; refine ⟨_, rfl, ?_⟩; have n0_ := Aside0.mk (below_step (by repeat (first | (with_reducible first | exact HB.out | apply below_alloc | apply pw_below_drewN | apply below_drew1) | exact HB.out)) hb); clear HB; have HB := n0_; clear n0_; (try clear hb); (try clear hb2); (try clear hk); (try clear hi)))
  go_ret
  exact ⟨by first | rfl | (simp [errW_none, errW_some] <;> rfl) | (simp [*, errW_none, errW_some] <;> rfl), by repeat (first | (with_reducible first | exact HB.out | apply below_alloc | apply pw_below_drewN | apply below_drew1) | exact HB.out)⟩

/-! ### strings_Cut: function 30 -/
def strings_Cut.f (a0 : ByteArray) (a1 : ByteArray) : Option (ByteArray × ByteArray × Bool) := Giv.cut a0 a1
theorem strings_Cut.calls (a0 : ByteArray) (a1 : ByteArray) (r1 : ByteArray) (r2 : ByteArray) (r3 : Bool) (w : World) (h : strings_Cut.f a0 a1 = some (r1, r2, r3)) (HT : Aside0 (Giv.TabW w)) :
    Calls Tryd.prog 30 #[.string a0, .string a1] w fun e w' => e = .returned (.tuple #[.string r1, .string r2, .bool r3]) ∧ Below w.heap.size w w' :=
  Giv.cut_calls a0 a1 r1 r2 r3 w h HT

/-! ### strings_IndexByte: function 58 -/
def strings_IndexByte.f (a0 : ByteArray) (a1 : Int) : Option (Int) := some (Lib.indexByte a0.data.toList a1.toNat.toUInt8)
theorem strings_IndexByte.calls (a0 : ByteArray) (a1 : Int) (r : Int) (w : World) (h : strings_IndexByte.f a0 a1 = some r) :
    Calls Tryd.prog 58 #[.string a0, .int .u8 a1] w fun e w' => e = .returned (.int .i64 r) ∧ Below w.heap.size w w' := by
  obtain rfl := Option.some.inj h
  exact (Tryd.strings_IndexByte a0 a1 w).mono fun e w' hd => ⟨hd.1, by rw [hd.2]; exact Below.refl _ _⟩

end Go.Proofs.YtlglpolokcnlhaaDoor.MK
