-- Written by this session's own program (wip/myprint.py) over the kit's print of the translation. Lean checks it.
import Derived.Test.YtlglpolokcnlhaaDoorMJx0
import Derived.Test.YtlglpolokcnlhaaDoorMJx5
import Derived.Test.YtlglpolokcnlhaaDoorMJx7
import Derived.Test.YtlglpolokcnlhaaDoorMJx8
import Derived.Test.YtlglpolokcnlhaaDoorMJx10
import Derived.Test.YtlglpolokcnlhaaDoorMJx11
import Derived.Test.YtlglpolokcnlhaaDoorMJx12
namespace Go.Proofs.YtlglpolokcnlhaaDoor.MJ
open Go.RowKit Go.Proofs.YtlglpolokcnlhaaDoorW.PrintWords Go.Proofs.YtlglpolokcnlhaaDoorW.PrintLast Go.Proofs.YtlglpolokcnlhaaDoorW.PrintMore
attribute [local go_sem] max2_int min2_int max_two min_two max_three min_three max_four min_four   -- for this text's walks alone
set_option linter.unusedVariables false
set_option linter.unusedSimpArgs false

/-! ### spec_ReadOp: function 8 -/
mutual
def spec_ReadOp.j0 : Nat → ByteArray → Int → ByteArray → Int → Bool → Option (List Int × Bool)
 | 0, _, _, _, _, _ => none
 | k + 1, x0, x1, x6, x7, x24 => if x24 = true then ((spec_ReadHex.f k x6 (x6.size : Int)).bind fun t388 => (spec_ReadOp.j1 k x0 x1 t388)) else (spec_ReadOp.j1 k x0 x1 x7)
def spec_ReadOp.j1 : Nat → ByteArray → Int → Int → Option (List Int × Bool)
 | 0, _, _, _ => none
 | k + 1, x0, x1, x7 => spec_ReadOp.l0 k x0 x1 x7 0
def spec_ReadOp.l0 : Nat → ByteArray → Int → Int → Int → Option (List Int × Bool)
 | 0, _, _, _, _ => none
 | k + 1, x0, x1, x7, x8 => if x8 < 256 then ((spec_NameOf.f k ((x8) % 256)).bind fun t392 => (if 0 ≤ 3 then (if 3 ≤ (x0.size : Int) then (if t392.toList = (x0.extract 0 3).toList then ((some (([(x8) % 256, (Go.bits .and .i64 x7 255) % 256, (wrap64 (Int.tdiv x7 256)) % 256] : List Int) : List Int)).bind fun y393 => ((spec_SizeOf.f k ((x8) % 256)).bind fun t396 => (if 0 ≤ t396 then (if t396 ≤ (y393.length : Int) then ((some (y393.take (t396 : Int).toNat : List Int)).bind fun y397 => ((spec_ModeOf.f k ((x8) % 256)).bind fun t400 => (if t400 = 12 then (if 1 < (y397.length : Int) then (spec_ReadOp.j3 k x0 x1 x7 x8 (y397.set (1 : Int).toNat ((Go.bits .and .i64 (wrap64 ((wrap64 (x7 - (wrap64 (x1)))) - 2)) 255) % 256))) else (none)) else (spec_ReadOp.j3 k x0 x1 x7 x8 y397)))) else (none)) else (none)))) else (spec_ReadOp.l0 k x0 x1 x7 (wrap64 (x8 + 1)))) else (none)) else (none))) else (some ((([] : List Int)), false))
def spec_ReadOp.j3 : Nat → ByteArray → Int → Int → Int → List Int → Option (List Int × Bool)
 | 0, _, _, _, _, _ => none
 | k + 1, x0, x1, x7, x8, x9 => (spec_ShowOp.f k x9 x1).bind fun t402 => (if t402.toList = x0.toList then (some (x9, true)) else (spec_ReadOp.l0 k x0 x1 x7 (wrap64 (x8 + 1))))
end
def spec_ReadOp.f (k : Nat) (a0 : ByteArray) (a1 : Int) : Option (List Int × Bool) := (spec_l01In.f (a0.size : Int) 3 12).bind fun t383 => (if t383 = true then ((spec_l04Digits.f k a0).bind fun t387 => (if (t387.size : Int) = 2 then (spec_ReadOp.j0 k a0 a1 t387 0 true) else (spec_ReadOp.j0 k a0 a1 t387 0 ((t387.size : Int) == 4)))) else (some ((([] : List Int)), false)))
theorem spec_ReadOp.mono_l : ∀ k, (∀ y0 y1 y2 y3 y4, LeO (spec_ReadOp.j0 k y0 y1 y2 y3 y4) (spec_ReadOp.j0 (k + 1) y0 y1 y2 y3 y4)) ∧ (∀ y0 y1 y2, LeO (spec_ReadOp.j1 k y0 y1 y2) (spec_ReadOp.j1 (k + 1) y0 y1 y2)) ∧ (∀ y0 y1 y2 y3, LeO (spec_ReadOp.l0 k y0 y1 y2 y3) (spec_ReadOp.l0 (k + 1) y0 y1 y2 y3)) ∧ (∀ y0 y1 y2 y3 y4, LeO (spec_ReadOp.j3 k y0 y1 y2 y3 y4) (spec_ReadOp.j3 (k + 1) y0 y1 y2 y3 y4))
 | 0 => ⟨fun _ _ _ _ _ r h => by simp [spec_ReadOp.j0] at h, fun _ _ _ r h => by simp [spec_ReadOp.j1] at h, fun _ _ _ _ r h => by simp [spec_ReadOp.l0] at h, fun _ _ _ _ _ r h => by simp [spec_ReadOp.j3] at h⟩
 | k + 1 => by
  obtain ⟨ih0, ih1, ih2, ih3⟩ := spec_ReadOp.mono_l k
  refine ⟨?_, ?_, ?_, ?_⟩
  ·intro y0 y1 y2 y3 y4
   unfold spec_ReadOp.j0
   repeat' first
   | (with_reducible exact ih0 _ _ _ _ _)
   | (with_reducible exact ih1 _ _ _)
   | (with_reducible exact ih2 _ _ _ _)
   | (with_reducible exact ih3 _ _ _ _ _)
   | (with_reducible exact spec_ModeOf.mono _ _)
   | (with_reducible exact spec_NameOf.mono _ _)
   | (with_reducible exact spec_ReadHex.mono _ _ _)
   | (with_reducible exact spec_ShowOp.mono _ _ _)
   | (with_reducible exact spec_SizeOf.mono _ _)
   | (with_reducible exact spec_l04Digits.mono _ _)
   | (with_reducible exact LeO.refl _)
   | (with_reducible exact LeO.none _)
   | (with_reducible refine LeO.ite ?_ ?_)
   | (with_reducible refine LeO.bind ?_ (fun _ => ?_))
   | exact ih0 _ _ _ _ _
   | exact ih1 _ _ _
   | exact ih2 _ _ _ _
   | exact ih3 _ _ _ _ _
   | exact spec_ModeOf.mono _ _
   | exact spec_NameOf.mono _ _
   | exact spec_ReadHex.mono _ _ _
   | exact spec_ShowOp.mono _ _ _
   | exact spec_SizeOf.mono _ _
   | exact spec_l04Digits.mono _ _
   | exact LeO.none _
   | refine LeO.ite ?_ ?_
   | refine LeO.bind ?_ (fun _ => ?_)
  ·intro y0 y1 y2
   unfold spec_ReadOp.j1
   repeat' first
   | (with_reducible exact ih0 _ _ _ _ _)
   | (with_reducible exact ih1 _ _ _)
   | (with_reducible exact ih2 _ _ _ _)
   | (with_reducible exact ih3 _ _ _ _ _)
   | (with_reducible exact spec_ModeOf.mono _ _)
   | (with_reducible exact spec_NameOf.mono _ _)
   | (with_reducible exact spec_ReadHex.mono _ _ _)
   | (with_reducible exact spec_ShowOp.mono _ _ _)
   | (with_reducible exact spec_SizeOf.mono _ _)
   | (with_reducible exact spec_l04Digits.mono _ _)
   | (with_reducible exact LeO.refl _)
   | (with_reducible exact LeO.none _)
   | (with_reducible refine LeO.ite ?_ ?_)
   | (with_reducible refine LeO.bind ?_ (fun _ => ?_))
   | exact ih0 _ _ _ _ _
   | exact ih1 _ _ _
   | exact ih2 _ _ _ _
   | exact ih3 _ _ _ _ _
   | exact spec_ModeOf.mono _ _
   | exact spec_NameOf.mono _ _
   | exact spec_ReadHex.mono _ _ _
   | exact spec_ShowOp.mono _ _ _
   | exact spec_SizeOf.mono _ _
   | exact spec_l04Digits.mono _ _
   | exact LeO.none _
   | refine LeO.ite ?_ ?_
   | refine LeO.bind ?_ (fun _ => ?_)
  ·intro y0 y1 y2 y3
   unfold spec_ReadOp.l0
   repeat' first
   | (with_reducible exact ih0 _ _ _ _ _)
   | (with_reducible exact ih1 _ _ _)
   | (with_reducible exact ih2 _ _ _ _)
   | (with_reducible exact ih3 _ _ _ _ _)
   | (with_reducible exact spec_ModeOf.mono _ _)
   | (with_reducible exact spec_NameOf.mono _ _)
   | (with_reducible exact spec_ReadHex.mono _ _ _)
   | (with_reducible exact spec_ShowOp.mono _ _ _)
   | (with_reducible exact spec_SizeOf.mono _ _)
   | (with_reducible exact spec_l04Digits.mono _ _)
   | (with_reducible exact LeO.refl _)
   | (with_reducible exact LeO.none _)
   | (with_reducible refine LeO.ite ?_ ?_)
   | (with_reducible refine LeO.bind ?_ (fun _ => ?_))
   | exact ih0 _ _ _ _ _
   | exact ih1 _ _ _
   | exact ih2 _ _ _ _
   | exact ih3 _ _ _ _ _
   | exact spec_ModeOf.mono _ _
   | exact spec_NameOf.mono _ _
   | exact spec_ReadHex.mono _ _ _
   | exact spec_ShowOp.mono _ _ _
   | exact spec_SizeOf.mono _ _
   | exact spec_l04Digits.mono _ _
   | exact LeO.none _
   | refine LeO.ite ?_ ?_
   | refine LeO.bind ?_ (fun _ => ?_)
  ·intro y0 y1 y2 y3 y4
   unfold spec_ReadOp.j3
   repeat' first
   | (with_reducible exact ih0 _ _ _ _ _)
   | (with_reducible exact ih1 _ _ _)
   | (with_reducible exact ih2 _ _ _ _)
   | (with_reducible exact ih3 _ _ _ _ _)
   | (with_reducible exact spec_ModeOf.mono _ _)
   | (with_reducible exact spec_NameOf.mono _ _)
   | (with_reducible exact spec_ReadHex.mono _ _ _)
   | (with_reducible exact spec_ShowOp.mono _ _ _)
   | (with_reducible exact spec_SizeOf.mono _ _)
   | (with_reducible exact spec_l04Digits.mono _ _)
   | (with_reducible exact LeO.refl _)
   | (with_reducible exact LeO.none _)
   | (with_reducible refine LeO.ite ?_ ?_)
   | (with_reducible refine LeO.bind ?_ (fun _ => ?_))
   | exact ih0 _ _ _ _ _
   | exact ih1 _ _ _
   | exact ih2 _ _ _ _
   | exact ih3 _ _ _ _ _
   | exact spec_ModeOf.mono _ _
   | exact spec_NameOf.mono _ _
   | exact spec_ReadHex.mono _ _ _
   | exact spec_ShowOp.mono _ _ _
   | exact spec_SizeOf.mono _ _
   | exact spec_l04Digits.mono _ _
   | exact LeO.none _
   | refine LeO.ite ?_ ?_
   | refine LeO.bind ?_ (fun _ => ?_)
theorem spec_ReadOp.mono : ∀ a0 a1 k, LeO (spec_ReadOp.f k a0 a1) (spec_ReadOp.f (k + 1) a0 a1) := by
 intro a0 a1 k
 obtain ⟨ih0, ih1, ih2, ih3⟩ := spec_ReadOp.mono_l k
 unfold spec_ReadOp.f
 repeat' first
   | (with_reducible exact ih0 _ _ _ _ _)
   | (with_reducible exact ih1 _ _ _)
   | (with_reducible exact ih2 _ _ _ _)
   | (with_reducible exact ih3 _ _ _ _ _)
   | (with_reducible exact spec_ModeOf.mono _ _)
   | (with_reducible exact spec_NameOf.mono _ _)
   | (with_reducible exact spec_ReadHex.mono _ _ _)
   | (with_reducible exact spec_ShowOp.mono _ _ _)
   | (with_reducible exact spec_SizeOf.mono _ _)
   | (with_reducible exact spec_l04Digits.mono _ _)
   | (with_reducible exact LeO.refl _)
   | (with_reducible exact LeO.none _)
   | (with_reducible refine LeO.ite ?_ ?_)
   | (with_reducible refine LeO.bind ?_ (fun _ => ?_))
   | exact ih0 _ _ _ _ _
   | exact ih1 _ _ _
   | exact ih2 _ _ _ _
   | exact ih3 _ _ _ _ _
   | exact spec_ModeOf.mono _ _
   | exact spec_NameOf.mono _ _
   | exact spec_ReadHex.mono _ _ _
   | exact spec_ShowOp.mono _ _ _
   | exact spec_SizeOf.mono _ _
   | exact spec_l04Digits.mono _ _
   | exact LeO.none _
   | refine LeO.ite ?_ ?_
   | refine LeO.bind ?_ (fun _ => ?_)
set_option maxHeartbeats 8000000 in
set_option maxRecDepth 100000 in
theorem spec_ReadOp.calls (k : Nat) (a0 : ByteArray) (a1 : Int) (r1 : List Int) (r2 : Bool) (w : World) (h : spec_ReadOp.f k a0 a1 = some (r1, r2)) :
  Calls Tryd.prog 8 #[.string a0, .int .u16 a1] w fun e w' => ∃ v0_ : Value, e = .returned (.tuple #[v0_, .bool r2]) ∧ Kd.R (Kd.int .u8) 5 w' w.heap.size (fun _ => True) v0_ r1 ∧ Below w.heap.size w w' := by
 have HB := Aside0.mk (Below.refl w.heap.size w)
 have H : ((spec_l01In.f (a0.size : Int) 3 12).bind fun t383 => (if t383 = true then ((spec_l04Digits.f k a0).bind fun t387 => (if (t387.size : Int) = 2 then (spec_ReadOp.j0 k a0 a1 t387 0 true) else (spec_ReadOp.j0 k a0 a1 t387 0 ((t387.size : Int) == 4)))) else (some ((([] : List Int)), false)))) = some (r1, r2) := h
 clear h
 replace H := Option.bind_eq_some_iff.mp H
 obtain ⟨t383, A30, H⟩ := H
 replace H : (if t383 = true then ((spec_l04Digits.f k a0).bind fun t387 => (if (t387.size : Int) = 2 then (spec_ReadOp.j0 k a0 a1 t387 0 true) else (spec_ReadOp.j0 k a0 a1 t387 0 ((t387.size : Int) == 4)))) else (some ((([] : List Int)), false))) = some (r1, r2) := H
 have A3 := Aside0.mk A30
 clear A30
 by_cases c4 : t383 = true
 ·subst c4
  have H1 : ((spec_l04Digits.f k a0).bind fun t387 => (if (t387.size : Int) = 2 then (spec_ReadOp.j0 k a0 a1 t387 0 true) else (spec_ReadOp.j0 k a0 a1 t387 0 ((t387.size : Int) == 4)))) = some (r1, r2) := by rw [if_pos rfl] at H; exact H
  clear H
  have H := H1
  clear H1
  replace H := Option.bind_eq_some_iff.mp H
  obtain ⟨t387, A50, H⟩ := H
  replace H : (if (t387.size : Int) = 2 then (spec_ReadOp.j0 k a0 a1 t387 0 true) else (spec_ReadOp.j0 k a0 a1 t387 0 ((t387.size : Int) == 4))) = some (r1, r2) := H
  have A5 := Aside0.mk A50
  clear A50
  have HC6 := Aside0.mk H
  clear H
  go_enter Tryd.func8, Tryd.ntmps8
  go_upto_region 5 with (first | ((with_reducible refine gate_callee (f := 24) rfl ?_); refine goesL_ (some 12) rfl rfl Tryd.func24 (by kernel_rfl) rfl #[.int .i64 (a0.size : Int), .int .i64 3, .int .i64 12] rfl (by (try simp only [List.map_toArray, List.map_cons, List.map_nil]); first | done | rfl | (simp only [List.length_drop, List.length_take]; rfl)) ?_; (with_reducible refine (spec_l01In.calls (a0.size : Int) 3 12 true _ A3.out).mono ?_); rintro e w' ⟨rfl, ⟨nd, rfl⟩⟩; refine ⟨_, rfl, ?_⟩) | ((with_reducible refine gate_callee (f := 25) rfl ?_); refine goesL_ (some 16) rfl rfl Tryd.func25 (by kernel_rfl) rfl #[.string a0] rfl (by (try simp only [List.map_toArray, List.map_cons, List.map_nil]); first | done | rfl | (simp only [List.length_drop, List.length_take]; rfl)) ?_; (with_reducible refine (spec_l04Digits.calls k a0 t387 _ A5.out).mono ?_); rintro e w' ⟨rfl, ⟨nd, rfl⟩⟩; refine ⟨_, rfl, ?_⟩))
  (try simp only [Act.put, List.setIfInBounds_toArray, List.set_cons_zero, List.set_cons_succ])
  go_cut [24] (fun v24 wc => ∃ (kq : Nat) (x24_5 : Bool), v24 = .bool x24_5 ∧ Aside0 (spec_ReadOp.j0 kq a0 a1 t387 0 x24_5 = some (r1, r2)) ∧ Aside0 (kq ≤ k) ∧ Aside0 (Below w.heap.size w wc))
  case first =>
   have H := HC6.out
   clear HC6
   by_cases c7 : (t387.size : Int) = 2
   ·rw [if_pos c7] at H
    have c7b0 : ((t387.size : Int) == 2) = true := beq_iff_eq.mpr c7
    have c7b1 : ((t387.size : Int) != 2) = false := bne_eq_false_iff_eq.mpr c7
    clear c7
    (first | rw [c7b0] | (simp only [i64_w, i32_w]; rw [c7b0]) | skip)
    have H' := Aside0.mk H
    clear H
    go_wp2
    go_meet
    case rel => exact ⟨_, (true), (by first | rfl | (simp; done) | (simp [*]; done)), H', ⟨by first | omega | exact Nat.le_refl _⟩, ⟨by repeat (first | (with_reducible first | exact HB.out | apply below_alloc | apply pw_below_drewN | apply below_drew1) | exact HB.out)⟩⟩
   ·rw [if_neg c7] at H
    have c7b0 : ((t387.size : Int) == 2) = false := beq_eq_false_iff_ne.mpr c7
    have c7b1 : ((t387.size : Int) != 2) = true := bne_iff_ne.mpr c7
    (first | rw [c7b0] | (simp only [i64_w, i32_w]; rw [c7b0]) | skip)
    have H' := Aside0.mk H
    clear H
    go_wp2
    go_meet
    case rel => exact ⟨_, (((t387.size : Int) == 4)), (by first | rfl | (simp; done) | (simp [*]; done)), H', ⟨by first | omega | exact Nat.le_refl _⟩, ⟨by repeat (first | (with_reducible first | exact HB.out | apply below_alloc | apply pw_below_drewN | apply below_drew1) | exact HB.out)⟩⟩
  case rest =>
   clear HC6
   try clear c2
   try clear p2
   try clear c4
   try clear c7
   try clear c7b0
   try clear c7b1
   obtain ⟨kq, x24_5, rfl, HA, HJ5, HB⟩ := hcut
   cases kq with
   | zero => exact absurd HA.out (by simp [spec_ReadOp.j0])
   | succ kj5 =>
    have H := HA.out
    clear HA
    simp only [spec_ReadOp.j0] at H
    have HC8 := Aside0.mk H
    clear H
    go_upto_if 24 with (fail)
    go_cut [7] (fun v7 wc => ∃ (kq : Nat) (x7_7 : Int), v7 = .int .i64 x7_7 ∧ Aside0 (spec_ReadOp.j1 kq a0 a1 x7_7 = some (r1, r2)) ∧ Aside0 (kq ≤ kj5) ∧ Aside0 (Below w.heap.size w wc))
    case first =>
     have H := HC8.out
     clear HC8
     by_cases c9 : x24_5 = true
     ·subst c9
      have H1 : ((spec_ReadHex.f kj5 t387 (t387.size : Int)).bind fun t388 => (spec_ReadOp.j1 kj5 a0 a1 t388)) = some (r1, r2) := by rw [if_pos rfl] at H; exact H
      clear H
      have H := H1
      clear H1
      replace H := Option.bind_eq_some_iff.mp H
      obtain ⟨t388, A100, H⟩ := H
      replace H : (spec_ReadOp.j1 kj5 a0 a1 t388) = some (r1, r2) := H
      have A10 := Aside0.mk A100
      clear A100
      have H' := Aside0.mk H
      clear H
      go_wp2_with (first | ((with_reducible refine gate_callee (f := 26) rfl ?_); refine goesL_ (some 28) rfl rfl Tryd.func26 (by kernel_rfl) rfl #[.string t387, .int .i64 (t387.size : Int)] rfl (by (try simp only [List.map_toArray, List.map_cons, List.map_nil]); first | done | rfl | (simp only [List.length_drop, List.length_take]; rfl)) ?_; (with_reducible refine (spec_ReadHex.calls kj5 t387 (t387.size : Int) t388 _ A10.out).mono ?_); rintro e w' ⟨rfl, ⟨nd, rfl⟩⟩; refine ⟨_, rfl, ?_⟩))
      go_meet
      case rel => exact ⟨_, (t388), (by first | rfl | (simp; done) | (simp [*]; done)), H', ⟨by have := HJ5.out; first | omega | exact Nat.le_refl _⟩, ⟨by repeat (first | (with_reducible first | exact HB.out | apply below_alloc | apply pw_below_drewN | apply below_drew1) | exact HB.out)⟩⟩
     ·replace c9 := Bool.eq_false_iff.mpr c9
      subst c9
      have H1 : (spec_ReadOp.j1 kj5 a0 a1 0) = some (r1, r2) := by rw [if_neg (show ¬ (false = true) by decide)] at H; exact H
      clear H
      have H := H1
      clear H1
      have H' := Aside0.mk H
      clear H
      go_wp2
      go_meet
      case rel => exact ⟨_, (0), (by first | rfl | (simp; done) | (simp [*]; done)), H', ⟨by have := HJ5.out; first | omega | exact Nat.le_refl _⟩, ⟨by repeat (first | (with_reducible first | exact HB.out | apply below_alloc | apply pw_below_drewN | apply below_drew1) | exact HB.out)⟩⟩
    case rest =>
     clear HC8
     try clear c2
     try clear p2
     try clear c4
     try clear c7
     try clear c7b0
     try clear c7b1
     try clear c8
     try clear c9
     try clear p2
     obtain ⟨kq, x7_7, rfl, HA, HJ7, HB⟩ := hcut
     cases kq with
     | zero => exact absurd HA.out (by simp [spec_ReadOp.j1])
     | succ kj7 =>
      have H := HA.out
      clear HA
      simp only [spec_ReadOp.j1] at H
      have H' := Aside0.mk H
      clear H
      go_wp2
      go_loopg [8] kj7 (fun kq v8 w' => ∃ (x8_3 : Int), v8 = .int .i64 x8_3 ∧ Aside0 (spec_ReadOp.l0 kq a0 a1 x7_7 x8_3 = some (r1, r2)) ∧ Aside0 (kq ≤ kj7) ∧ Aside0 (Below w.heap.size w w'))
      case atStart => exact ⟨(0), (by first | rfl | (simp; done) | (simp [*]; done)), H', ⟨Nat.le_refl _⟩, ⟨by repeat (first | (with_reducible first | exact HB.out | apply below_alloc | apply pw_below_drewN | apply below_drew1) | exact HB.out)⟩⟩
      case round =>
       clear H'
       try clear c2
       try clear p2
       try clear c4
       try clear c7
       try clear c7b0
       try clear c7b1
       try clear c8
       try clear c9
       try clear p2
       obtain ⟨x8_3, rfl, HA, HK3, HB⟩ := hrel
       cases gk with
       | zero => exact absurd HA.out (by simp [spec_ReadOp.l0])
       | succ k3 =>
        have H := HA.out
        clear HA
        simp only [spec_ReadOp.l0] at H
        by_cases c11 : x8_3 < 256
        ·rw [if_pos c11] at H
         have c11b0 : decide (x8_3 < 256) = true := decide_eq_true c11
         clear c11
         replace H := Option.bind_eq_some_iff.mp H
         obtain ⟨t392, A120, H⟩ := H
         replace H : (if 0 ≤ 3 then (if 3 ≤ (a0.size : Int) then (if t392.toList = (a0.extract 0 3).toList then ((some (([(x8_3) % 256, (Go.bits .and .i64 x7_7 255) % 256, (wrap64 (Int.tdiv x7_7 256)) % 256] : List Int) : List Int)).bind fun y393 => ((spec_SizeOf.f k3 ((x8_3) % 256)).bind fun t396 => (if 0 ≤ t396 then (if t396 ≤ (y393.length : Int) then ((some (y393.take (t396 : Int).toNat : List Int)).bind fun y397 => ((spec_ModeOf.f k3 ((x8_3) % 256)).bind fun t400 => (if t400 = 12 then (if 1 < (y397.length : Int) then (spec_ReadOp.j3 k3 a0 a1 x7_7 x8_3 (y397.set (1 : Int).toNat ((Go.bits .and .i64 (wrap64 ((wrap64 (x7_7 - (wrap64 (a1)))) - 2)) 255) % 256))) else (none)) else (spec_ReadOp.j3 k3 a0 a1 x7_7 x8_3 y397)))) else (none)) else (none)))) else (spec_ReadOp.l0 k3 a0 a1 x7_7 (wrap64 (x8_3 + 1)))) else (none)) else (none)) = some (r1, r2) := H
         have A12 := Aside0.mk A120
         clear A120
         by_cases c13 : 0 ≤ 3
         ·rw [if_pos c13] at H
          have c13b0 := eq_true c13
          have c13b1 : decide (0 ≤ 3) = true := decide_eq_true c13
          clear c13
          by_cases c14 : 3 ≤ (a0.size : Int)
          ·rw [if_pos c14] at H
           have c14b0 := eq_true c14
           have c14b1 : decide (3 ≤ (a0.size : Int)) = true := decide_eq_true c14
           clear c14
           by_cases c15 : t392.toList = (a0.extract 0 3).toList
           ·rw [if_pos c15] at H
            have c15b0 : (t392.toList == (a0.extract 0 3).toList) = true := beq_iff_eq.mpr c15
            have c15b1 : (t392.toList != (a0.extract 0 3).toList) = false := bne_eq_false_iff_eq.mpr c15
            clear c15
            obtain ⟨y393, hy393⟩ : ∃ y_ : List Int, y_ = (([(x8_3) % 256, (Go.bits .and .i64 x7_7 255) % 256, (wrap64 (Int.tdiv x7_7 256)) % 256] : List Int)) := ⟨_, rfl⟩
            replace H : ((spec_SizeOf.f k3 ((x8_3) % 256)).bind fun t396 => (if 0 ≤ t396 then (if t396 ≤ (y393.length : Int) then ((some (y393.take (t396 : Int).toNat : List Int)).bind fun y397 => ((spec_ModeOf.f k3 ((x8_3) % 256)).bind fun t400 => (if t400 = 12 then (if 1 < (y397.length : Int) then (spec_ReadOp.j3 k3 a0 a1 x7_7 x8_3 (y397.set (1 : Int).toNat ((Go.bits .and .i64 (wrap64 ((wrap64 (x7_7 - (wrap64 (a1)))) - 2)) 255) % 256))) else (none)) else (spec_ReadOp.j3 k3 a0 a1 x7_7 x8_3 y397)))) else (none)) else (none))) = some (r1, r2) := by first | (rw [hy393]; with_reducible exact H) | (have H2_ := (Option.bind_some _ _).symm.trans H; rw [hy393]; with_reducible exact H2_) | (have H2_ := (Option.bind_some _ _).symm.trans H; with_reducible exact H2_) | with_reducible exact H | (rw [hy393]; exact H) | exact H
            have Ny393 := Aside0.mk hy393
            clear hy393
            replace H := Option.bind_eq_some_iff.mp H
            obtain ⟨t396, A160, H⟩ := H
            replace H : (if 0 ≤ t396 then (if t396 ≤ (y393.length : Int) then ((some (y393.take (t396 : Int).toNat : List Int)).bind fun y397 => ((spec_ModeOf.f k3 ((x8_3) % 256)).bind fun t400 => (if t400 = 12 then (if 1 < (y397.length : Int) then (spec_ReadOp.j3 k3 a0 a1 x7_7 x8_3 (y397.set (1 : Int).toNat ((Go.bits .and .i64 (wrap64 ((wrap64 (x7_7 - (wrap64 (a1)))) - 2)) 255) % 256))) else (none)) else (spec_ReadOp.j3 k3 a0 a1 x7_7 x8_3 y397)))) else (none)) else (none)) = some (r1, r2) := H
            have A16 := Aside0.mk A160
            clear A160
            by_cases c17 : 0 ≤ t396
            ·rw [if_pos c17] at H
             have c17b0 := eq_true c17
             have c17b1 : decide (0 ≤ t396) = true := decide_eq_true c17
             clear c17
             by_cases c18 : t396 ≤ (y393.length : Int)
             ·rw [if_pos c18] at H
              have c18b0 := eq_true c18
              have c18b1 : decide (t396 ≤ (y393.length : Int)) = true := decide_eq_true c18
              clear c18
              obtain ⟨y397, hy397⟩ : ∃ y_ : List Int, y_ = (y393.take (t396 : Int).toNat) := ⟨_, rfl⟩
              replace H : ((spec_ModeOf.f k3 ((x8_3) % 256)).bind fun t400 => (if t400 = 12 then (if 1 < (y397.length : Int) then (spec_ReadOp.j3 k3 a0 a1 x7_7 x8_3 (y397.set (1 : Int).toNat ((Go.bits .and .i64 (wrap64 ((wrap64 (x7_7 - (wrap64 (a1)))) - 2)) 255) % 256))) else (none)) else (spec_ReadOp.j3 k3 a0 a1 x7_7 x8_3 y397))) = some (r1, r2) := by first | (rw [hy397]; with_reducible exact H) | (have H2_ := (Option.bind_some _ _).symm.trans H; rw [hy397]; with_reducible exact H2_) | (have H2_ := (Option.bind_some _ _).symm.trans H; with_reducible exact H2_) | with_reducible exact H | (rw [hy397]; exact H) | exact H
              have Ny397 := Aside0.mk hy397
              clear hy397
              replace H := Option.bind_eq_some_iff.mp H
              obtain ⟨t400, A190, H⟩ := H
              replace H : (if t400 = 12 then (if 1 < (y397.length : Int) then (spec_ReadOp.j3 k3 a0 a1 x7_7 x8_3 (y397.set (1 : Int).toNat ((Go.bits .and .i64 (wrap64 ((wrap64 (x7_7 - (wrap64 (a1)))) - 2)) 255) % 256))) else (none)) else (spec_ReadOp.j3 k3 a0 a1 x7_7 x8_3 y397)) = some (r1, r2) := H
              have A19 := Aside0.mk A190
              clear A190
              have HC20 := Aside0.mk H
              clear H
              try go_wp2
              have n0_ := Aside0.mk (below_drew1 HB.out)
              clear HB
              have HB := n0_
              clear n0_
              refine start_ (n := 6) (S := fun w' => True) (ds := []) #[false, false, false, false, false, false] (by kernel_rfl) rfl rfl trivial (fun hHeld => ?_)
              generalize wr.drew = w21 at HB hHeld ⊢
              refine pure_ (i := 0) (N := some 33) (v := ?_) (a' := ?_) #[true, false, false, false, false, false] rfl rfl (by kernel_rfl) (fun _ _ _ h => h) (Or.inl ⟨by rfl, ?_⟩) ?_ ?_
              rotate_left
              ·intro w'
               go_simp
               with_reducible rfl
              rotate_left
              ·simp only [Act.put, List.setIfInBounds_toArray, List.set_cons_zero, List.set_cons_succ, i64_w, i32_w]
               rfl
              refine pure_ (i := 1) (N := some 34) (v := ?_) (a' := ?_) #[true, true, false, false, false, false] rfl rfl (by kernel_rfl) (fun _ _ _ h => h) (Or.inl ⟨by rfl, ?_⟩) ?_ ?_
              rotate_left
              ·intro w'
               go_simp
               with_reducible rfl
              rotate_left
              ·simp only [Act.put, List.setIfInBounds_toArray, List.set_cons_zero, List.set_cons_succ, i64_w, i32_w]
               rfl
              refine pure_ (i := 3) (N := some 36) (v := ?_) (a' := ?_) #[true, true, false, true, false, false] rfl rfl (by kernel_rfl) (fun _ _ _ h => h) (Or.inl ⟨by rfl, ?_⟩) ?_ ?_
              rotate_left
              ·intro w'
               go_simp
               with_reducible rfl
              rotate_left
              ·simp only [Act.put, List.setIfInBounds_toArray, List.set_cons_zero, List.set_cons_succ, i64_w, i32_w]
               rfl
              refine pure_ (i := 4) (N := some 37) (v := ?_) (a' := ?_) #[true, true, false, true, true, false] rfl rfl (by kernel_rfl) (fun _ _ _ h => h) (Or.inl ⟨by rfl, ?_⟩) ?_ ?_
              rotate_left
              ·intro w'
               go_simp
               with_reducible rfl
              rotate_left
              ·simp only [Act.put, List.setIfInBounds_toArray, List.set_cons_zero, List.set_cons_succ, i64_w, i32_w]
               rfl
              refine one_ (i := 2) (N := some 35) #[true, true, true, true, true, false] rfl rfl (by kernel_rfl) (by decide) (fun K hK => ?_)
              refine goes_ Tryd.func27 (by kernel_rfl) rfl #[.int .u8 ((x8_3) % 256)] (by rfl) rfl rfl (by (try simp only [List.map_toArray, List.map_cons, List.map_nil]); first | done | rfl | (simp only [List.length_drop, List.length_take]; rfl)) ?_
              with_reducible refine (spec_NameOf.calls k3 ((x8_3) % 256) t392 _ A12.out).mono ?_
              rintro e w22 ⟨rfl, hb⟩
              refine ⟨_, rfl, ?_⟩
              have n0_ := Aside0.mk (below_step (by repeat (first | (with_reducible first | exact HB.out | apply below_alloc | apply pw_below_drewN | apply below_drew1) | exact HB.out)) hb)
              clear HB
              have HB := n0_
              clear n0_
              (try clear hb)
              (try clear hb2)
              (try clear hk)
              (try clear hi)
              refine hK.out _ _ trivial (fun hHeld => ?_)
              clear hK K
              refine norm_ (a' := ?_) ?_ ?_
              rotate_left
              ·show Act.put _ (some 35) _ = _
               simp only [Act.put, List.setIfInBounds_toArray, List.set_cons_zero, List.set_cons_succ, i64_w, i32_w]
               rfl
              refine pure_ (i := 5) (N := some 38) (v := ?_) (a' := ?_) #[true, true, true, true, true, true] rfl rfl (by kernel_rfl) (fun _ _ _ h => h) (Or.inl ⟨by rfl, ?_⟩) ?_ ?_
              rotate_left
              ·intro w'
               go_simp
               with_reducible rfl
              rotate_left
              ·simp only [Act.put, List.setIfInBounds_toArray, List.set_cons_zero, List.set_cons_succ, i64_w, i32_w]
               rfl
              refine done_ (by kernel_rfl) ?_
              go_upto_if 55 with (first | ((with_reducible refine gate_dst (N := 47) rfl ?_); (try (refine gate_guard (by rfl) ?_; dsimp only)); refine Kd.R_lit (Kd.int .u8) _ 5 ?hg (N := 47) ?hd (xs := ([(x8_3) % 256, (Go.bits .and .i64 x7_7 255) % 256, (wrap64 (Int.tdiv x7_7 256)) % 256] : List Int)) (inner := [.int .u8 ((x8_3) % 256), .int .u8 ((Go.bits .and .i64 x7_7 255) % 256), .int .u8 ((wrap64 (Int.tdiv x7_7 256)) % 256)]) (ok := fun _ => True) (okp := fun _ => True) ?hr ?hp (fun _ hk => hk) trivial (Below.refl _ _) (Nat.le_refl _) (by simp) ?_; (case hd => rfl); (case hg => rfl); (case hr => first | (go_simp; done) | (go_simp; rfl)); (case hp => exact (Reps.one (show Kd.M (Kd.int .u8) _ _ _ ((x8_3) % 256) [.int .u8 ((x8_3) % 256)] from rfl) (Reps.one (show Kd.M (Kd.int .u8) _ _ _ ((Go.bits .and .i64 x7_7 255) % 256) [.int .u8 ((Go.bits .and .i64 x7_7 255) % 256)] from rfl) (Reps.one (show Kd.M (Kd.int .u8) _ _ _ ((wrap64 (Int.tdiv x7_7 256)) % 256) [.int .u8 ((wrap64 (Int.tdiv x7_7 256)) % 256)] from rfl) (Reps.none _ _))))); intro v394 w23 ho24 hb hg_ hnew_; clear hg_ hnew_; (first | rw [← Ny393.out] at ho24 | (simp only [Int.reduceToNat] at ho24; rw [← Ny393.out] at ho24)); have n0_ := Aside0.mk (Kd.R_lower ho24 (below_size (by repeat (first | (with_reducible first | exact HB.out | apply below_alloc | apply pw_below_drewN | apply below_drew1) | exact HB.out)))); have n1_ := Aside0.mk (below_step (by repeat (first | (with_reducible first | exact HB.out | apply below_alloc | apply pw_below_drewN | apply below_drew1) | exact HB.out)) hb); clear HB; have HO395 := n0_; have HB := n1_; clear n0_ n1_; clear hb ho24) | ((with_reducible refine gate_callee (f := 28) rfl ?_); refine goesL_ (some 50) rfl rfl Tryd.func28 (by kernel_rfl) rfl #[.int .u8 ((x8_3) % 256)] rfl (by (try simp only [List.map_toArray, List.map_cons, List.map_nil]); first | done | rfl | (simp only [List.length_drop, List.length_take]; rfl)) ?_; (with_reducible refine (spec_SizeOf.calls k3 ((x8_3) % 256) t396 _ A16.out).mono ?_); rintro e w25 ⟨rfl, hb⟩; refine ⟨_, rfl, ?_⟩; have n0_ := Aside0.mk (Kd.R_below (by (with_reducible repeat (first | apply Kd.R_alloc | apply Kd.R_drewN | apply Kd.R_drew)); exact HO395.out) hb); have n1_ := Aside0.mk (below_step (by repeat (first | (with_reducible first | exact HB.out | apply below_alloc | apply pw_below_drewN | apply below_drew1) | exact HB.out)) hb); clear HO395; clear HB; have HO395 := n0_; have HB := n1_; clear n0_ n1_; (try clear hb); (try clear hb2); (try clear hk); (try clear hi); obtain ⟨Ao26, co26, eo26⟩ := Kd.R_slice HO395.out; subst eo26; have q27 : (t396 : Int) ≤ ((y393.length : Int) : Int) := of_decide_eq_true (by first | (with_reducible assumption) | assumption); obtain ⟨i027, hi027, _, hsz27, _⟩ := info_parts info5; have hcut27 := cut_to (P := Tryd.prog) 23 5 .i64 Tryd.underlying23 hi027 Ao26 y393.length co26 t396 (of_decide_eq_true (by first | (with_reducible assumption) | assumption)) q27 (Kd.R_reads' HO395.out).2.1; have hr27 := Kd.R_take (m := (t396 : Int).toNat) HO395.out (by omega); have hy27 : y397.length = (t396 : Int).toNat := (by rw [Ny397.out, List.length_take]; omega); rw [← Ny397.out] at hr27; rw [← hy27] at hr27 hcut27; clear hy27 hi027 hsz27 HO395; have HO399 := Aside0.mk hr27; clear hr27; replace q27 := eq_true q27) | ((with_reducible refine gate_callee (f := 29) rfl ?_); refine goesL_ (some 54) rfl rfl Tryd.func29 (by kernel_rfl) rfl #[.int .u8 ((x8_3) % 256)] rfl (by (try simp only [List.map_toArray, List.map_cons, List.map_nil]); first | done | rfl | (simp only [List.length_drop, List.length_take]; rfl)) ?_; (with_reducible refine (spec_ModeOf.calls k3 ((x8_3) % 256) t400 _ A19.out).mono ?_); rintro e w28 ⟨rfl, hb⟩; refine ⟨_, rfl, ?_⟩; have n0_ := Aside0.mk (Kd.R_below (by (with_reducible repeat (first | apply Kd.R_alloc | apply Kd.R_drewN | apply Kd.R_drew)); exact HO399.out) hb); have n1_ := Aside0.mk (below_step (by repeat (first | (with_reducible first | exact HB.out | apply below_alloc | apply pw_below_drewN | apply below_drew1) | exact HB.out)) hb); clear HO399; clear HB; have HO399 := n0_; have HB := n1_; clear n0_ n1_; (try clear hb); (try clear hb2); (try clear hk); (try clear hi)))
              (try simp only [Act.put, List.setIfInBounds_toArray, List.set_cons_zero, List.set_cons_succ])
              go_cut [] (fun wc => ∃ (kq : Nat) (x9_19 : List Int), Aside0 (spec_ReadOp.j3 kq a0 a1 x7_7 x8_3 x9_19 = some (r1, r2)) ∧ Aside0 (kq ≤ k3) ∧ Aside0 (Kd.R (Kd.int .u8) 5 wc w.heap.size (fun _ => True) (.slice Ao26 y397.length co26) x9_19) ∧ Aside0 (Below w.heap.size w wc))
              case first =>
               have H := HC20.out
               clear HC20
               by_cases c29 : t400 = 12
               ·rw [if_pos c29] at H
                have c29b0 : (t400 == 12) = true := beq_iff_eq.mpr c29
                have c29b1 : (t400 != 12) = false := bne_eq_false_iff_eq.mpr c29
                clear c29
                (first | rw [c29b0] | (simp only [i64_w, i32_w]; rw [c29b0]) | skip)
                by_cases c30 : 1 < (y397.length : Int)
                ·rw [if_pos c30] at H
                 have c30b0 : decide (1 < (y397.length : Int)) = true := decide_eq_true c30
                 have c30b1 : decide (1 < y397.length) = true := decide_eq_true (by omega)
                 clear c30
                 obtain ⟨y401, hy401⟩ : ∃ y_ : List Int, y_ = (y397.set (1 : Int).toNat ((Go.bits .and .i64 (wrap64 ((wrap64 (x7_7 - (wrap64 (a1)))) - 2)) 255) % 256)) := ⟨_, rfl⟩
                 replace H : (spec_ReadOp.j3 k3 a0 a1 x7_7 x8_3 y401) = some (r1, r2) := by first | (rw [hy401]; with_reducible exact H) | (have H2_ := (Option.bind_some _ _).symm.trans H; rw [hy401]; with_reducible exact H2_) | (have H2_ := (Option.bind_some _ _).symm.trans H; with_reducible exact H2_) | with_reducible exact H | (rw [hy401]; exact H) | exact H
                 have Ny401 := Aside0.mk hy401
                 clear hy401
                 have H' := Aside0.mk H
                 clear H
                 have p31 : 0 ≤ (1 : Int) := (by omega)
                 have q31 : (1 : Int) < ((y397.length : Int) : Int) := of_decide_eq_true (by first | (with_reducible assumption) | assumption)
                 have qi31 : (1 < y397.length) = True := eq_true (by omega)
                 obtain ⟨go31, co31, eo31, gb31, gl31, cl31, HG31⟩ := Kd.R_form HO399.out (by omega)
                 (first | cases eo31 | (injection eo31 with ea_ en_ ec_; (first | subst ea_ | (injection ea_ with ea_; subst ea_)); subst ec_; clear en_))
                 have GB31 := Aside0.mk gb31
                 have GG31 := Aside0.mk HG31
                 clear gb31 gl31 HG31
                 obtain ⟨hx31_0, hf31_0⟩ := Kd.R_celln 0 HO399.out (1 : Int) p31 q31
                 (try rw [show ((1 : Int)).toNat = 1 from rfl] at hx31_0)
                 (try simp only [Nat.reduceMul, Nat.zero_mul, Nat.zero_add, Nat.reduceAdd] at hx31_0)
                 (try rw [show ((1 : Int)).toNat = 1 from rfl] at hf31_0)
                 (try simp only [Nat.reduceMul, Nat.zero_mul, Nat.zero_add, Nat.reduceAdd] at hf31_0)
                 replace p31 := eq_true p31
                 replace q31 := eq_true q31
                 have HP32 := Kd.R_putg HO399.out (1 : Int) ((Go.bits .and .i64 (wrap64 ((wrap64 (x7_7 - (wrap64 (a1)))) - 2)) 255) % 256)
                 go_wp2_with (first | ((with_reducible refine gate_store (t := 5) (p := 64) rfl ?_); refine store_event (t := 5) (p := 64) (v := ?vo_w33) (w1 := (w28.setCell ⟨go31, (1 : Int).toNat, none⟩ (.int .u8 ((Go.bits .and .i64 (wrap64 ((wrap64 (x7_7 - (wrap64 (a1)))) - 2)) 255) % 256)))) ?hg ?ho ?hn ?hr ?_; (case ho => rfl); (case hg => rfl); (case hn => rfl); (case hr => first | (go_simp; done) | (go_simp; rfl)); intro w33 hw; have hg : w28.grownBy w33 (some go31) := (by rw [hw]; exact HP32.2); have hp_ : Kd.R (Kd.int .u8) 5 w33 w.heap.size (fun _ => True) (.slice (some ⟨go31, 0, none⟩) y397.length co26) y401 := (by rw [hw, Ny401.out]; exact HP32.1); clear HP32; have n0_ := Aside0.mk (hp_); have n1_ := Aside0.mk ((by rw [hw]; exact below_set (HB.out) GB31.out : Below w.heap.size w w33)); clear HO399; clear HB; have HO399 := n0_; have HB := n1_; clear n0_ n1_; clear hg hw hp_))
                 go_meet
                 case rel => exact ⟨_, (y401), H', ⟨by have := HJ5.out; have := HJ7.out; have := HK3.out; first | omega | exact Nat.le_refl _⟩, ⟨by (with_reducible repeat (first | apply Kd.R_alloc | apply Kd.R_drewN | apply Kd.R_drew)); exact HO399.out⟩, ⟨by repeat (first | (with_reducible first | exact HB.out | apply below_alloc | apply pw_below_drewN | apply below_drew1) | exact HB.out)⟩⟩
                ·rw [if_neg c30] at H
                 exact absurd H (by simp)
               ·rw [if_neg c29] at H
                have c29b0 : (t400 == 12) = false := beq_eq_false_iff_ne.mpr c29
                have c29b1 : (t400 != 12) = true := bne_iff_ne.mpr c29
                (first | rw [c29b0] | (simp only [i64_w, i32_w]; rw [c29b0]) | skip)
                have H' := Aside0.mk H
                clear H
                go_wp2
                go_meet
                case rel => exact ⟨_, (y397), H', ⟨by have := HJ5.out; have := HJ7.out; have := HK3.out; first | omega | exact Nat.le_refl _⟩, ⟨by (with_reducible repeat (first | apply Kd.R_alloc | apply Kd.R_drewN | apply Kd.R_drew)); exact HO399.out⟩, ⟨by repeat (first | (with_reducible first | exact HB.out | apply below_alloc | apply pw_below_drewN | apply below_drew1) | exact HB.out)⟩⟩
              case rest =>
               clear HC20
               try clear c1
               try clear c2
               try clear p2
               try clear q2
               try clear c3
               try clear p3
               try clear q3
               try clear hx3
               try clear qi3
               try clear hf3
               try clear c4
               try clear p6
               try clear c7
               try clear c7b0
               try clear c7b1
               try clear c8
               try clear c9
               try clear c11
               try clear c11b0
               try clear c13
               try clear c13b0
               try clear c13b1
               try clear c14
               try clear c14b0
               try clear c14b1
               try clear c15
               try clear c15b0
               try clear c15b1
               try clear c17
               try clear c17b0
               try clear c17b1
               try clear c18
               try clear c18b0
               try clear c18b1
               try clear c24
               try clear c25
               try clear c26
               try clear c27
               try clear q27
               try clear c28
               try clear c29
               try clear c29b0
               try clear c29b1
               try clear c30
               try clear c30b0
               try clear c30b1
               try clear p31
               try clear q31
               try clear hx31
               try clear qi31
               try clear hf31
               try clear hx31_0
               try clear p2
               try clear p31
               try clear q27
               try clear q31
               obtain ⟨kq, x9_19, HA, HJ19, HO_9, HB⟩ := hcut
               have hl9_19 := (Kd.R_reads' HO_9.out).1
               rw [hl9_19] at HO_9
               (try simp only [hl9_19])
               cases kq with
               | zero => exact absurd HA.out (by simp [spec_ReadOp.j3])
               | succ kj19 =>
                have H := HA.out
                clear HA
                simp only [spec_ReadOp.j3] at H
                replace H := Option.bind_eq_some_iff.mp H
                obtain ⟨t402, A340, H⟩ := H
                replace H : (if t402.toList = a0.toList then (some (x9_19, true)) else (spec_ReadOp.l0 kj19 a0 a1 x7_7 (wrap64 (x8_3 + 1)))) = some (r1, r2) := H
                have A34 := Aside0.mk A340
                clear A340
                by_cases c35 : t402.toList = a0.toList
                ·rw [if_pos c35] at H
                 have c35b0 : (t402.toList == a0.toList) = true := beq_iff_eq.mpr c35
                 have c35b1 : (t402.toList != a0.toList) = false := bne_eq_false_iff_eq.mpr c35
                 clear c35
                 simp only [Option.some.injEq, Prod.mk.injEq] at H
                 obtain ⟨rfl, rfl⟩ := H
                 go_wp2_with (first | ((with_reducible refine gate_callee (f := 18) rfl ?_); refine goesL_ (some 67) rfl rfl Tryd.func18 (by kernel_rfl) rfl #[.slice Ao26 x9_19.length co26, .int .u16 a1] rfl (by (try simp only [List.map_toArray, List.map_cons, List.map_nil]); first | done | rfl | (simp only [List.length_drop, List.length_take]; rfl)) ?_; (with_reducible refine (spec_ShowOp.calls kj19 _ _ x9_19 a1 t402 _ ?side1 ?side2 A34.out).mono ?_); (case side1 => repeat (first | exact (Kd.R_reads' HO_9.out).2.2 | (with_reducible refine Kd.C_alloc ?_ _) | (with_reducible refine Kd.C_drewN ?_ _) | (with_reducible refine Kd.C_drew ?_))); (case side2 => exact (Kd.R_reads' HO_9.out).2.1); rintro e w36 ⟨rfl, hb⟩; refine ⟨_, rfl, ?_⟩; have n0_ := Aside0.mk (Kd.R_below (by (with_reducible repeat (first | apply Kd.R_alloc | apply Kd.R_drewN | apply Kd.R_drew)); exact HO_9.out) hb); have n1_ := Aside0.mk (below_step (by repeat (first | (with_reducible first | exact HB.out | apply below_alloc | apply pw_below_drewN | apply below_drew1) | exact HB.out)) hb); clear HO_9; clear HB; have HO_9 := n0_; have HB := n1_; clear n0_ n1_; (try clear hb); (try clear hb2); (try clear hk); (try clear hi)))
                 go_ret2
                 exact ⟨_, by first | rfl | (simp [errW_none, errW_some] <;> rfl) | (simp [*, errW_none, errW_some] <;> rfl), by (with_reducible repeat (first | apply Kd.R_alloc | apply Kd.R_drewN | apply Kd.R_drew)); exact HO_9.out, by repeat (first | (with_reducible first | exact HB.out | apply below_alloc | apply pw_below_drewN | apply below_drew1) | exact HB.out)⟩
                ·rw [if_neg c35] at H
                 have c35b0 : (t402.toList == a0.toList) = false := beq_eq_false_iff_ne.mpr c35
                 have c35b1 : (t402.toList != a0.toList) = true := bne_iff_ne.mpr c35
                 have H' := Aside0.mk H
                 clear H
                 go_wp2_with (first | ((with_reducible refine gate_callee (f := 18) rfl ?_); refine goesL_ (some 67) rfl rfl Tryd.func18 (by kernel_rfl) rfl #[.slice Ao26 x9_19.length co26, .int .u16 a1] rfl (by (try simp only [List.map_toArray, List.map_cons, List.map_nil]); first | done | rfl | (simp only [List.length_drop, List.length_take]; rfl)) ?_; (with_reducible refine (spec_ShowOp.calls kj19 _ _ x9_19 a1 t402 _ ?side1 ?side2 A34.out).mono ?_); (case side1 => repeat (first | exact (Kd.R_reads' HO_9.out).2.2 | (with_reducible refine Kd.C_alloc ?_ _) | (with_reducible refine Kd.C_drewN ?_ _) | (with_reducible refine Kd.C_drew ?_))); (case side2 => exact (Kd.R_reads' HO_9.out).2.1); rintro e w37 ⟨rfl, hb⟩; refine ⟨_, rfl, ?_⟩; have n0_ := Aside0.mk (Kd.R_below (by (with_reducible repeat (first | apply Kd.R_alloc | apply Kd.R_drewN | apply Kd.R_drew)); exact HO_9.out) hb); have n1_ := Aside0.mk (below_step (by repeat (first | (with_reducible first | exact HB.out | apply below_alloc | apply pw_below_drewN | apply below_drew1) | exact HB.out)) hb); clear HO_9; clear HB; have HO_9 := n0_; have HB := n1_; clear n0_ n1_; (try clear hb); (try clear hb2); (try clear hk); (try clear hi)))
                 (try simp only [← hl9_19])
                 go_roundg kj19
                 case measure => have := HJ5.out; have := HJ7.out; have := HK3.out; have := HJ19.out; omega
                 case rel => exact ⟨(wrap64 (x8_3 + 1)), (by first | rfl | (simp; done) | (simp [*]; done)), H', ⟨by have := HJ5.out; have := HJ7.out; have := HK3.out; have := HJ19.out; omega⟩, ⟨by repeat (first | (with_reducible first | exact HB.out | apply below_alloc | apply pw_below_drewN | apply below_drew1) | exact HB.out)⟩⟩
             ·rw [if_neg c18] at H
              exact absurd H (by simp)
            ·rw [if_neg c17] at H
             exact absurd H (by simp)
           ·rw [if_neg c15] at H
            have c15b0 : (t392.toList == (a0.extract 0 3).toList) = false := beq_eq_false_iff_ne.mpr c15
            have c15b1 : (t392.toList != (a0.extract 0 3).toList) = true := bne_iff_ne.mpr c15
            have H' := Aside0.mk H
            clear H
            try go_wp2
            have n0_ := Aside0.mk (below_drew1 HB.out)
            clear HB
            have HB := n0_
            clear n0_
            refine start_ (n := 6) (S := fun w' => True) (ds := []) #[false, false, false, false, false, false] (by kernel_rfl) rfl rfl trivial (fun hHeld => ?_)
            generalize wr.drew = w38 at HB hHeld ⊢
            refine pure_ (i := 0) (N := some 33) (v := ?_) (a' := ?_) #[true, false, false, false, false, false] rfl rfl (by kernel_rfl) (fun _ _ _ h => h) (Or.inl ⟨by rfl, ?_⟩) ?_ ?_
            rotate_left
            ·intro w'
             go_simp
             with_reducible rfl
            rotate_left
            ·simp only [Act.put, List.setIfInBounds_toArray, List.set_cons_zero, List.set_cons_succ, i64_w, i32_w]
             rfl
            refine pure_ (i := 1) (N := some 34) (v := ?_) (a' := ?_) #[true, true, false, false, false, false] rfl rfl (by kernel_rfl) (fun _ _ _ h => h) (Or.inl ⟨by rfl, ?_⟩) ?_ ?_
            rotate_left
            ·intro w'
             go_simp
             with_reducible rfl
            rotate_left
            ·simp only [Act.put, List.setIfInBounds_toArray, List.set_cons_zero, List.set_cons_succ, i64_w, i32_w]
             rfl
            refine pure_ (i := 3) (N := some 36) (v := ?_) (a' := ?_) #[true, true, false, true, false, false] rfl rfl (by kernel_rfl) (fun _ _ _ h => h) (Or.inl ⟨by rfl, ?_⟩) ?_ ?_
            rotate_left
            ·intro w'
             go_simp
             with_reducible rfl
            rotate_left
            ·simp only [Act.put, List.setIfInBounds_toArray, List.set_cons_zero, List.set_cons_succ, i64_w, i32_w]
             rfl
            refine pure_ (i := 4) (N := some 37) (v := ?_) (a' := ?_) #[true, true, false, true, true, false] rfl rfl (by kernel_rfl) (fun _ _ _ h => h) (Or.inl ⟨by rfl, ?_⟩) ?_ ?_
            rotate_left
            ·intro w'
             go_simp
             with_reducible rfl
            rotate_left
            ·simp only [Act.put, List.setIfInBounds_toArray, List.set_cons_zero, List.set_cons_succ, i64_w, i32_w]
             rfl
            refine one_ (i := 2) (N := some 35) #[true, true, true, true, true, false] rfl rfl (by kernel_rfl) (by decide) (fun K hK => ?_)
            refine goes_ Tryd.func27 (by kernel_rfl) rfl #[.int .u8 ((x8_3) % 256)] (by rfl) rfl rfl (by (try simp only [List.map_toArray, List.map_cons, List.map_nil]); first | done | rfl | (simp only [List.length_drop, List.length_take]; rfl)) ?_
            with_reducible refine (spec_NameOf.calls k3 ((x8_3) % 256) t392 _ A12.out).mono ?_
            rintro e w39 ⟨rfl, hb⟩
            refine ⟨_, rfl, ?_⟩
            have n0_ := Aside0.mk (below_step (by repeat (first | (with_reducible first | exact HB.out | apply below_alloc | apply pw_below_drewN | apply below_drew1) | exact HB.out)) hb)
            clear HB
            have HB := n0_
            clear n0_
            (try clear hb)
            (try clear hb2)
            (try clear hk)
            (try clear hi)
            refine hK.out _ _ trivial (fun hHeld => ?_)
            clear hK K
            refine norm_ (a' := ?_) ?_ ?_
            rotate_left
            ·show Act.put _ (some 35) _ = _
             simp only [Act.put, List.setIfInBounds_toArray, List.set_cons_zero, List.set_cons_succ, i64_w, i32_w]
             rfl
            refine pure_ (i := 5) (N := some 38) (v := ?_) (a' := ?_) #[true, true, true, true, true, true] rfl rfl (by kernel_rfl) (fun _ _ _ h => h) (Or.inl ⟨by rfl, ?_⟩) ?_ ?_
            rotate_left
            ·intro w'
             go_simp
             with_reducible rfl
            rotate_left
            ·simp only [Act.put, List.setIfInBounds_toArray, List.set_cons_zero, List.set_cons_succ, i64_w, i32_w]
             rfl
            refine done_ (by kernel_rfl) ?_
            try go_wp2
            go_roundg k3
            case measure => have := HJ5.out; have := HJ7.out; have := HK3.out; omega
            case rel => exact ⟨(wrap64 (x8_3 + 1)), (by first | rfl | (simp; done) | (simp [*]; done)), H', ⟨by have := HJ5.out; have := HJ7.out; have := HK3.out; omega⟩, ⟨by repeat (first | (with_reducible first | exact HB.out | apply below_alloc | apply pw_below_drewN | apply below_drew1) | exact HB.out)⟩⟩
          ·rw [if_neg c14] at H
           exact absurd H (by simp)
         ·rw [if_neg c13] at H
          exact absurd H (by simp)
        ·rw [if_neg c11] at H
         have c11b0 : decide (x8_3 < 256) = false := decide_eq_false c11
         clear c11
         obtain ⟨y389, hy389⟩ : ∃ y_ : List Int, y_ = (([] : List Int)) := ⟨_, rfl⟩
         replace H : (some (y389, false)) = some (r1, r2) := by first | (rw [hy389]; with_reducible exact H) | (have H2_ := (Option.bind_some _ _).symm.trans H; rw [hy389]; with_reducible exact H2_) | (have H2_ := (Option.bind_some _ _).symm.trans H; with_reducible exact H2_) | with_reducible exact H | (rw [hy389]; exact H) | exact H
         have Ny389 := Aside0.mk hy389
         clear hy389
         simp only [Option.some.injEq, Prod.mk.injEq] at H
         obtain ⟨rfl, rfl⟩ := H
         go_wp2_with (first | ((with_reducible refine gate_dst (N := 71) rfl ?_); (try (refine gate_guard (by rfl) ?_; dsimp only)); refine Kd.R_lit (Kd.int .u8) _ 5 ?hg (N := 71) ?hd (xs := ([] : List Int)) (inner := []) (ok := fun _ => True) (okp := fun _ => True) ?hr ?hp (fun _ hk => hk) trivial (Below.refl _ _) (Nat.le_refl _) (by simp) ?_; (case hd => rfl); (case hg => rfl); (case hr => first | (go_simp; done) | (go_simp; rfl)); (case hp => exact (Reps.none _ _)); intro v390 w40 ho41 hb hg_ hnew_; clear hg_ hnew_; (first | rw [← Ny389.out] at ho41 | (simp only [Int.reduceToNat] at ho41; rw [← Ny389.out] at ho41)); have n0_ := Aside0.mk (Kd.R_lower ho41 (below_size (by repeat (first | (with_reducible first | exact HB.out | apply below_alloc | apply pw_below_drewN | apply below_drew1) | exact HB.out)))); have n1_ := Aside0.mk (below_step (by repeat (first | (with_reducible first | exact HB.out | apply below_alloc | apply pw_below_drewN | apply below_drew1) | exact HB.out)) hb); clear HB; have HO391 := n0_; have HB := n1_; clear n0_ n1_; clear hb ho41))
         go_ret2
         exact ⟨_, by first | rfl | (simp [errW_none, errW_some] <;> rfl) | (simp [*, errW_none, errW_some] <;> rfl), by (with_reducible repeat (first | apply Kd.R_alloc | apply Kd.R_drewN | apply Kd.R_drew)); exact HO391.out, by repeat (first | (with_reducible first | exact HB.out | apply below_alloc | apply pw_below_drewN | apply below_drew1) | exact HB.out)⟩
 ·replace c4 := Bool.eq_false_iff.mpr c4
  subst c4
  have H1 : (some ((([] : List Int)), false)) = some (r1, r2) := by rw [if_neg (show ¬ (false = true) by decide)] at H; exact H
  clear H
  have H := H1
  clear H1
  obtain ⟨y384, hy384⟩ : ∃ y_ : List Int, y_ = (([] : List Int)) := ⟨_, rfl⟩
  replace H : (some (y384, false)) = some (r1, r2) := by first | (rw [hy384]; with_reducible exact H) | (have H2_ := (Option.bind_some _ _).symm.trans H; rw [hy384]; with_reducible exact H2_) | (have H2_ := (Option.bind_some _ _).symm.trans H; with_reducible exact H2_) | with_reducible exact H | (rw [hy384]; exact H) | exact H
  have Ny384 := Aside0.mk hy384
  clear hy384
  simp only [Option.some.injEq, Prod.mk.injEq] at H
  obtain ⟨rfl, rfl⟩ := H
  go_enter Tryd.func8, Tryd.ntmps8
  go_wp2_with (first | ((with_reducible refine gate_callee (f := 24) rfl ?_); refine goesL_ (some 12) rfl rfl Tryd.func24 (by kernel_rfl) rfl #[.int .i64 (a0.size : Int), .int .i64 3, .int .i64 12] rfl (by (try simp only [List.map_toArray, List.map_cons, List.map_nil]); first | done | rfl | (simp only [List.length_drop, List.length_take]; rfl)) ?_; (with_reducible refine (spec_l01In.calls (a0.size : Int) 3 12 false _ A3.out).mono ?_); rintro e w' ⟨rfl, ⟨nd, rfl⟩⟩; refine ⟨_, rfl, ?_⟩) | ((with_reducible refine gate_dst (N := 14) rfl ?_); (try (refine gate_guard (by rfl) ?_; dsimp only)); refine Kd.R_lit (Kd.int .u8) _ 5 ?hg (N := 14) ?hd (xs := ([] : List Int)) (inner := []) (ok := fun _ => True) (okp := fun _ => True) ?hr ?hp (fun _ hk => hk) trivial (Below.refl _ _) (Nat.le_refl _) (by simp) ?_; (case hd => rfl); (case hg => rfl); (case hr => first | (go_simp; done) | (go_simp; rfl)); (case hp => exact (Reps.none _ _)); intro v385 w42 ho43 hb hg_ hnew_; clear hg_ hnew_; (first | rw [← Ny384.out] at ho43 | (simp only [Int.reduceToNat] at ho43; rw [← Ny384.out] at ho43)); have n0_ := Aside0.mk (Kd.R_lower ho43 (below_size (by repeat (first | (with_reducible first | exact HB.out | apply below_alloc | apply pw_below_drewN | apply below_drew1) | exact HB.out)))); have n1_ := Aside0.mk (below_step (by repeat (first | (with_reducible first | exact HB.out | apply below_alloc | apply pw_below_drewN | apply below_drew1) | exact HB.out)) hb); clear HB; have HO386 := n0_; have HB := n1_; clear n0_ n1_; clear hb ho43))
  go_ret2
  exact ⟨_, by first | rfl | (simp [errW_none, errW_some] <;> rfl) | (simp [*, errW_none, errW_some] <;> rfl), by (with_reducible repeat (first | apply Kd.R_alloc | apply Kd.R_drewN | apply Kd.R_drew)); exact HO386.out, by repeat (first | (with_reducible first | exact HB.out | apply below_alloc | apply pw_below_drewN | apply below_drew1) | exact HB.out)⟩

/-! ### spec_l01Pick: function 50 -/
def spec_l01Pick.f (s0_0 : List Int) (s0_1 : Int) (s0_2 : Int) (l1 : List ByteArray) : Option (ByteArray × Int × Int) := (spec_l01Below.f s0_0 s0_1 s0_2 (l1.length : Int)).bind fun bt403 => (if 0 ≤ bt403.1 then (if bt403.1 < (l1.length : Int) then (some (rdOf ByteArray.empty l1 bt403.1, bt403.2.1, bt403.2.2)) else (none)) else (none))
set_option maxHeartbeats 8000000 in
set_option maxRecDepth 100000 in
theorem spec_l01Pick.calls (g : Nat) (s0_0 : List Int) (s0_1 : Int) (s0_2 : Int) (A1 : Option Addr) (c1 : Nat) (l1 : List ByteArray) (r1 : ByteArray) (r2 : Int) (r3 : Int) (w0 w : World) (hI : IsS73 w0 w g s0_0 s0_1 s0_2) (hB : Below w0.heap.size w0 w) (hr1 : Kd.C Kd.string w A1 l1.length l1) (hc1 : l1.length ≤ c1) (hf1 : ∀ ad, A1 = some ad → 0 < l1.length → ad.block ≠ g) (h : spec_l01Pick.f s0_0 s0_1 s0_2 l1 = some (r1, r2, r3)) :
  Calls Tryd.prog 50 #[.pointer (some ⟨g, 0, none⟩), .slice A1 l1.length c1] w fun e w' => e = .returned (.string r1) ∧ IsS73 w0 w' g s0_0 r2 r3 ∧ Below w0.heap.size w0 w' ∧ KeepBut w w' g none := by
 have HR1 := Aside0.mk hr1
 have HC1 := Aside0.mk hc1
 clear hr1 hc1
 have HI0 := Aside0.mk hI
 have HK := Aside0.mk (KeepBut.refl w g none)
 have HL := Aside0.mk hB.size
 clear hI
 have HW0 := Aside0.mk hB.size
 have HB := Aside0.mk hB
 clear hB
 have H : ((spec_l01Below.f s0_0 s0_1 s0_2 (l1.length : Int)).bind fun bt403 => (if 0 ≤ bt403.1 then (if bt403.1 < (l1.length : Int) then (some (rdOf ByteArray.empty l1 bt403.1, bt403.2.1, bt403.2.2)) else (none)) else (none))) = some (r1, r2, r3) := h
 clear h
 replace H := Option.bind_eq_some_iff.mp H
 obtain ⟨⟨t403, t404, t405⟩, A30, H⟩ := H
 replace H : (if 0 ≤ t403 then (if t403 < (l1.length : Int) then (some (rdOf ByteArray.empty l1 t403, t404, t405)) else (none)) else (none)) = some (r1, r2, r3) := H
 have A3 := Aside0.mk A30
 clear A30
 by_cases c4 : 0 ≤ t403
 ·rw [if_pos c4] at H
  have c4b0 : decide (0 ≤ t403) = true := decide_eq_true c4
  clear c4
  by_cases c5 : t403 < (l1.length : Int)
  ·rw [if_pos c5] at H
   have c5b0 : decide (t403 < (l1.length : Int)) = true := decide_eq_true c5
   clear c5
   simp only [Option.some.injEq, Prod.mk.injEq] at H
   obtain ⟨rfl, rfl, rfl⟩ := H
   go_enter Tryd.func50, Tryd.ntmps50
   go_wp2_with (first | ((with_reducible refine gate_callee (f := 41) rfl ?_); refine goesL_ (some 9) rfl rfl Tryd.func41 (by kernel_rfl) rfl #[.pointer (some ⟨g, 0, none⟩), .int .i64 (l1.length : Int)] rfl (by (try simp only [List.map_toArray, List.map_cons, List.map_nil]); first | done | rfl | (simp only [List.length_drop, List.length_take]; rfl)) ?_; (with_reducible refine (spec_l01Below.calls g s0_0 s0_1 s0_2 (l1.length : Int) t403 t404 t405 w0 _ ?side1 ?side2 A3.out).mono ?_); (case side1 => repeat (first | (with_reducible first | exact HI0.out | apply IsS73.alloc | apply IsS73.drewN | apply IsS73.drew | apply IsS73.set_1 | apply IsS73.set_2) | exact HI0.out)); (case side2 => repeat (first | (with_reducible first | exact HB.out | apply below_alloc | apply pw_below_drewN | apply below_drew1 | refine below_set ?_ (IsS73.ge HI0.out)) | exact HB.out)); rintro e w6 ⟨rfl, hi, hb, hk⟩; refine ⟨_, rfl, ?_⟩; have n0_ := Aside0.mk (KeepBut.trans (by repeat (first | (with_reducible first | exact HK.out | apply KeepBut.set_ | apply keep_drewN | apply keep_drew | apply keep_alloc) | exact HK.out)) hk (.inl rfl)); have n1_ := Aside0.mk (hb); have n2_ := Aside0.mk (hi); clear HK; clear HB; clear HI0; have HK := n0_; have HB := n1_; have HI0 := n2_; clear n0_ n1_ n2_; (try clear hb); (try clear hb2); (try clear hk); (try clear hi); have p406 : 0 ≤ (t403 : Int) := of_decide_eq_true (by first | (with_reducible assumption) | assumption); have q406 : t403 < (l1.length : Int) := of_decide_eq_true (by first | (with_reducible assumption) | assumption); obtain ⟨ad406, e406, hx406_0⟩ := Kd.at_string HR1.out t403 p406 q406; cases e406; replace hx406_0 := keep_cell HK.out hx406_0 (by first | (rw [add_block]; exact hf1 _ rfl (by omega)) | exact hf1 _ rfl (by omega) | exact hf1 ad406 rfl (by omega)); replace p406 := eq_true p406; replace q406 := eq_true q406))
   go_ret
   exact ⟨by first | rfl | (simp [errW_none, errW_some] <;> rfl) | (simp [*, errW_none, errW_some] <;> rfl), by repeat (first | (with_reducible first | exact HI0.out | apply IsS73.alloc | apply IsS73.drewN | apply IsS73.drew | apply IsS73.set_1 | apply IsS73.set_2) | exact HI0.out), by repeat (first | (with_reducible first | exact HB.out | apply below_alloc | apply pw_below_drewN | apply below_drew1 | refine below_set ?_ (IsS73.ge HI0.out)) | exact HB.out), by repeat (first | (with_reducible first | exact HK.out | apply KeepBut.set_ | apply keep_drewN | apply keep_drew | apply keep_alloc) | exact HK.out)⟩
  ·rw [if_neg c5] at H
   exact absurd H (by simp)
 ·rw [if_neg c4] at H
  exact absurd H (by simp)

end Go.Proofs.YtlglpolokcnlhaaDoor.MJ
