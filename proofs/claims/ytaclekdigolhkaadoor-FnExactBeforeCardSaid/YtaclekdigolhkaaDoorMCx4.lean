-- Written by this session's own program (wip/myprint.py) over the kit's print of the translation. Lean checks it.
import Derived.Test.YtaclekdigolhkaaDoorMCx0
namespace Go.Proofs.YtaclekdigolhkaaDoor.MC
open Go.RowKit Go.Proofs.YtaclekdigolhkaaDoorW.PrintWords Go.Proofs.YtaclekdigolhkaaDoorW.PrintLast Go.Proofs.YtaclekdigolhkaaDoorW.PrintMore
attribute [local go_sem] max2_int min2_int max_two min_two max_three min_three max_four min_four   -- for this text's walks alone
set_option linter.unusedVariables false
set_option linter.unusedSimpArgs false

/-! ### spec_l12Has: function 15 -/
def spec_l12Has.l0 : Nat → ByteArray → Int → Int → Option (Bool)
 | 0, _, _, _ => none
 | k + 1, x0, x1, x5 => if x5 < (x0.size : Int) then (if 0 ≤ x5 then (if (bt x0 x5) = x1 then (some true) else (spec_l12Has.l0 k x0 x1 (wrap64 (x5 + 1)))) else (none)) else (some false)
def spec_l12Has.f (k : Nat) (a0 : ByteArray) (a1 : Int) : Option (Bool) := spec_l12Has.l0 k a0 a1 0
theorem spec_l12Has.mono_l : ∀ k, (∀ y0 y1 y2, LeO (spec_l12Has.l0 k y0 y1 y2) (spec_l12Has.l0 (k + 1) y0 y1 y2))
 | 0 => fun _ _ _ r h => by simp [spec_l12Has.l0] at h
 | k + 1 => by
  have ih0 := spec_l12Has.mono_l k
  ·intro y0 y1 y2
   unfold spec_l12Has.l0
   repeat' first
   | (with_reducible exact ih0 _ _ _)
   | (with_reducible exact LeO.refl _)
   | (with_reducible exact LeO.none _)
   | (with_reducible refine LeO.ite ?_ ?_)
   | (with_reducible refine LeO.bind ?_ (fun _ => ?_))
   | exact ih0 _ _ _
   | exact LeO.none _
   | refine LeO.ite ?_ ?_
   | refine LeO.bind ?_ (fun _ => ?_)
theorem spec_l12Has.mono : ∀ a0 a1 k, LeO (spec_l12Has.f k a0 a1) (spec_l12Has.f (k + 1) a0 a1) := by
 intro a0 a1 k
 have ih0 := spec_l12Has.mono_l k
 unfold spec_l12Has.f
 repeat' first
   | (with_reducible exact ih0 _ _ _)
   | (with_reducible exact LeO.refl _)
   | (with_reducible exact LeO.none _)
   | (with_reducible refine LeO.ite ?_ ?_)
   | (with_reducible refine LeO.bind ?_ (fun _ => ?_))
   | exact ih0 _ _ _
   | exact LeO.none _
   | refine LeO.ite ?_ ?_
   | refine LeO.bind ?_ (fun _ => ?_)
set_option maxHeartbeats 8000000 in
set_option maxRecDepth 100000 in
theorem spec_l12Has.calls (k : Nat) (a0 : ByteArray) (a1 : Int) (r : Bool) (w : World) (h : spec_l12Has.f k a0 a1 = some r) :
  Calls Tryd.prog 15 #[.string a0, .int .u8 a1] w fun e w' => e = .returned (.bool r) ∧ Drawn0 w w' := by
 have H : (spec_l12Has.l0 k a0 a1 0) = some r := h
 clear h
 have H' := Aside0.mk H
 clear H
 go_enter Tryd.func15, Tryd.ntmps15
 go_wp2
 go_loopg [5] k (fun kq v5 w' => ∃ (x5_1 : Int), v5 = .int .i64 x5_1 ∧ Aside0 (spec_l12Has.l0 kq a0 a1 x5_1 = some r) ∧ Aside0 (kq ≤ k) ∧ Drawn0 w w')
 case atStart => exact ⟨(0), (by first | rfl | (simp; done) | (simp [*]; done)), H', ⟨Nat.le_refl _⟩, by repeat (first | exact Drawn0.refl _ | apply Drawn0.step)⟩
 case round =>
  clear H'
  try clear c1
  try clear p2
  obtain ⟨x5_1, rfl, HA, HK1, ⟨m1, rfl⟩⟩ := hrel
  cases gk with
  | zero => exact absurd HA.out (by simp [spec_l12Has.l0])
  | succ k1 =>
   have H := HA.out
   clear HA
   simp only [spec_l12Has.l0] at H
   by_cases c3 : x5_1 < (a0.size : Int)
   ·rw [if_pos c3] at H
    have c3b0 : decide (x5_1 < (a0.size : Int)) = true := decide_eq_true c3
    clear c3
    by_cases c4 : 0 ≤ x5_1
    ·rw [if_pos c4] at H
     have c4b0 : decide (0 ≤ x5_1) = true := decide_eq_true c4
     clear c4
     by_cases c6 : (bt a0 x5_1) = a1
     ·rw [if_pos c6] at H
      have c6b0 : ((bt a0 x5_1) == a1) = true := beq_iff_eq.mpr c6
      have c6b1 : ((bt a0 x5_1) != a1) = false := bne_eq_false_iff_eq.mpr c6
      clear c6
      obtain rfl := Option.some.inj H
      have p5 : 0 ≤ (x5_1 : Int) := of_decide_eq_true (by first | (with_reducible assumption) | assumption)
      have q5 : x5_1 < (a0.size : Int) := of_decide_eq_true (by first | (with_reducible assumption) | assumption)
      have hx5 := bt_at a0 x5_1
      replace p5 := eq_true p5
      replace q5 := eq_true q5
      go_wp2
      go_ret
      exact ⟨by first | rfl | (simp; done) | (simp [*]; done), by repeat (first | exact Drawn0.refl _ | apply Drawn0.step)⟩
     ·rw [if_neg c6] at H
      have c6b0 : ((bt a0 x5_1) == a1) = false := beq_eq_false_iff_ne.mpr c6
      have c6b1 : ((bt a0 x5_1) != a1) = true := bne_iff_ne.mpr c6
      have H' := Aside0.mk H
      clear H
      have p5 : 0 ≤ (x5_1 : Int) := of_decide_eq_true (by first | (with_reducible assumption) | assumption)
      have q5 : x5_1 < (a0.size : Int) := of_decide_eq_true (by first | (with_reducible assumption) | assumption)
      have hx5 := bt_at a0 x5_1
      replace p5 := eq_true p5
      replace q5 := eq_true q5
      go_wp2
      go_roundg k1
      case measure => have := HK1.out; omega
      case rel => exact ⟨(wrap64 (x5_1 + 1)), (by first | rfl | (simp; done) | (simp [*]; done)), H', ⟨by have := HK1.out; omega⟩, by repeat (first | exact Drawn0.refl _ | apply Drawn0.step)⟩
    ·rw [if_neg c4] at H
     exact absurd H (by simp)
   ·rw [if_neg c3] at H
    have c3b0 : decide (x5_1 < (a0.size : Int)) = false := decide_eq_false c3
    clear c3
    obtain rfl := Option.some.inj H
    go_wp2
    go_ret
    exact ⟨by first | rfl | (simp; done) | (simp [*]; done), by repeat (first | exact Drawn0.refl _ | apply Drawn0.step)⟩

/-! ### spec_l09Of: function 17 -/
def spec_l09Of.f (l0 : List Int) : Option (Int × Int × Int × Int × Int × Int × Int × Int × Int × Int × Int) := if 10 < (l0.length : Int) then some (rd l0 0, rd l0 1, rd l0 2, rd l0 3, rd l0 4, rd l0 5, rd l0 6, rd l0 7, rd l0 8, rd l0 9, rd l0 10) else none
set_option maxHeartbeats 8000000 in
set_option maxRecDepth 100000 in
theorem spec_l09Of.calls (A0 : Option Addr) (c0 : Nat) (l0 : List Int) (r1 : Int) (r2 : Int) (r3 : Int) (r4 : Int) (r5 : Int) (r6 : Int) (r7 : Int) (r8 : Int) (r9 : Int) (r10 : Int) (r11 : Int) (w : World) (hr0 : Kd.C (Kd.int .i64) w A0 l0.length l0) (hc0 : l0.length ≤ c0) (h : spec_l09Of.f l0 = some (r1, r2, r3, r4, r5, r6, r7, r8, r9, r10, r11)) :
    Calls Tryd.prog 17 #[.slice A0 l0.length c0] w fun e w' => e = .returned (.agg #[(.int .i64 r1), (.int .i64 r2), (.int .i64 r3), (.int .i64 r4), (.int .i64 r5), (.int .i64 r6), (.int .i64 r7), (.int .i64 r8), (.int .i64 r9), (.int .i64 r10), (.int .i64 r11)]) ∧ Below w.heap.size w w' := by
  have hu26 := Tryd.underlying26
  have HS : Aside0 (St w [] w []) := ⟨St.start w []⟩
  clear hc0
  unfold spec_l09Of.f at h
  by_cases c2 : 10 < (l0.length : Int)
  rotate_left
  · rw [if_neg c2] at h
    exact absurd h (by simp)
  rw [if_pos c2] at h
  simp only [Option.some.injEq, Prod.mk.injEq] at h
  obtain ⟨rfl, rfl, rfl, rfl, rfl, rfl, rfl, rfl, rfl, rfl, rfl⟩ := h
  obtain ⟨ad0, e0, y0⟩ := Kd.at_int hr0 0 (by omega) (by omega)
  cases e0
  have x0 := Aside0.mk (show w.cell? (Addr.add ad0 0) = some (.int .i64 (rd l0 0)) from y0)
  clear y0
  have b0 : decide (0 < (l0.length : Int)) = true := decide_eq_true (by omega)
  have d0 : decide (0 < l0.length) = true := decide_eq_true (by omega)
  obtain ⟨ad1, e1, y1⟩ := Kd.at_int hr0 1 (by omega) (by omega)
  cases e1
  have x1 := Aside0.mk (show w.cell? (Addr.add ad0 1) = some (.int .i64 (rd l0 1)) from y1)
  clear y1
  have b1 : decide (1 < (l0.length : Int)) = true := decide_eq_true (by omega)
  have d1 : decide (1 < l0.length) = true := decide_eq_true (by omega)
  obtain ⟨ad2, e2, y2⟩ := Kd.at_int hr0 2 (by omega) (by omega)
  cases e2
  have x2 := Aside0.mk (show w.cell? (Addr.add ad0 2) = some (.int .i64 (rd l0 2)) from y2)
  clear y2
  have b2 : decide (2 < (l0.length : Int)) = true := decide_eq_true (by omega)
  have d2 : decide (2 < l0.length) = true := decide_eq_true (by omega)
  obtain ⟨ad3, e3, y3⟩ := Kd.at_int hr0 3 (by omega) (by omega)
  cases e3
  have x3 := Aside0.mk (show w.cell? (Addr.add ad0 3) = some (.int .i64 (rd l0 3)) from y3)
  clear y3
  have b3 : decide (3 < (l0.length : Int)) = true := decide_eq_true (by omega)
  have d3 : decide (3 < l0.length) = true := decide_eq_true (by omega)
  obtain ⟨ad4, e4, y4⟩ := Kd.at_int hr0 4 (by omega) (by omega)
  cases e4
  have x4 := Aside0.mk (show w.cell? (Addr.add ad0 4) = some (.int .i64 (rd l0 4)) from y4)
  clear y4
  have b4 : decide (4 < (l0.length : Int)) = true := decide_eq_true (by omega)
  have d4 : decide (4 < l0.length) = true := decide_eq_true (by omega)
  obtain ⟨ad5, e5, y5⟩ := Kd.at_int hr0 5 (by omega) (by omega)
  cases e5
  have x5 := Aside0.mk (show w.cell? (Addr.add ad0 5) = some (.int .i64 (rd l0 5)) from y5)
  clear y5
  have b5 : decide (5 < (l0.length : Int)) = true := decide_eq_true (by omega)
  have d5 : decide (5 < l0.length) = true := decide_eq_true (by omega)
  obtain ⟨ad6, e6, y6⟩ := Kd.at_int hr0 6 (by omega) (by omega)
  cases e6
  have x6 := Aside0.mk (show w.cell? (Addr.add ad0 6) = some (.int .i64 (rd l0 6)) from y6)
  clear y6
  have b6 : decide (6 < (l0.length : Int)) = true := decide_eq_true (by omega)
  have d6 : decide (6 < l0.length) = true := decide_eq_true (by omega)
  obtain ⟨ad7, e7, y7⟩ := Kd.at_int hr0 7 (by omega) (by omega)
  cases e7
  have x7 := Aside0.mk (show w.cell? (Addr.add ad0 7) = some (.int .i64 (rd l0 7)) from y7)
  clear y7
  have b7 : decide (7 < (l0.length : Int)) = true := decide_eq_true (by omega)
  have d7 : decide (7 < l0.length) = true := decide_eq_true (by omega)
  obtain ⟨ad8, e8, y8⟩ := Kd.at_int hr0 8 (by omega) (by omega)
  cases e8
  have x8 := Aside0.mk (show w.cell? (Addr.add ad0 8) = some (.int .i64 (rd l0 8)) from y8)
  clear y8
  have b8 : decide (8 < (l0.length : Int)) = true := decide_eq_true (by omega)
  have d8 : decide (8 < l0.length) = true := decide_eq_true (by omega)
  obtain ⟨ad9, e9, y9⟩ := Kd.at_int hr0 9 (by omega) (by omega)
  cases e9
  have x9 := Aside0.mk (show w.cell? (Addr.add ad0 9) = some (.int .i64 (rd l0 9)) from y9)
  clear y9
  have b9 : decide (9 < (l0.length : Int)) = true := decide_eq_true (by omega)
  have d9 : decide (9 < l0.length) = true := decide_eq_true (by omega)
  obtain ⟨ad10, e10, y10⟩ := Kd.at_int hr0 10 (by omega) (by omega)
  cases e10
  have x10 := Aside0.mk (show w.cell? (Addr.add ad0 10) = some (.int .i64 (rd l0 10)) from y10)
  clear y10
  have b10 : decide (10 < (l0.length : Int)) = true := decide_eq_true (by omega)
  have d10 : decide (10 < l0.length) = true := decide_eq_true (by omega)
  clear c2 hr0
  go_enter Tryd.func17, Tryd.ntmps17
  go_upto_region 1 with (first | ((with_reducible refine gate_dst (N := 2) rfl ?_); refine box_event ?hg (N := 2) ?hd (cs := #[(.int .i64 0), (.int .i64 0), (.int .i64 0), (.int .i64 0), (.int .i64 0), (.int .i64 0), (.int .i64 0), (.int .i64 0), (.int .i64 0), (.int .i64 0), (.int .i64 0)]) (t := 26) ?hr ?_; (case hd => rfl); (case hg => rfl); (case hr => first | (go_simp; done) | (go_simp; rfl)); intro gr hg_ w1 hx_ hb_; have n_ : Aside0 (St w [] w1 [(gr, 26, #[(.int .i64 0), (.int .i64 0), (.int .i64 0), (.int .i64 0), (.int .i64 0), (.int .i64 0), (.int .i64 0), (.int .i64 0), (.int .i64 0), (.int .i64 0), (.int .i64 0)])]) := ⟨St.new (by repeat (first | (with_reducible exact HS.out) | refine St.drewN ?_ _ | refine St.drew ?_ | refine St.alloc ?_ _)) hg_ hx_ hb_⟩; clear HS; have HS := n_; clear n_; clear hb_ hx_ hg_))
  refine AO.phase 99 (m := 34) (top := 37) (B := AO.mkB (opsOf Tryd.f17 1)) (R := (fun a b => Below a.heap.size a b)) (φ := (fun i v w => match i with | 0 => v = .slice (some ad0) l0.length c0 | 1 => v = .pointer (some (Addr.add ad0 0)) | 2 => v = .int .i64 (rd l0 0) | 3 => v = .slice (some ad0) l0.length c0 | 4 => v = .pointer (some (Addr.add ad0 1)) | 5 => v = .int .i64 (rd l0 1) | 6 => v = .slice (some ad0) l0.length c0 | 7 => v = .pointer (some (Addr.add ad0 2)) | 8 => v = .int .i64 (rd l0 2) | 9 => v = .slice (some ad0) l0.length c0 | 10 => v = .pointer (some (Addr.add ad0 3)) | 11 => v = .int .i64 (rd l0 3) | 12 => v = .slice (some ad0) l0.length c0 | 13 => v = .pointer (some (Addr.add ad0 4)) | 14 => v = .int .i64 (rd l0 4) | 15 => v = .slice (some ad0) l0.length c0 | 16 => v = .pointer (some (Addr.add ad0 5)) | 17 => v = .int .i64 (rd l0 5) | 18 => v = .slice (some ad0) l0.length c0 | 19 => v = .pointer (some (Addr.add ad0 6)) | 20 => v = .int .i64 (rd l0 6) | 21 => v = .slice (some ad0) l0.length c0 | 22 => v = .pointer (some (Addr.add ad0 7)) | 23 => v = .int .i64 (rd l0 7) | 24 => v = .slice (some ad0) l0.length c0 | 25 => v = .pointer (some (Addr.add ad0 8)) | 26 => v = .int .i64 (rd l0 8) | 27 => v = .slice (some ad0) l0.length c0 | 28 => v = .pointer (some (Addr.add ad0 9)) | 29 => v = .int .i64 (rd l0 9) | 30 => v = .slice (some ad0) l0.length c0 | 31 => v = .pointer (some (Addr.add ad0 10)) | 32 => v = .int .i64 (rd l0 10) | 33 => v = .agg #[(.int .i64 (rd l0 0)), (.int .i64 (rd l0 1)), (.int .i64 (rd l0 2)), (.int .i64 (rd l0 3)), (.int .i64 (rd l0 4)), (.int .i64 (rd l0 5)), (.int .i64 (rd l0 6)), (.int .i64 (rd l0 7)), (.int .i64 (rd l0 8)), (.int .i64 (rd l0 9)), (.int .i64 (rd l0 10))] | _ => True)) (by kernel_rfl) (by kernel_rfl) (by decide) (by exact Nat.le_refl 37) (fun a => Below.refl _ _) (fun a b c h1 h2 => below_step h1 h2) ?_ (fun h => absurd h (by decide)) ?_ ?_
  · intro i v w w' hb h
    match i, h with
    | 0, h => exact h
    | 1, h => exact h
    | 2, h => exact h
    | 3, h => exact h
    | 4, h => exact h
    | 5, h => exact h
    | 6, h => exact h
    | 7, h => exact h
    | 8, h => exact h
    | 9, h => exact h
    | 10, h => exact h
    | 11, h => exact h
    | 12, h => exact h
    | 13, h => exact h
    | 14, h => exact h
    | 15, h => exact h
    | 16, h => exact h
    | 17, h => exact h
    | 18, h => exact h
    | 19, h => exact h
    | 20, h => exact h
    | 21, h => exact h
    | 22, h => exact h
    | 23, h => exact h
    | 24, h => exact h
    | 25, h => exact h
    | 26, h => exact h
    | 27, h => exact h
    | 28, h => exact h
    | 29, h => exact h
    | 30, h => exact h
    | 31, h => exact h
    | 32, h => exact h
    | 33, h => exact h
    | _ + 34, h => trivial
  · intro i hi
    match i, hi with
    | 0, _ => exact AO.st_move (fun w => Below.refl _ _) rfl rfl rfl rfl (fun l a w X hn => show a.eval (.tmp 0) = .slice (some ad0) l0.length c0 from (X.ev 0 (by kernel_rfl)).trans rfl)
    | 1, _ => exact AO.st_index (fun w => Below.refl _ _) rfl rfl rfl rfl Tryd.underlying41 Tryd.sizeOf3 (fun l a w X hn => ⟨ad0, l0.length, c0, _, _, X.use hn 0 3 (by decide) (by kernel_rfl), rfl, ⟨by decide, of_decide_eq_true b0⟩, rfl⟩)
    | 2, _ => exact AO.st_load (fun w => Below.refl _ _) rfl rfl rfl rfl Tryd.isAgg3 (fun l a w X hn => ⟨_, _, X.use hn 1 4 (by decide) (by kernel_rfl), (St.below (St.drew HS.out) X.base).old x0.out (by simp), rfl⟩)
    | 3, _ => exact AO.st_move (fun w => Below.refl _ _) rfl rfl rfl rfl (fun l a w X hn => show a.eval (.tmp 0) = .slice (some ad0) l0.length c0 from (X.ev 0 (by kernel_rfl)).trans rfl)
    | 4, _ => exact AO.st_index (fun w => Below.refl _ _) rfl rfl rfl rfl Tryd.underlying41 Tryd.sizeOf3 (fun l a w X hn => ⟨ad0, l0.length, c0, _, _, X.use hn 3 6 (by decide) (by kernel_rfl), rfl, ⟨by decide, of_decide_eq_true b1⟩, rfl⟩)
    | 5, _ => exact AO.st_load (fun w => Below.refl _ _) rfl rfl rfl rfl Tryd.isAgg3 (fun l a w X hn => ⟨_, _, X.use hn 4 7 (by decide) (by kernel_rfl), (St.below (St.drew HS.out) X.base).old x1.out (by simp), rfl⟩)
    | 6, _ => exact AO.st_move (fun w => Below.refl _ _) rfl rfl rfl rfl (fun l a w X hn => show a.eval (.tmp 0) = .slice (some ad0) l0.length c0 from (X.ev 0 (by kernel_rfl)).trans rfl)
    | 7, _ => exact AO.st_index (fun w => Below.refl _ _) rfl rfl rfl rfl Tryd.underlying41 Tryd.sizeOf3 (fun l a w X hn => ⟨ad0, l0.length, c0, _, _, X.use hn 6 9 (by decide) (by kernel_rfl), rfl, ⟨by decide, of_decide_eq_true b2⟩, rfl⟩)
    | 8, _ => exact AO.st_load (fun w => Below.refl _ _) rfl rfl rfl rfl Tryd.isAgg3 (fun l a w X hn => ⟨_, _, X.use hn 7 10 (by decide) (by kernel_rfl), (St.below (St.drew HS.out) X.base).old x2.out (by simp), rfl⟩)
    | 9, _ => exact AO.st_move (fun w => Below.refl _ _) rfl rfl rfl rfl (fun l a w X hn => show a.eval (.tmp 0) = .slice (some ad0) l0.length c0 from (X.ev 0 (by kernel_rfl)).trans rfl)
    | 10, _ => exact AO.st_index (fun w => Below.refl _ _) rfl rfl rfl rfl Tryd.underlying41 Tryd.sizeOf3 (fun l a w X hn => ⟨ad0, l0.length, c0, _, _, X.use hn 9 12 (by decide) (by kernel_rfl), rfl, ⟨by decide, of_decide_eq_true b3⟩, rfl⟩)
    | 11, _ => exact AO.st_load (fun w => Below.refl _ _) rfl rfl rfl rfl Tryd.isAgg3 (fun l a w X hn => ⟨_, _, X.use hn 10 13 (by decide) (by kernel_rfl), (St.below (St.drew HS.out) X.base).old x3.out (by simp), rfl⟩)
    | 12, _ => exact AO.st_move (fun w => Below.refl _ _) rfl rfl rfl rfl (fun l a w X hn => show a.eval (.tmp 0) = .slice (some ad0) l0.length c0 from (X.ev 0 (by kernel_rfl)).trans rfl)
    | 13, _ => exact AO.st_index (fun w => Below.refl _ _) rfl rfl rfl rfl Tryd.underlying41 Tryd.sizeOf3 (fun l a w X hn => ⟨ad0, l0.length, c0, _, _, X.use hn 12 15 (by decide) (by kernel_rfl), rfl, ⟨by decide, of_decide_eq_true b4⟩, rfl⟩)
    | 14, _ => exact AO.st_load (fun w => Below.refl _ _) rfl rfl rfl rfl Tryd.isAgg3 (fun l a w X hn => ⟨_, _, X.use hn 13 16 (by decide) (by kernel_rfl), (St.below (St.drew HS.out) X.base).old x4.out (by simp), rfl⟩)
    | 15, _ => exact AO.st_move (fun w => Below.refl _ _) rfl rfl rfl rfl (fun l a w X hn => show a.eval (.tmp 0) = .slice (some ad0) l0.length c0 from (X.ev 0 (by kernel_rfl)).trans rfl)
    | 16, _ => exact AO.st_index (fun w => Below.refl _ _) rfl rfl rfl rfl Tryd.underlying41 Tryd.sizeOf3 (fun l a w X hn => ⟨ad0, l0.length, c0, _, _, X.use hn 15 18 (by decide) (by kernel_rfl), rfl, ⟨by decide, of_decide_eq_true b5⟩, rfl⟩)
    | 17, _ => exact AO.st_load (fun w => Below.refl _ _) rfl rfl rfl rfl Tryd.isAgg3 (fun l a w X hn => ⟨_, _, X.use hn 16 19 (by decide) (by kernel_rfl), (St.below (St.drew HS.out) X.base).old x5.out (by simp), rfl⟩)
    | 18, _ => exact AO.st_move (fun w => Below.refl _ _) rfl rfl rfl rfl (fun l a w X hn => show a.eval (.tmp 0) = .slice (some ad0) l0.length c0 from (X.ev 0 (by kernel_rfl)).trans rfl)
    | 19, _ => exact AO.st_index (fun w => Below.refl _ _) rfl rfl rfl rfl Tryd.underlying41 Tryd.sizeOf3 (fun l a w X hn => ⟨ad0, l0.length, c0, _, _, X.use hn 18 21 (by decide) (by kernel_rfl), rfl, ⟨by decide, of_decide_eq_true b6⟩, rfl⟩)
    | 20, _ => exact AO.st_load (fun w => Below.refl _ _) rfl rfl rfl rfl Tryd.isAgg3 (fun l a w X hn => ⟨_, _, X.use hn 19 22 (by decide) (by kernel_rfl), (St.below (St.drew HS.out) X.base).old x6.out (by simp), rfl⟩)
    | 21, _ => exact AO.st_move (fun w => Below.refl _ _) rfl rfl rfl rfl (fun l a w X hn => show a.eval (.tmp 0) = .slice (some ad0) l0.length c0 from (X.ev 0 (by kernel_rfl)).trans rfl)
    | 22, _ => exact AO.st_index (fun w => Below.refl _ _) rfl rfl rfl rfl Tryd.underlying41 Tryd.sizeOf3 (fun l a w X hn => ⟨ad0, l0.length, c0, _, _, X.use hn 21 24 (by decide) (by kernel_rfl), rfl, ⟨by decide, of_decide_eq_true b7⟩, rfl⟩)
    | 23, _ => exact AO.st_load (fun w => Below.refl _ _) rfl rfl rfl rfl Tryd.isAgg3 (fun l a w X hn => ⟨_, _, X.use hn 22 25 (by decide) (by kernel_rfl), (St.below (St.drew HS.out) X.base).old x7.out (by simp), rfl⟩)
    | 24, _ => exact AO.st_move (fun w => Below.refl _ _) rfl rfl rfl rfl (fun l a w X hn => show a.eval (.tmp 0) = .slice (some ad0) l0.length c0 from (X.ev 0 (by kernel_rfl)).trans rfl)
    | 25, _ => exact AO.st_index (fun w => Below.refl _ _) rfl rfl rfl rfl Tryd.underlying41 Tryd.sizeOf3 (fun l a w X hn => ⟨ad0, l0.length, c0, _, _, X.use hn 24 27 (by decide) (by kernel_rfl), rfl, ⟨by decide, of_decide_eq_true b8⟩, rfl⟩)
    | 26, _ => exact AO.st_load (fun w => Below.refl _ _) rfl rfl rfl rfl Tryd.isAgg3 (fun l a w X hn => ⟨_, _, X.use hn 25 28 (by decide) (by kernel_rfl), (St.below (St.drew HS.out) X.base).old x8.out (by simp), rfl⟩)
    | 27, _ => exact AO.st_move (fun w => Below.refl _ _) rfl rfl rfl rfl (fun l a w X hn => show a.eval (.tmp 0) = .slice (some ad0) l0.length c0 from (X.ev 0 (by kernel_rfl)).trans rfl)
    | 28, _ => exact AO.st_index (fun w => Below.refl _ _) rfl rfl rfl rfl Tryd.underlying41 Tryd.sizeOf3 (fun l a w X hn => ⟨ad0, l0.length, c0, _, _, X.use hn 27 30 (by decide) (by kernel_rfl), rfl, ⟨by decide, of_decide_eq_true b9⟩, rfl⟩)
    | 29, _ => exact AO.st_load (fun w => Below.refl _ _) rfl rfl rfl rfl Tryd.isAgg3 (fun l a w X hn => ⟨_, _, X.use hn 28 31 (by decide) (by kernel_rfl), (St.below (St.drew HS.out) X.base).old x9.out (by simp), rfl⟩)
    | 30, _ => exact AO.st_move (fun w => Below.refl _ _) rfl rfl rfl rfl (fun l a w X hn => show a.eval (.tmp 0) = .slice (some ad0) l0.length c0 from (X.ev 0 (by kernel_rfl)).trans rfl)
    | 31, _ => exact AO.st_index (fun w => Below.refl _ _) rfl rfl rfl rfl Tryd.underlying41 Tryd.sizeOf3 (fun l a w X hn => ⟨ad0, l0.length, c0, _, _, X.use hn 30 33 (by decide) (by kernel_rfl), rfl, ⟨by decide, of_decide_eq_true b10⟩, rfl⟩)
    | 32, _ => exact AO.st_load (fun w => Below.refl _ _) rfl rfl rfl rfl Tryd.isAgg3 (fun l a w X hn => ⟨_, _, X.use hn 31 34 (by decide) (by kernel_rfl), (St.below (St.drew HS.out) X.base).old x10.out (by simp), rfl⟩)
    | 33, _ => exact AO.st_build (fun w => Below.refl _ _) rfl rfl rfl rfl (fun l a w X hn => by have e0 : a.eval (.tmp 5) = .int .i64 (rd l0 0) := X.use hn 2 5 (by decide) (by kernel_rfl); have e1 : a.eval (.tmp 8) = .int .i64 (rd l0 1) := X.use hn 5 8 (by decide) (by kernel_rfl); have e2 : a.eval (.tmp 11) = .int .i64 (rd l0 2) := X.use hn 8 11 (by decide) (by kernel_rfl); have e3 : a.eval (.tmp 14) = .int .i64 (rd l0 3) := X.use hn 11 14 (by decide) (by kernel_rfl); have e4 : a.eval (.tmp 17) = .int .i64 (rd l0 4) := X.use hn 14 17 (by decide) (by kernel_rfl); have e5 : a.eval (.tmp 20) = .int .i64 (rd l0 5) := X.use hn 17 20 (by decide) (by kernel_rfl); have e6 : a.eval (.tmp 23) = .int .i64 (rd l0 6) := X.use hn 20 23 (by decide) (by kernel_rfl); have e7 : a.eval (.tmp 26) = .int .i64 (rd l0 7) := X.use hn 23 26 (by decide) (by kernel_rfl); have e8 : a.eval (.tmp 29) = .int .i64 (rd l0 8) := X.use hn 26 29 (by decide) (by kernel_rfl); have e9 : a.eval (.tmp 32) = .int .i64 (rd l0 9) := X.use hn 29 32 (by decide) (by kernel_rfl); have e10 : a.eval (.tmp 35) = .int .i64 (rd l0 10) := X.use hn 32 35 (by decide) (by kernel_rfl); exact ⟨#[(0, .int .i64 (rd l0 0)), (1, .int .i64 (rd l0 1)), (2, .int .i64 (rd l0 2)), (3, .int .i64 (rd l0 3)), (4, .int .i64 (rd l0 4)), (5, .int .i64 (rd l0 5)), (6, .int .i64 (rd l0 6)), (7, .int .i64 (rd l0 7)), (8, .int .i64 (rd l0 8)), (9, .int .i64 (rd l0 9)), (10, .int .i64 (rd l0 10))], #[(.int .i64 (rd l0 0)), (.int .i64 (rd l0 1)), (.int .i64 (rd l0 2)), (.int .i64 (rd l0 3)), (.int .i64 (rd l0 4)), (.int .i64 (rd l0 5)), (.int .i64 (rd l0 6)), (.int .i64 (rd l0 7)), (.int .i64 (rd l0 8)), (.int .i64 (rd l0 9)), (.int .i64 (rd l0 10))], (by simp [e0, e1, e2, e3, e4, e5, e6, e7, e8, e9, e10]), (by kernel_rfl), rfl⟩)
    | n + 34, h => omega
  intro vs w5_ hB hp
  have p0 : vs 0 = .slice (some ad0) l0.length c0 := hp 0 _ (by decide) rfl
  have p1 : vs 1 = .pointer (some (Addr.add ad0 0)) := hp 1 _ (by decide) rfl
  have p2 : vs 2 = .int .i64 (rd l0 0) := hp 2 _ (by decide) rfl
  have p3 : vs 3 = .slice (some ad0) l0.length c0 := hp 3 _ (by decide) rfl
  have p4 : vs 4 = .pointer (some (Addr.add ad0 1)) := hp 4 _ (by decide) rfl
  have p5 : vs 5 = .int .i64 (rd l0 1) := hp 5 _ (by decide) rfl
  have p6 : vs 6 = .slice (some ad0) l0.length c0 := hp 6 _ (by decide) rfl
  have p7 : vs 7 = .pointer (some (Addr.add ad0 2)) := hp 7 _ (by decide) rfl
  have p8 : vs 8 = .int .i64 (rd l0 2) := hp 8 _ (by decide) rfl
  have p9 : vs 9 = .slice (some ad0) l0.length c0 := hp 9 _ (by decide) rfl
  have p10 : vs 10 = .pointer (some (Addr.add ad0 3)) := hp 10 _ (by decide) rfl
  have p11 : vs 11 = .int .i64 (rd l0 3) := hp 11 _ (by decide) rfl
  have p12 : vs 12 = .slice (some ad0) l0.length c0 := hp 12 _ (by decide) rfl
  have p13 : vs 13 = .pointer (some (Addr.add ad0 4)) := hp 13 _ (by decide) rfl
  have p14 : vs 14 = .int .i64 (rd l0 4) := hp 14 _ (by decide) rfl
  have p15 : vs 15 = .slice (some ad0) l0.length c0 := hp 15 _ (by decide) rfl
  have p16 : vs 16 = .pointer (some (Addr.add ad0 5)) := hp 16 _ (by decide) rfl
  have p17 : vs 17 = .int .i64 (rd l0 5) := hp 17 _ (by decide) rfl
  have p18 : vs 18 = .slice (some ad0) l0.length c0 := hp 18 _ (by decide) rfl
  have p19 : vs 19 = .pointer (some (Addr.add ad0 6)) := hp 19 _ (by decide) rfl
  have p20 : vs 20 = .int .i64 (rd l0 6) := hp 20 _ (by decide) rfl
  have p21 : vs 21 = .slice (some ad0) l0.length c0 := hp 21 _ (by decide) rfl
  have p22 : vs 22 = .pointer (some (Addr.add ad0 7)) := hp 22 _ (by decide) rfl
  have p23 : vs 23 = .int .i64 (rd l0 7) := hp 23 _ (by decide) rfl
  have p24 : vs 24 = .slice (some ad0) l0.length c0 := hp 24 _ (by decide) rfl
  have p25 : vs 25 = .pointer (some (Addr.add ad0 8)) := hp 25 _ (by decide) rfl
  have p26 : vs 26 = .int .i64 (rd l0 8) := hp 26 _ (by decide) rfl
  have p27 : vs 27 = .slice (some ad0) l0.length c0 := hp 27 _ (by decide) rfl
  have p28 : vs 28 = .pointer (some (Addr.add ad0 9)) := hp 28 _ (by decide) rfl
  have p29 : vs 29 = .int .i64 (rd l0 9) := hp 29 _ (by decide) rfl
  have p30 : vs 30 = .slice (some ad0) l0.length c0 := hp 30 _ (by decide) rfl
  have p31 : vs 31 = .pointer (some (Addr.add ad0 10)) := hp 31 _ (by decide) rfl
  have p32 : vs 32 = .int .i64 (rd l0 10) := hp 32 _ (by decide) rfl
  have p33 : vs 33 = .agg #[(.int .i64 (rd l0 0)), (.int .i64 (rd l0 1)), (.int .i64 (rd l0 2)), (.int .i64 (rd l0 3)), (.int .i64 (rd l0 4)), (.int .i64 (rd l0 5)), (.int .i64 (rd l0 6)), (.int .i64 (rd l0 7)), (.int .i64 (rd l0 8)), (.int .i64 (rd l0 9)), (.int .i64 (rd l0 10))] := hp 33 _ (by decide) rfl
  clear hp
  refine AO.tail_ [(3, vs 0), (4, vs 1), (5, vs 2), (6, vs 3), (7, vs 4), (8, vs 5), (9, vs 6), (10, vs 7), (11, vs 8), (12, vs 9), (13, vs 10), (14, vs 11), (15, vs 12), (16, vs 13), (17, vs 14), (18, vs 15), (19, vs 16), (20, vs 17), (21, vs 18), (22, vs 19), (23, vs 20), (24, vs 21), (25, vs 22), (26, vs 23), (27, vs 24), (28, vs 25), (29, vs 26), (30, vs 27), (31, vs 28), (32, vs 29), (33, vs 30), (34, vs 31), (35, vs 32), (36, vs 33)] (by rfl) ?_
  refine norm_ (a' := ?_) ?_ ?_
  rotate_left
  · simp only [putAll, Act.put, List.setIfInBounds_toArray, List.set_cons_zero, List.set_cons_succ, p0, p1, p2, p3, p4, p5, p6, p7, p8, p9, p10, p11, p12, p13, p14, p15, p16, p17, p18, p19, p20, p21, p22, p23, p24, p25, p26, p27, p28, p29, p30, p31, p32, p33]
    rfl
  have HS1 : Aside0 (St w [] w5_ [(gr, 26, #[(.int .i64 0), (.int .i64 0), (.int .i64 0), (.int .i64 0), (.int .i64 0), (.int .i64 0), (.int .i64 0), (.int .i64 0), (.int .i64 0), (.int .i64 0), (.int .i64 0)])]) := ⟨St.below (St.drew HS.out) hB⟩
  clear p0 p1 p2 p3 p4 p5 p6 p7 p8 p9 p10 p11 p12 p13 p14 p15 p16 p17 p18 p19 p20 p21 p22 p23 p24 p25 p26 p27 p28 p29 p30 p31 p32 p33
  refine one_ (i := 34) (N := none) #[true, true, true, true, true, true, true, true, true, true, true, true, true, true, true, true, true, true, true, true, true, true, true, true, true, true, true, true, true, true, true, true, true, true, true] rfl rfl (by kernel_rfl) (by simp) (fun K hK => ?_)
  rw [if_pos (by rfl)]
  refine wp_store_row 26 _ _ rfl gr #[(.int .i64 (rd l0 0)), (.int .i64 (rd l0 1)), (.int .i64 (rd l0 2)), (.int .i64 (rd l0 3)), (.int .i64 (rd l0 4)), (.int .i64 (rd l0 5)), (.int .i64 (rd l0 6)), (.int .i64 (rd l0 7)), (.int .i64 (rd l0 8)), (.int .i64 (rd l0 9)), (.int .i64 (rd l0 10))] rfl rfl 26 _ (HS1.out.at_ 0 rfl) (by kernel_rfl) rfl (by first | rfl | (simp; done) | (simp [Value.oneCell']; done)) ?_
  refine hK.out _ _ trivial (fun hHeld => ?_)
  clear hK K hHeld
  refine done_ (by kernel_rfl) ?_
  have hst : Aside0 (St w [] _ [(gr, 26, #[(.int .i64 (rd l0 0)), (.int .i64 (rd l0 1)), (.int .i64 (rd l0 2)), (.int .i64 (rd l0 3)), (.int .i64 (rd l0 4)), (.int .i64 (rd l0 5)), (.int .i64 (rd l0 6)), (.int .i64 (rd l0 7)), (.int .i64 (rd l0 8)), (.int .i64 (rd l0 9)), (.int .i64 (rd l0 10))])]) := ⟨HS1.out.row 0 rfl #[(.int .i64 (rd l0 0)), (.int .i64 (rd l0 1)), (.int .i64 (rd l0 2)), (.int .i64 (rd l0 3)), (.int .i64 (rd l0 4)), (.int .i64 (rd l0 5)), (.int .i64 (rd l0 6)), (.int .i64 (rd l0 7)), (.int .i64 (rd l0 8)), (.int .i64 (rd l0 9)), (.int .i64 (rd l0 10))] rfl⟩
  (try go_wp2)
  refine bodyPost_ret (results_cell_row rfl _ _ gr 26 #[(.int .i64 (rd l0 0)), (.int .i64 (rd l0 1)), (.int .i64 (rd l0 2)), (.int .i64 (rd l0 3)), (.int .i64 (rd l0 4)), (.int .i64 (rd l0 5)), (.int .i64 (rd l0 6)), (.int .i64 (rd l0 7)), (.int .i64 (rd l0 8)), (.int .i64 (rd l0 9)), (.int .i64 (rd l0 10))] (0, 0) _ rfl (hst.out.at_ 0 rfl) Tryd.underlying26 rfl (by kernel_rfl)) rfl ?_
  exact ⟨rfl, hst.out.to_below⟩

end Go.Proofs.YtaclekdigolhkaaDoor.MC
