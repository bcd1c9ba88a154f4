-- Written by this session's own program (wip/myprint.py) over the kit's print of the translation. Lean checks it.
import Derived.Test.YtnoelppkcbelcaaMSx0
import Derived.Test.YtnoelppkcbelcaaMSx5
namespace Go.Proofs.Ytnoelppkcbelcaa.MS
open Go.RowKit Go.Proofs.YtnoelppkcbelcaaW.PrintWords Go.Proofs.YtnoelppkcbelcaaW.PrintLast Go.Proofs.YtnoelppkcbelcaaW.PrintMore
attribute [local go_sem] max2_int min2_int max_two min_two max_three min_three max_four min_four   -- for this text's walks alone
set_option linter.unusedVariables false
set_option linter.unusedSimpArgs false

/-! ### spec_l16Read: function 52 -/
mutual
def spec_l16Read.j0 : Nat → List Int → Int → Int → Int → Int → Int → Int → Bool → Option (Int × Int × Bool × Int)
 | 0, _, _, _, _, _, _, _, _ => none
 | k + 1, x0, x1, x8, x9, x10, x343000, x343001, x343002 => if (Go.bits .and .u8 x8 8) = 0 then (spec_l16Read.j1 k x0 x1 x8 x9 (wrap64 (x10 + 1)) x343000 x343001 x343002) else (spec_l16Read.j1 k x0 x1 x8 x9 x10 x343000 x343001 x343002)
def spec_l16Read.j1 : Nat → List Int → Int → Int → Int → Int → Int → Int → Bool → Option (Int × Int × Bool × Int)
 | 0, _, _, _, _, _, _, _, _ => none
 | k + 1, x0, x1, x8, x9, x10, x343000, x343001, x343002 => if x8 > 15 then (spec_l16Read.j2 k x0 x1 x8 x9 x10 true x343000 x343001 x343002) else (spec_l16Read.j2 k x0 x1 x8 x9 x10 (decide ((wrap64 (x1 + x10)) > (x0.length : Int))) x343000 x343001 x343002)
def spec_l16Read.j2 : Nat → List Int → Int → Int → Int → Int → Bool → Int → Int → Bool → Option (Int × Int × Bool × Int)
 | 0, _, _, _, _, _, _, _, _, _ => none
 | k + 1, x0, x1, x8, x9, x10, x36, x343000, x343001, x343002 => if x36 = true then (some (0, 0, false, 0)) else (if (Go.bits .and .u8 x8 2) = 0 then (if (Go.bits .and .u8 x8 4) = 0 then (if 0 ≤ (wrap64 (x1 + 1)) then (if (wrap64 (x1 + 1)) < (x0.length : Int) then (if 0 ≤ (wrap64 (x1 + 2)) then (if (wrap64 (x1 + 2)) < (x0.length : Int) then ((spec_l04Word.f (rd x0 (wrap64 (x1 + 1))) (rd x0 (wrap64 (x1 + 2)))).bind fun t348 => (if (Go.bits .and .u8 x8 8) = 0 then (if 0 ≤ (wrap64 (x1 + 3)) then (if (wrap64 (x1 + 3)) < (x0.length : Int) then (some (IntKind.u16.wrap (t348), rd x0 (wrap64 (x1 + 3)), ((Go.bits .and .u8 x8 1) != 0), x10)) else (none)) else (none)) else (some (IntKind.u16.wrap (t348), x343001, ((Go.bits .and .u8 x8 1) != 0), x10)))) else (none)) else (none)) else (none)) else (none)) else (if 0 ≤ (wrap64 (x1 + 1)) then (if (wrap64 (x1 + 1)) < (x0.length : Int) then (if (Go.bits .and .u8 x8 8) = 0 then (if 0 ≤ (wrap64 (x1 + 2)) then (if (wrap64 (x1 + 2)) < (x0.length : Int) then (some (IntKind.u16.wrap ((IntKind.u16.wrap ((IntKind.u16.wrap (Int.tdiv x343000 256)) * 256)) + (IntKind.u16.wrap (rd x0 (wrap64 (x1 + 1))))), rd x0 (wrap64 (x1 + 2)), ((Go.bits .and .u8 x8 1) != 0), x10)) else (none)) else (none)) else (some (IntKind.u16.wrap ((IntKind.u16.wrap ((IntKind.u16.wrap (Int.tdiv x343000 256)) * 256)) + (IntKind.u16.wrap (rd x0 (wrap64 (x1 + 1))))), x343001, ((Go.bits .and .u8 x8 1) != 0), x10))) else (none)) else (none))) else (if (Go.bits .and .u8 x8 8) = 0 then (if 0 ≤ (wrap64 (x1 + x9)) then (if (wrap64 (x1 + x9)) < (x0.length : Int) then (some (IntKind.u16.wrap (x343000 + 1), rd x0 (wrap64 (x1 + x9)), ((Go.bits .and .u8 x8 1) != 0), x10)) else (none)) else (none)) else (some (IntKind.u16.wrap (x343000 + 1), x343001, ((Go.bits .and .u8 x8 1) != 0), x10))))
end
def spec_l16Read.f (k : Nat) (l0 : List Int) (a1 : Int) (a2_0 : Int) (a2_1 : Int) (a2_2 : Bool) : Option (Int × Int × Bool × Int) := if 0 ≤ a1 then (if a1 < (l0.length : Int) then (if (Go.bits .and .u8 (rd l0 a1) 2) = 0 then (if (Go.bits .and .u8 (rd l0 a1) 4) = 0 then (spec_l16Read.j0 k l0 a1 (rd l0 a1) 1 3 a2_0 a2_1 a2_2) else (spec_l16Read.j0 k l0 a1 (rd l0 a1) 1 2 a2_0 a2_1 a2_2)) else (spec_l16Read.j0 k l0 a1 (rd l0 a1) 1 1 a2_0 a2_1 a2_2)) else (none)) else (none)
theorem spec_l16Read.mono_l : ∀ k, (∀ y0 y1 y2 y3 y4 y5 y6 y7, LeO (spec_l16Read.j0 k y0 y1 y2 y3 y4 y5 y6 y7) (spec_l16Read.j0 (k + 1) y0 y1 y2 y3 y4 y5 y6 y7)) ∧ (∀ y0 y1 y2 y3 y4 y5 y6 y7, LeO (spec_l16Read.j1 k y0 y1 y2 y3 y4 y5 y6 y7) (spec_l16Read.j1 (k + 1) y0 y1 y2 y3 y4 y5 y6 y7)) ∧ (∀ y0 y1 y2 y3 y4 y5 y6 y7 y8, LeO (spec_l16Read.j2 k y0 y1 y2 y3 y4 y5 y6 y7 y8) (spec_l16Read.j2 (k + 1) y0 y1 y2 y3 y4 y5 y6 y7 y8))
 | 0 => ⟨fun _ _ _ _ _ _ _ _ r h => by simp [spec_l16Read.j0] at h, fun _ _ _ _ _ _ _ _ r h => by simp [spec_l16Read.j1] at h, fun _ _ _ _ _ _ _ _ _ r h => by simp [spec_l16Read.j2] at h⟩
 | k + 1 => by
  obtain ⟨ih0, ih1, ih2⟩ := spec_l16Read.mono_l k
  refine ⟨?_, ?_, ?_⟩
  ·intro y0 y1 y2 y3 y4 y5 y6 y7
   unfold spec_l16Read.j0
   repeat' first
   | (with_reducible exact ih0 _ _ _ _ _ _ _ _)
   | (with_reducible exact ih1 _ _ _ _ _ _ _ _)
   | (with_reducible exact ih2 _ _ _ _ _ _ _ _ _)
   | (with_reducible exact LeO.refl _)
   | (with_reducible exact LeO.none _)
   | (with_reducible refine LeO.ite ?_ ?_)
   | (with_reducible refine LeO.bind ?_ (fun _ => ?_))
   | exact ih0 _ _ _ _ _ _ _ _
   | exact ih1 _ _ _ _ _ _ _ _
   | exact ih2 _ _ _ _ _ _ _ _ _
   | exact LeO.none _
   | refine LeO.ite ?_ ?_
   | refine LeO.bind ?_ (fun _ => ?_)
  ·intro y0 y1 y2 y3 y4 y5 y6 y7
   unfold spec_l16Read.j1
   repeat' first
   | (with_reducible exact ih0 _ _ _ _ _ _ _ _)
   | (with_reducible exact ih1 _ _ _ _ _ _ _ _)
   | (with_reducible exact ih2 _ _ _ _ _ _ _ _ _)
   | (with_reducible exact LeO.refl _)
   | (with_reducible exact LeO.none _)
   | (with_reducible refine LeO.ite ?_ ?_)
   | (with_reducible refine LeO.bind ?_ (fun _ => ?_))
   | exact ih0 _ _ _ _ _ _ _ _
   | exact ih1 _ _ _ _ _ _ _ _
   | exact ih2 _ _ _ _ _ _ _ _ _
   | exact LeO.none _
   | refine LeO.ite ?_ ?_
   | refine LeO.bind ?_ (fun _ => ?_)
  ·intro y0 y1 y2 y3 y4 y5 y6 y7 y8
   unfold spec_l16Read.j2
   repeat' first
   | (with_reducible exact ih0 _ _ _ _ _ _ _ _)
   | (with_reducible exact ih1 _ _ _ _ _ _ _ _)
   | (with_reducible exact ih2 _ _ _ _ _ _ _ _ _)
   | (with_reducible exact LeO.refl _)
   | (with_reducible exact LeO.none _)
   | (with_reducible refine LeO.ite ?_ ?_)
   | (with_reducible refine LeO.bind ?_ (fun _ => ?_))
   | exact ih0 _ _ _ _ _ _ _ _
   | exact ih1 _ _ _ _ _ _ _ _
   | exact ih2 _ _ _ _ _ _ _ _ _
   | exact LeO.none _
   | refine LeO.ite ?_ ?_
   | refine LeO.bind ?_ (fun _ => ?_)
theorem spec_l16Read.mono : ∀ a0 a1 a2 a3 a4 k, LeO (spec_l16Read.f k a0 a1 a2 a3 a4) (spec_l16Read.f (k + 1) a0 a1 a2 a3 a4) := by
 intro a0 a1 a2 a3 a4 k
 obtain ⟨ih0, ih1, ih2⟩ := spec_l16Read.mono_l k
 unfold spec_l16Read.f
 repeat' first
   | (with_reducible exact ih0 _ _ _ _ _ _ _ _)
   | (with_reducible exact ih1 _ _ _ _ _ _ _ _)
   | (with_reducible exact ih2 _ _ _ _ _ _ _ _ _)
   | (with_reducible exact LeO.refl _)
   | (with_reducible exact LeO.none _)
   | (with_reducible refine LeO.ite ?_ ?_)
   | (with_reducible refine LeO.bind ?_ (fun _ => ?_))
   | exact ih0 _ _ _ _ _ _ _ _
   | exact ih1 _ _ _ _ _ _ _ _
   | exact ih2 _ _ _ _ _ _ _ _ _
   | exact LeO.none _
   | refine LeO.ite ?_ ?_
   | refine LeO.bind ?_ (fun _ => ?_)
def spec_l16Read.T13 : Bool × List (List Nat × List Nat) := (true, [([], []), ([], []), ([1], [1]), ([0, 2], [0, 2]), ([3], [3]), ([], []), ([], []), ([6], [6]), ([5, 7], [5, 7]), ([8], [8]), ([4, 9], [4, 9]), ([10], [10]), ([0, 1, 2, 3, 4, 5, 6, 7, 8, 9, 10, 11], []), ([12, 11, 10, 0, 1, 2, 3, 4, 5, 6, 7, 8, 9, 10, 11], [11, 12])])
def spec_l16Read.B13 : List Nat := [0, 0, 2, 7, 15, 0, 0, 64, 224, 480, 1023, 2047, 4095, 8191]
theorem spec_l16Read.tab13 : rtab .any (opsOf Try.f52 13) = spec_l16Read.T13 := by kernel_rfl
theorem spec_l16Read.bits13 : waitsOk spec_l16Read.T13.2 spec_l16Read.B13 = true := by kernel_rfl
def spec_l16Read.T17 : Bool × List (List Nat × List Nat) := (true, [([], []), ([0], [0]), ([1], [1]), ([2], [2]), ([], []), ([], []), ([5], [5]), ([4, 6], [4, 6]), ([7], [7]), ([8], [8]), ([3, 9], [3, 9]), ([0, 1, 2, 3, 4, 5, 6, 7, 8, 9, 10], []), ([11, 10, 0, 1, 2, 3, 4, 5, 6, 7, 8, 9, 10], [10, 11])])
def spec_l16Read.B17 : List Nat := [0, 1, 3, 7, 0, 0, 32, 112, 240, 496, 1023, 2047, 4095]
theorem spec_l16Read.tab17 : rtab .any (opsOf Try.f52 17) = spec_l16Read.T17 := by kernel_rfl
theorem spec_l16Read.bits17 : waitsOk spec_l16Read.T17.2 spec_l16Read.B17 = true := by kernel_rfl
set_option maxHeartbeats 8000000 in
set_option maxRecDepth 100000 in
theorem spec_l16Read.calls (k : Nat) (A0 : Option Addr) (c0 : Nat) (l0 : List Int) (a1 : Int) (a2_0 : Int) (a2_1 : Int) (a2_2 : Bool) (r1 : Int) (r2 : Int) (r3 : Bool) (r4 : Int) (w : World) (hr0 : Kd.C (Kd.int .u8) w A0 l0.length l0) (hc0 : l0.length ≤ c0) (h : spec_l16Read.f k l0 a1 a2_0 a2_1 a2_2 = some (r1, r2, r3, r4)) :
  Calls Try.prog 52 #[.slice A0 l0.length c0, .int .i64 a1, .agg #[.int .u16 a2_0, .int .u8 a2_1, .bool a2_2]] w fun e w' => e = .returned (.tuple #[.agg #[.int .u16 r1, .int .u8 r2, .bool r3], .int .i64 r4]) ∧ Below w.heap.size w w' := by
 have hu32 := Try.underlying32
 have HR0 := Aside0.mk hr0
 have HC0 := Aside0.mk hc0
 clear hr0 hc0
 have HB := Aside0.mk (Below.refl w.heap.size w)
 have H : (if 0 ≤ a1 then (if a1 < (l0.length : Int) then (if (Go.bits .and .u8 (rd l0 a1) 2) = 0 then (if (Go.bits .and .u8 (rd l0 a1) 4) = 0 then (spec_l16Read.j0 k l0 a1 (rd l0 a1) 1 3 a2_0 a2_1 a2_2) else (spec_l16Read.j0 k l0 a1 (rd l0 a1) 1 2 a2_0 a2_1 a2_2)) else (spec_l16Read.j0 k l0 a1 (rd l0 a1) 1 1 a2_0 a2_1 a2_2)) else (none)) else (none)) = some (r1, r2, r3, r4) := h
 clear h
 by_cases c4 : 0 ≤ a1
 ·rw [if_pos c4] at H
  have c4b0 : decide (0 ≤ a1) = true := decide_eq_true c4
  clear c4
  by_cases c5 : a1 < (l0.length : Int)
  ·rw [if_pos c5] at H
   have c5b0 : decide (a1 < (l0.length : Int)) = true := decide_eq_true c5; clear c5; have HC6 := Aside0.mk H; clear H
   go_enter Try.func52, Try.ntmps52
   go_upto_if 18 with (first | ((with_reducible refine gate_dst (N := 5) rfl ?_); (try (refine gate_guard (by rfl) ?_; dsimp only)); refine box_event ?hg (N := 5) ?hd (cs := #[.int .u16 a2_0, .int .u8 a2_1, .bool a2_2]) (t := 32) ?hr ?_; (case hd => rfl); (case hg => rfl); (case hr => first | (go_simp; done) | (go_simp; rfl)); intro gb342 hg w7 hbox hb; have n0_ := Aside0.mk (below_step (by repeat (first | (with_reducible first | exact HB.out | apply below_alloc | apply pw_below_drewN | apply below_drew1) | exact HB.out)) hb); have n1_ := Aside0.mk (hbox); have n2_ := Aside0.mk ((by rw [hg]; exact (below_size (by repeat (first | (with_reducible first | exact HB.out | apply below_alloc | apply pw_below_drewN | apply below_drew1) | exact HB.out))) : w.heap.size ≤ gb342)); have n3_ := Aside0.mk ((by rw [hg]; exact (below_size (by repeat (first | (with_reducible first | exact HB.out | apply below_alloc | apply pw_below_drewN | apply below_drew1) | exact HB.out))) : w.heap.size ≤ gb342)); clear HB; have HB := n0_; have BK342 := n1_; have GW342 := n2_; have GE342 := n3_; clear n0_ n1_ n2_ n3_; clear hb hbox hg) | ((with_reducible refine gate_dst (N := 6) rfl ?_); (try (refine gate_guard (by rfl) ?_; dsimp only)); refine box_event ?hg (N := 6) ?hd (cs := #[.int .u16 0, .int .u8 0, .bool false]) (t := 32) ?hr ?_; (case hd => rfl); (case hg => rfl); (case hr => first | (go_simp; done) | (go_simp; rfl)); intro gb343 hg w8 hbox hb; have n0_ := Aside0.mk (blk_below (g := gb342) (o := .cells #[.int .u16 a2_0, .int .u8 a2_1, .bool a2_2] 32 (0, 0)) (by (with_reducible repeat (first | refine blk_drewN ?_ _ | refine blk_drew ?_ | refine blk_alloc ?_ _)); exact BK342.out) hb); have n1_ := Aside0.mk (below_step (by repeat (first | (with_reducible first | exact HB.out | apply below_alloc | apply pw_below_drewN | apply below_drew1 | refine below_set ?_ GE342.out) | exact HB.out)) hb); have n2_ := Aside0.mk (hbox); have n3_ := Aside0.mk ((by rw [hg]; exact (below_size (by repeat (first | (with_reducible first | exact HB.out | apply below_alloc | apply pw_below_drewN | apply below_drew1 | refine below_set ?_ GE342.out) | exact HB.out))) : w.heap.size ≤ gb343)); have n4_ := Aside0.mk ((by rw [hg]; exact (below_size (by repeat (first | (with_reducible first | exact HB.out | apply below_alloc | apply pw_below_drewN | apply below_drew1 | refine below_set ?_ GE342.out) | exact HB.out))) : w.heap.size ≤ gb343)); have n5_ := Aside0.mk ((by rw [hg]; exact Nat.ne_of_lt (blk_lt (g := gb342) (o := .cells #[.int .u16 a2_0, .int .u8 a2_1, .bool a2_2] 32 (0, 0)) (by (with_reducible repeat (first | refine blk_drewN ?_ _ | refine blk_drew ?_ | refine blk_alloc ?_ _)); exact BK342.out)) : gb342 ≠ gb343)); have n6_ := Aside0.mk ((by rw [hg]; exact Nat.ne_of_gt (blk_lt (g := gb342) (o := .cells #[.int .u16 a2_0, .int .u8 a2_1, .bool a2_2] 32 (0, 0)) (by (with_reducible repeat (first | refine blk_drewN ?_ _ | refine blk_drew ?_ | refine blk_alloc ?_ _)); exact BK342.out)) : gb343 ≠ gb342)); clear BK342; clear HB; have BK342 := n0_; have HB := n1_; have BK343 := n2_; have GW343 := n3_; have GE343 := n4_; have NB342_343 := n5_; have NB343_342 := n6_; clear n0_ n1_ n2_ n3_ n4_ n5_ n6_; clear hb hbox hg; have p344 : 0 ≤ (a1 : Int) := of_decide_eq_true (by first | (with_reducible assumption) | assumption); have q344 : a1 < (l0.length : Int) := of_decide_eq_true (by first | (with_reducible assumption) | assumption); obtain ⟨ad344, e344, hx344_0⟩ := Kd.at_int HR0.out a1 p344 q344; cases e344; replace hx344_0 := (HB.out.cell (World.block_lt_of_cell? w _ hx344_0)).trans hx344_0; replace p344 := eq_true p344; replace q344 := eq_true q344))
   (try simp only [Act.put, List.setIfInBounds_toArray, List.set_cons_zero, List.set_cons_succ])
   go_cut [10] (fun v10 wc => ∃ (kq : Nat) (x10_5 : Int), v10 = .int .i64 x10_5 ∧ Aside0 (spec_l16Read.j0 kq l0 a1 (rd l0 a1) 1 x10_5 a2_0 a2_1 a2_2 = some (r1, r2, r3, r4)) ∧ Aside0 (kq ≤ k) ∧ Aside0 (wc.heap[gb342]? = some (.cells #[.int .u16 a2_0, .int .u8 a2_1, .bool a2_2] 32 (0, 0))) ∧ Aside0 (wc.heap[gb343]? = some (.cells #[.int .u16 0, .int .u8 0, .bool false] 32 (0, 0))) ∧ Aside0 (Below w.heap.size w wc))
   case first =>
    have H := HC6.out; clear HC6
    by_cases c9 : (Go.bits .and .u8 (rd l0 a1) 2) = 0
    ·rw [if_pos c9] at H
     have c9b0 : ((Go.bits .and .u8 (rd l0 a1) 2) == 0) = true := beq_iff_eq.mpr c9; have c9b1 : ((Go.bits .and .u8 (rd l0 a1) 2) != 0) = false := bne_eq_false_iff_eq.mpr c9; clear c9; (first | rw [c9b0] | (simp only [i64_w, i32_w]; rw [c9b0]) | skip)
     by_cases c10 : (Go.bits .and .u8 (rd l0 a1) 4) = 0
     ·rw [if_pos c10] at H
      have c10b0 : ((Go.bits .and .u8 (rd l0 a1) 4) == 0) = true := beq_iff_eq.mpr c10; have c10b1 : ((Go.bits .and .u8 (rd l0 a1) 4) != 0) = false := bne_eq_false_iff_eq.mpr c10; clear c10; have H' := Aside0.mk H; clear H
      go_wp2
      go_meet
      case rel => exact ⟨_, (3), (by first | rfl | (simp; done) | (simp [*]; done)), H', ⟨by first | omega | exact Nat.le_refl _⟩, ⟨by (with_reducible repeat (first | refine blk_drewN ?_ _ | refine blk_drew ?_ | refine blk_alloc ?_ _)); exact BK342.out⟩, ⟨by (with_reducible repeat (first | refine blk_drewN ?_ _ | refine blk_drew ?_ | refine blk_alloc ?_ _)); exact BK343.out⟩, ⟨by repeat (first | (with_reducible first | exact HB.out | apply below_alloc | apply pw_below_drewN | apply below_drew1 | refine below_set ?_ GE342.out | refine below_set ?_ GE343.out) | exact HB.out)⟩⟩
     ·rw [if_neg c10] at H
      have c10b0 : ((Go.bits .and .u8 (rd l0 a1) 4) == 0) = false := beq_eq_false_iff_ne.mpr c10; have c10b1 : ((Go.bits .and .u8 (rd l0 a1) 4) != 0) = true := bne_iff_ne.mpr c10; have H' := Aside0.mk H; clear H
      go_wp2
      go_meet
      case rel => exact ⟨_, (2), (by first | rfl | (simp; done) | (simp [*]; done)), H', ⟨by first | omega | exact Nat.le_refl _⟩, ⟨by (with_reducible repeat (first | refine blk_drewN ?_ _ | refine blk_drew ?_ | refine blk_alloc ?_ _)); exact BK342.out⟩, ⟨by (with_reducible repeat (first | refine blk_drewN ?_ _ | refine blk_drew ?_ | refine blk_alloc ?_ _)); exact BK343.out⟩, ⟨by repeat (first | (with_reducible first | exact HB.out | apply below_alloc | apply pw_below_drewN | apply below_drew1 | refine below_set ?_ GE342.out | refine below_set ?_ GE343.out) | exact HB.out)⟩⟩
    ·rw [if_neg c9] at H
     have c9b0 : ((Go.bits .and .u8 (rd l0 a1) 2) == 0) = false := beq_eq_false_iff_ne.mpr c9; have c9b1 : ((Go.bits .and .u8 (rd l0 a1) 2) != 0) = true := bne_iff_ne.mpr c9; (first | rw [c9b0] | (simp only [i64_w, i32_w]; rw [c9b0]) | skip); have H' := Aside0.mk H; clear H
     go_wp2
     go_meet
     case rel => exact ⟨_, (1), (by first | rfl | (simp; done) | (simp [*]; done)), H', ⟨by first | omega | exact Nat.le_refl _⟩, ⟨by (with_reducible repeat (first | refine blk_drewN ?_ _ | refine blk_drew ?_ | refine blk_alloc ?_ _)); exact BK342.out⟩, ⟨by (with_reducible repeat (first | refine blk_drewN ?_ _ | refine blk_drew ?_ | refine blk_alloc ?_ _)); exact BK343.out⟩, ⟨by repeat (first | (with_reducible first | exact HB.out | apply below_alloc | apply pw_below_drewN | apply below_drew1 | refine below_set ?_ GE342.out | refine below_set ?_ GE343.out) | exact HB.out)⟩⟩
   case rest =>
    clear HC6
    try clear c1
    try clear p2
    try clear q3
    try clear hx3
    try clear p344
    try clear c4
    try clear c4b0
    try clear c5
    try clear c5b0
    try clear c9
    try clear c9b0
    try clear c9b1
    try clear c10
    try clear c10b0
    try clear c10b1
    try clear hx344_0
    try clear p344
    try clear q344
    obtain ⟨kq, x10_5, rfl, HA, HJ5, BK342, BK343, HB⟩ := hcut
    cases kq with
    | zero => exact absurd HA.out (by simp [spec_l16Read.j0])
    | succ kj5 =>
     have H := HA.out; clear HA; simp only [spec_l16Read.j0] at H; have HC11 := Aside0.mk H; clear H
     go_upto_if 24 with (fail)
     go_cut [10] (fun v10 wc => ∃ (kq : Nat) (x10_10 : Int), v10 = .int .i64 x10_10 ∧ Aside0 (spec_l16Read.j1 kq l0 a1 (rd l0 a1) 1 x10_10 a2_0 a2_1 a2_2 = some (r1, r2, r3, r4)) ∧ Aside0 (kq ≤ kj5) ∧ Aside0 (wc.heap[gb342]? = some (.cells #[.int .u16 a2_0, .int .u8 a2_1, .bool a2_2] 32 (0, 0))) ∧ Aside0 (wc.heap[gb343]? = some (.cells #[.int .u16 0, .int .u8 0, .bool false] 32 (0, 0))) ∧ Aside0 (Below w.heap.size w wc))
     case first =>
      have H := HC11.out; clear HC11
      by_cases c12 : (Go.bits .and .u8 (rd l0 a1) 8) = 0
      ·rw [if_pos c12] at H
       have c12b0 : ((Go.bits .and .u8 (rd l0 a1) 8) == 0) = true := beq_iff_eq.mpr c12; have c12b1 : ((Go.bits .and .u8 (rd l0 a1) 8) != 0) = false := bne_eq_false_iff_eq.mpr c12; clear c12; (first | rw [c12b0] | (simp only [i64_w, i32_w]; rw [c12b0]) | skip); have H' := Aside0.mk H; clear H
       go_wp2
       go_meet
       case rel => exact ⟨_, (wrap64 (x10_5 + 1)), (by first | rfl | (simp; done) | (simp [*]; done)), H', ⟨by have := HJ5.out; first | omega | exact Nat.le_refl _⟩, ⟨by (with_reducible repeat (first | refine blk_drewN ?_ _ | refine blk_drew ?_ | refine blk_alloc ?_ _)); exact BK342.out⟩, ⟨by (with_reducible repeat (first | refine blk_drewN ?_ _ | refine blk_drew ?_ | refine blk_alloc ?_ _)); exact BK343.out⟩, ⟨by repeat (first | (with_reducible first | exact HB.out | apply below_alloc | apply pw_below_drewN | apply below_drew1 | refine below_set ?_ GE342.out | refine below_set ?_ GE343.out) | exact HB.out)⟩⟩
      ·rw [if_neg c12] at H
       have c12b0 : ((Go.bits .and .u8 (rd l0 a1) 8) == 0) = false := beq_eq_false_iff_ne.mpr c12; have c12b1 : ((Go.bits .and .u8 (rd l0 a1) 8) != 0) = true := bne_iff_ne.mpr c12; (first | rw [c12b0] | (simp only [i64_w, i32_w]; rw [c12b0]) | skip); have H' := Aside0.mk H; clear H
       go_wp2
       go_meet
       case rel => exact ⟨_, (x10_5), (by first | rfl | (simp; done) | (simp [*]; done)), H', ⟨by have := HJ5.out; first | omega | exact Nat.le_refl _⟩, ⟨by (with_reducible repeat (first | refine blk_drewN ?_ _ | refine blk_drew ?_ | refine blk_alloc ?_ _)); exact BK342.out⟩, ⟨by (with_reducible repeat (first | refine blk_drewN ?_ _ | refine blk_drew ?_ | refine blk_alloc ?_ _)); exact BK343.out⟩, ⟨by repeat (first | (with_reducible first | exact HB.out | apply below_alloc | apply pw_below_drewN | apply below_drew1 | refine below_set ?_ GE342.out | refine below_set ?_ GE343.out) | exact HB.out)⟩⟩
     case rest =>
      clear HC11
      try clear c1
      try clear p2
      try clear q3
      try clear hx3
      try clear p344
      try clear c4
      try clear c4b0
      try clear c5
      try clear c5b0
      try clear p6
      try clear c9
      try clear c9b0
      try clear c9b1
      try clear c10
      try clear c10b0
      try clear c10b1
      try clear c12
      try clear c12b0
      try clear c12b1
      try clear hx344_0
      try clear p2
      try clear p3
      try clear p344
      try clear q3
      try clear q344
      obtain ⟨kq, x10_10, rfl, HA, HJ10, BK342, BK343, HB⟩ := hcut
      cases kq with
      | zero => exact absurd HA.out (by simp [spec_l16Read.j1])
      | succ kj10 =>
       have H := HA.out; clear HA; simp only [spec_l16Read.j1] at H; have HC13 := Aside0.mk H; clear H
       go_upto_region 10 with (fail)
       go_cut [36] (fun v36 wc => ∃ (kq : Nat) (x36_12 : Bool), v36 = .bool x36_12 ∧ Aside0 (spec_l16Read.j2 kq l0 a1 (rd l0 a1) 1 x10_10 x36_12 a2_0 a2_1 a2_2 = some (r1, r2, r3, r4)) ∧ Aside0 (kq ≤ kj10) ∧ Aside0 (wc.heap[gb342]? = some (.cells #[.int .u16 a2_0, .int .u8 a2_1, .bool a2_2] 32 (0, 0))) ∧ Aside0 (wc.heap[gb343]? = some (.cells #[.int .u16 0, .int .u8 0, .bool false] 32 (0, 0))) ∧ Aside0 (Below w.heap.size w wc))
       case first =>
        have H := HC13.out; clear HC13
        by_cases c14 : (rd l0 a1) > 15
        ·rw [if_pos c14] at H
         have c14b0 : decide (15 < (rd l0 a1)) = true := decide_eq_true c14; clear c14; (first | rw [c14b0] | (simp only [i64_w, i32_w]; rw [c14b0]) | skip); have H' := Aside0.mk H; clear H
         go_wp2
         go_meet
         case rel => exact ⟨_, (true), (by first | rfl | (simp; done) | (simp [*]; done)), H', ⟨by have := HJ5.out; have := HJ10.out; first | omega | exact Nat.le_refl _⟩, ⟨by (with_reducible repeat (first | refine blk_drewN ?_ _ | refine blk_drew ?_ | refine blk_alloc ?_ _)); exact BK342.out⟩, ⟨by (with_reducible repeat (first | refine blk_drewN ?_ _ | refine blk_drew ?_ | refine blk_alloc ?_ _)); exact BK343.out⟩, ⟨by repeat (first | (with_reducible first | exact HB.out | apply below_alloc | apply pw_below_drewN | apply below_drew1 | refine below_set ?_ GE342.out | refine below_set ?_ GE343.out) | exact HB.out)⟩⟩
        ·rw [if_neg c14] at H
         have c14b0 : decide (15 < (rd l0 a1)) = false := decide_eq_false c14; clear c14; (first | rw [c14b0] | (simp only [i64_w, i32_w]; rw [c14b0]) | skip); have H' := Aside0.mk H; clear H
         go_wp2
         go_meet
         case rel => exact ⟨_, (decide ((wrap64 (a1 + x10_10)) > (l0.length : Int))), (by first | rfl | (simp; done) | (simp [*]; done)), H', ⟨by have := HJ5.out; have := HJ10.out; first | omega | exact Nat.le_refl _⟩, ⟨by (with_reducible repeat (first | refine blk_drewN ?_ _ | refine blk_drew ?_ | refine blk_alloc ?_ _)); exact BK342.out⟩, ⟨by (with_reducible repeat (first | refine blk_drewN ?_ _ | refine blk_drew ?_ | refine blk_alloc ?_ _)); exact BK343.out⟩, ⟨by repeat (first | (with_reducible first | exact HB.out | apply below_alloc | apply pw_below_drewN | apply below_drew1 | refine below_set ?_ GE342.out | refine below_set ?_ GE343.out) | exact HB.out)⟩⟩
       case rest =>
        clear HC13
        try clear c1
        try clear p2
        try clear q3
        try clear hx3
        try clear p344
        try clear c4
        try clear c4b0
        try clear c5
        try clear c5b0
        try clear p6
        try clear c9
        try clear c9b0
        try clear c9b1
        try clear c10
        try clear c10b0
        try clear c10b1
        try clear c12
        try clear c12b0
        try clear c12b1
        try clear c14
        try clear c14b0
        try clear hx344_0
        try clear p2
        try clear p3
        try clear p344
        try clear p6
        try clear q3
        try clear q344
        obtain ⟨kq, x36_12, rfl, HA, HJ12, BK342, BK343, HB⟩ := hcut
        cases kq with
        | zero => exact absurd HA.out (by simp [spec_l16Read.j2])
        | succ kj12 =>
         have H := HA.out; clear HA; simp only [spec_l16Read.j2] at H
         by_cases c15 : x36_12 = true
         ·subst c15
          have H1 : (some (0, 0, false, 0)) = some (r1, r2, r3, r4) := by rw [if_pos rfl] at H; exact H
          clear H; have H := H1; clear H1; simp only [Option.some.injEq, Prod.mk.injEq] at H; obtain ⟨rfl, rfl, rfl, rfl⟩ := H; have hnb16 := NB343_342.out; have hnc16 := NB342_343.out; have hcz17_0 : wc.cell? ⟨gb343, 0, none⟩ = some (.int .u16 0) := (blk_cell BK343.out 0).trans rfl; have hcz17_1 : wc.cell? ⟨gb343, 1, none⟩ = some (.int .u8 0) := (blk_cell BK343.out 1).trans rfl; have hcz17_2 : wc.cell? ⟨gb343, 2, none⟩ = some (.bool false) := (blk_cell BK343.out 2).trans rfl; have hfz17_0 := blk_frozen BK343.out 0; have hfz17_1 := blk_frozen BK343.out 1; have hfz17_2 := blk_frozen BK343.out 2
          go_wp2
          refine bodyPost_ret (results_ct rfl _ _ gb343 32 #[.int .u16 0, .int .u8 0, .bool false] (0, 0) _ rfl (by (with_reducible repeat (first | refine blk_drewN ?_ _ | refine blk_drew ?_ | refine blk_alloc ?_ _)); refine blk_put (cs := #[.int .u16 0, .int .u8 0, .bool false]) ?_ 2 _ rfl; (with_reducible repeat (first | refine blk_drewN ?_ _ | refine blk_drew ?_ | refine blk_alloc ?_ _)); refine blk_put (cs := #[.int .u16 0, .int .u8 0, .bool false]) ?_ 1 _ rfl; (with_reducible repeat (first | refine blk_drewN ?_ _ | refine blk_drew ?_ | refine blk_alloc ?_ _)); refine blk_put (cs := #[.int .u16 0, .int .u8 0, .bool false]) ?_ 0 _ rfl; (with_reducible repeat (first | refine blk_drewN ?_ _ | refine blk_drew ?_ | refine blk_alloc ?_ _)); exact BK343.out) Try.underlying32 rfl (by kernel_rfl)) rfl ?_; exact ⟨by first | rfl | (simp [errW_none, errW_some] <;> rfl) | (simp [*, errW_none, errW_some] <;> rfl), by repeat (first | (with_reducible first | exact HB.out | apply below_alloc | apply pw_below_drewN | apply below_drew1 | refine below_set ?_ GE342.out | refine below_set ?_ GE343.out) | exact HB.out)⟩
         ·replace c15 := Bool.eq_false_iff.mpr c15
          subst c15
          have H1 : (if (Go.bits .and .u8 (rd l0 a1) 2) = 0 then (if (Go.bits .and .u8 (rd l0 a1) 4) = 0 then (if 0 ≤ (wrap64 (a1 + 1)) then (if (wrap64 (a1 + 1)) < (l0.length : Int) then (if 0 ≤ (wrap64 (a1 + 2)) then (if (wrap64 (a1 + 2)) < (l0.length : Int) then ((spec_l04Word.f (rd l0 (wrap64 (a1 + 1))) (rd l0 (wrap64 (a1 + 2)))).bind fun t348 => (if (Go.bits .and .u8 (rd l0 a1) 8) = 0 then (if 0 ≤ (wrap64 (a1 + 3)) then (if (wrap64 (a1 + 3)) < (l0.length : Int) then (some (IntKind.u16.wrap (t348), rd l0 (wrap64 (a1 + 3)), ((Go.bits .and .u8 (rd l0 a1) 1) != 0), x10_10)) else (none)) else (none)) else (some (IntKind.u16.wrap (t348), a2_1, ((Go.bits .and .u8 (rd l0 a1) 1) != 0), x10_10)))) else (none)) else (none)) else (none)) else (none)) else (if 0 ≤ (wrap64 (a1 + 1)) then (if (wrap64 (a1 + 1)) < (l0.length : Int) then (if (Go.bits .and .u8 (rd l0 a1) 8) = 0 then (if 0 ≤ (wrap64 (a1 + 2)) then (if (wrap64 (a1 + 2)) < (l0.length : Int) then (some (IntKind.u16.wrap ((IntKind.u16.wrap ((IntKind.u16.wrap (Int.tdiv a2_0 256)) * 256)) + (IntKind.u16.wrap (rd l0 (wrap64 (a1 + 1))))), rd l0 (wrap64 (a1 + 2)), ((Go.bits .and .u8 (rd l0 a1) 1) != 0), x10_10)) else (none)) else (none)) else (some (IntKind.u16.wrap ((IntKind.u16.wrap ((IntKind.u16.wrap (Int.tdiv a2_0 256)) * 256)) + (IntKind.u16.wrap (rd l0 (wrap64 (a1 + 1))))), a2_1, ((Go.bits .and .u8 (rd l0 a1) 1) != 0), x10_10))) else (none)) else (none))) else (if (Go.bits .and .u8 (rd l0 a1) 8) = 0 then (if 0 ≤ (wrap64 (a1 + 1)) then (if (wrap64 (a1 + 1)) < (l0.length : Int) then (some (IntKind.u16.wrap (a2_0 + 1), rd l0 (wrap64 (a1 + 1)), ((Go.bits .and .u8 (rd l0 a1) 1) != 0), x10_10)) else (none)) else (none)) else (some (IntKind.u16.wrap (a2_0 + 1), a2_1, ((Go.bits .and .u8 (rd l0 a1) 1) != 0), x10_10)))) = some (r1, r2, r3, r4) := by rw [if_neg (show ¬ (false = true) by decide)] at H; exact H
          clear H; have H := H1; clear H1
          by_cases c18 : (Go.bits .and .u8 (rd l0 a1) 2) = 0
          ·rw [if_pos c18] at H
           have c18b0 : ((Go.bits .and .u8 (rd l0 a1) 2) == 0) = true := beq_iff_eq.mpr c18; have c18b1 : ((Go.bits .and .u8 (rd l0 a1) 2) != 0) = false := bne_eq_false_iff_eq.mpr c18; clear c18
           by_cases c19 : (Go.bits .and .u8 (rd l0 a1) 4) = 0
           ·rw [if_pos c19] at H
            have c19b0 : ((Go.bits .and .u8 (rd l0 a1) 4) == 0) = true := beq_iff_eq.mpr c19; have c19b1 : ((Go.bits .and .u8 (rd l0 a1) 4) != 0) = false := bne_eq_false_iff_eq.mpr c19; clear c19; obtain ⟨ji20, hji20⟩ : ∃ j_ : Int, (wrap64 (a1 + 1)) = j_ := ⟨_, rfl⟩
            replace H : (if 0 ≤ (ji20) then (if (ji20) < (l0.length : Int) then (if 0 ≤ (wrap64 (a1 + 2)) then (if (wrap64 (a1 + 2)) < (l0.length : Int) then ((spec_l04Word.f (rd l0 (ji20)) (rd l0 (wrap64 (a1 + 2)))).bind fun t348 => (if (Go.bits .and .u8 (rd l0 a1) 8) = 0 then (if 0 ≤ (wrap64 (a1 + 3)) then (if (wrap64 (a1 + 3)) < (l0.length : Int) then (some (IntKind.u16.wrap (t348), rd l0 (wrap64 (a1 + 3)), ((Go.bits .and .u8 (rd l0 a1) 1) != 0), x10_10)) else (none)) else (none)) else (some (IntKind.u16.wrap (t348), a2_1, ((Go.bits .and .u8 (rd l0 a1) 1) != 0), x10_10)))) else (none)) else (none)) else (none)) else (none)) = some (r1, r2, r3, r4) := by first | (rw [hji20] at H; exact H) | (simp only [hji20] at H ⊢; exact H)
            have hji20w : (IntKind.i64.wrap (a1 + 1)) = ji20 := (i64_w _).trans hji20
            by_cases c21 : 0 ≤ (ji20)
            ·rw [if_pos c21] at H
             have c21b0 : decide (0 ≤ (ji20)) = true := decide_eq_true c21; clear c21
             by_cases c22 : (ji20) < (l0.length : Int)
             ·rw [if_pos c22] at H
              have c22b0 : decide ((ji20) < (l0.length : Int)) = true := decide_eq_true c22; clear c22; obtain ⟨ji23, hji23⟩ : ∃ j_ : Int, (wrap64 (a1 + 2)) = j_ := ⟨_, rfl⟩
              replace H : (if 0 ≤ (ji23) then (if (ji23) < (l0.length : Int) then ((spec_l04Word.f (rd l0 (ji20)) (rd l0 (ji23))).bind fun t348 => (if (Go.bits .and .u8 (rd l0 a1) 8) = 0 then (if 0 ≤ (wrap64 (a1 + 3)) then (if (wrap64 (a1 + 3)) < (l0.length : Int) then (some (IntKind.u16.wrap (t348), rd l0 (wrap64 (a1 + 3)), ((Go.bits .and .u8 (rd l0 a1) 1) != 0), x10_10)) else (none)) else (none)) else (some (IntKind.u16.wrap (t348), a2_1, ((Go.bits .and .u8 (rd l0 a1) 1) != 0), x10_10)))) else (none)) else (none)) = some (r1, r2, r3, r4) := by first | (rw [hji23] at H; exact H) | (simp only [hji23] at H ⊢; exact H)
              have hji23w : (IntKind.i64.wrap (a1 + 2)) = ji23 := (i64_w _).trans hji23
              by_cases c24 : 0 ≤ (ji23)
              ·rw [if_pos c24] at H
               have c24b0 : decide (0 ≤ (ji23)) = true := decide_eq_true c24; clear c24
               by_cases c25 : (ji23) < (l0.length : Int)
               ·rw [if_pos c25] at H
                have c25b0 : decide ((ji23) < (l0.length : Int)) = true := decide_eq_true c25; clear c25; replace H := Option.bind_eq_some_iff.mp H; obtain ⟨t348, A260, H⟩ := H; replace H : (if (Go.bits .and .u8 (rd l0 a1) 8) = 0 then (if 0 ≤ (wrap64 (a1 + 3)) then (if (wrap64 (a1 + 3)) < (l0.length : Int) then (some (IntKind.u16.wrap (t348), rd l0 (wrap64 (a1 + 3)), ((Go.bits .and .u8 (rd l0 a1) 1) != 0), x10_10)) else (none)) else (none)) else (some (IntKind.u16.wrap (t348), a2_1, ((Go.bits .and .u8 (rd l0 a1) 1) != 0), x10_10))) = some (r1, r2, r3, r4) := H; have A26 := Aside0.mk A260; clear A260
                by_cases c27 : (Go.bits .and .u8 (rd l0 a1) 8) = 0
                ·rw [if_pos c27] at H
                 have c27b0 : ((Go.bits .and .u8 (rd l0 a1) 8) == 0) = true := beq_iff_eq.mpr c27; have c27b1 : ((Go.bits .and .u8 (rd l0 a1) 8) != 0) = false := bne_eq_false_iff_eq.mpr c27; clear c27; obtain ⟨ji28, hji28⟩ : ∃ j_ : Int, (wrap64 (a1 + 3)) = j_ := ⟨_, rfl⟩
                 replace H : (if 0 ≤ (ji28) then (if (ji28) < (l0.length : Int) then (some (IntKind.u16.wrap (t348), rd l0 (ji28), ((Go.bits .and .u8 (rd l0 a1) 1) != 0), x10_10)) else (none)) else (none)) = some (r1, r2, r3, r4) := by first | (rw [hji28] at H; exact H) | (simp only [hji28] at H ⊢; exact H)
                 (try rw [hji28] at A26)
                 have hji28w : (IntKind.i64.wrap (a1 + 3)) = ji28 := (i64_w _).trans hji28
                 by_cases c29 : 0 ≤ (ji28)
                 ·rw [if_pos c29] at H
                  have c29b0 : decide (0 ≤ (ji28)) = true := decide_eq_true c29; clear c29
                  by_cases c30 : (ji28) < (l0.length : Int)
                  ·rw [if_pos c30] at H
                   have c30b0 : decide ((ji28) < (l0.length : Int)) = true := decide_eq_true c30; clear c30; simp only [Option.some.injEq, Prod.mk.injEq] at H; obtain ⟨rfl, rfl, rfl, rfl⟩ := H; have hnb31 := NB342_343.out; have hnc31 := NB343_342.out; have hcz32_0 : wc.cell? ⟨gb342, 0, none⟩ = some (.int .u16 a2_0) := (blk_cell BK342.out 0).trans rfl; have hcz32_1 : wc.cell? ⟨gb342, 1, none⟩ = some (.int .u8 a2_1) := (blk_cell BK342.out 1).trans rfl; have hcz32_2 : wc.cell? ⟨gb342, 2, none⟩ = some (.bool a2_2) := (blk_cell BK342.out 2).trans rfl; have hfz32_0 := blk_frozen BK342.out 0; have hfz32_1 := blk_frozen BK342.out 1; have hfz32_2 := blk_frozen BK342.out 2
                   try go_wp2_with (first | ((with_reducible refine gate_dst (N := 11) rfl ?_); (try (refine gate_guard (by rfl) ?_; dsimp only)); refine box_event ?hg (N := 11) ?hd (cs := #[.int .u16 0, .int .u8 0, .bool false]) (t := 32) ?hr ?_; (case hd => rfl); (case hg => rfl); (case hr => first | (go_simp; done) | (go_simp; rfl)); intro gb345 hg w33 hbox hb; have n0_ := Aside0.mk (blk_below (g := gb342) (o := .cells #[.int .u16 a2_0, .int .u8 a2_1, .bool a2_2] 32 (0, 0)) (by (with_reducible repeat (first | refine blk_drewN ?_ _ | refine blk_drew ?_ | refine blk_alloc ?_ _)); exact BK342.out) hb); have n1_ := Aside0.mk (blk_below (g := gb343) (o := .cells #[.int .u16 0, .int .u8 0, .bool false] 32 (0, 0)) (by (with_reducible repeat (first | refine blk_drewN ?_ _ | refine blk_drew ?_ | refine blk_alloc ?_ _)); exact BK343.out) hb); have n2_ := Aside0.mk (below_step (by repeat (first | (with_reducible first | exact HB.out | apply below_alloc | apply pw_below_drewN | apply below_drew1 | refine below_set ?_ GE342.out | refine below_set ?_ GE343.out) | exact HB.out)) hb); have n3_ := Aside0.mk (hbox); have n4_ := Aside0.mk ((by rw [hg]; exact (below_size (by repeat (first | (with_reducible first | exact HB.out | apply below_alloc | apply pw_below_drewN | apply below_drew1 | refine below_set ?_ GE342.out | refine below_set ?_ GE343.out) | exact HB.out))) : w.heap.size ≤ gb345)); have n5_ := Aside0.mk ((by rw [hg]; exact (below_size (by repeat (first | (with_reducible first | exact HB.out | apply below_alloc | apply pw_below_drewN | apply below_drew1 | refine below_set ?_ GE342.out | refine below_set ?_ GE343.out) | exact HB.out))) : w.heap.size ≤ gb345)); have n6_ := Aside0.mk ((by rw [hg]; exact Nat.ne_of_lt (blk_lt (g := gb342) (o := .cells #[.int .u16 a2_0, .int .u8 a2_1, .bool a2_2] 32 (0, 0)) (by (with_reducible repeat (first | refine blk_drewN ?_ _ | refine blk_drew ?_ | refine blk_alloc ?_ _)); exact BK342.out)) : gb342 ≠ gb345)); have n7_ := Aside0.mk ((by rw [hg]; exact Nat.ne_of_gt (blk_lt (g := gb342) (o := .cells #[.int .u16 a2_0, .int .u8 a2_1, .bool a2_2] 32 (0, 0)) (by (with_reducible repeat (first | refine blk_drewN ?_ _ | refine blk_drew ?_ | refine blk_alloc ?_ _)); exact BK342.out)) : gb345 ≠ gb342)); have n8_ := Aside0.mk ((by rw [hg]; exact Nat.ne_of_lt (blk_lt (g := gb343) (o := .cells #[.int .u16 0, .int .u8 0, .bool false] 32 (0, 0)) (by (with_reducible repeat (first | refine blk_drewN ?_ _ | refine blk_drew ?_ | refine blk_alloc ?_ _)); exact BK343.out)) : gb343 ≠ gb345)); have n9_ := Aside0.mk ((by rw [hg]; exact Nat.ne_of_gt (blk_lt (g := gb343) (o := .cells #[.int .u16 0, .int .u8 0, .bool false] 32 (0, 0)) (by (with_reducible repeat (first | refine blk_drewN ?_ _ | refine blk_drew ?_ | refine blk_alloc ?_ _)); exact BK343.out)) : gb345 ≠ gb343)); clear BK342; clear BK343; clear HB; have BK342 := n0_; have BK343 := n1_; have HB := n2_; have BK345 := n3_; have GW345 := n4_; have GE345 := n5_; have NB342_345 := n6_; have NB345_342 := n7_; have NB343_345 := n8_; have NB345_343 := n9_; clear n0_ n1_ n2_ n3_ n4_ n5_ n6_ n7_ n8_ n9_; clear hb hbox hg; have hnb34 := NB345_342.out; have hnc34 := NB342_345.out; have hnb35 := NB345_343.out; have hnc35 := NB343_345.out; have hcz36_0 : w33.cell? ⟨gb345, 0, none⟩ = some (.int .u16 0) := (blk_cell BK345.out 0).trans rfl; have hcz36_1 : w33.cell? ⟨gb345, 1, none⟩ = some (.int .u8 0) := (blk_cell BK345.out 1).trans rfl; have hcz36_2 : w33.cell? ⟨gb345, 2, none⟩ = some (.bool false) := (blk_cell BK345.out 2).trans rfl; have hfz36_0 := blk_frozen BK345.out 0; have hfz36_1 := blk_frozen BK345.out 1; have hfz36_2 := blk_frozen BK345.out 2))
                   have n0_ : Aside0 ((((w33.setCell ⟨gb345, 0, none⟩ (.int .u16 (IntKind.u16.wrap (a2_0 + 1)))).setCell ⟨gb345, 1, none⟩ (.int .u8 a2_1)).setCell ⟨gb345, 2, none⟩ (.bool ((Go.bits .and .u8 (rd l0 a1) 1) != 0))).heap[gb342]? = some (.cells #[.int .u16 a2_0, .int .u8 a2_1, .bool a2_2] 32 (0, 0))) := ⟨by (with_reducible repeat (first | refine blk_drewN ?_ _ | refine blk_drew ?_ | refine blk_alloc ?_ _)); refine blk_far ?_ NB342_345.out _; (with_reducible repeat (first | refine blk_drewN ?_ _ | refine blk_drew ?_ | refine blk_alloc ?_ _)); refine blk_far ?_ NB342_345.out _; (with_reducible repeat (first | refine blk_drewN ?_ _ | refine blk_drew ?_ | refine blk_alloc ?_ _)); refine blk_far ?_ NB342_345.out _; (with_reducible repeat (first | refine blk_drewN ?_ _ | refine blk_drew ?_ | refine blk_alloc ?_ _)); exact BK342.out⟩; have n1_ : Aside0 ((((w33.setCell ⟨gb345, 0, none⟩ (.int .u16 (IntKind.u16.wrap (a2_0 + 1)))).setCell ⟨gb345, 1, none⟩ (.int .u8 a2_1)).setCell ⟨gb345, 2, none⟩ (.bool ((Go.bits .and .u8 (rd l0 a1) 1) != 0))).heap[gb343]? = some (.cells #[.int .u16 0, .int .u8 0, .bool false] 32 (0, 0))) := ⟨by (with_reducible repeat (first | refine blk_drewN ?_ _ | refine blk_drew ?_ | refine blk_alloc ?_ _)); refine blk_far ?_ NB343_345.out _; (with_reducible repeat (first | refine blk_drewN ?_ _ | refine blk_drew ?_ | refine blk_alloc ?_ _)); refine blk_far ?_ NB343_345.out _; (with_reducible repeat (first | refine blk_drewN ?_ _ | refine blk_drew ?_ | refine blk_alloc ?_ _)); refine blk_far ?_ NB343_345.out _; (with_reducible repeat (first | refine blk_drewN ?_ _ | refine blk_drew ?_ | refine blk_alloc ?_ _)); exact BK343.out⟩; have n2_ : Aside0 ((((w33.setCell ⟨gb345, 0, none⟩ (.int .u16 (IntKind.u16.wrap (a2_0 + 1)))).setCell ⟨gb345, 1, none⟩ (.int .u8 a2_1)).setCell ⟨gb345, 2, none⟩ (.bool ((Go.bits .and .u8 (rd l0 a1) 1) != 0))).heap[gb345]? = some (.cells #[.int .u16 (IntKind.u16.wrap (a2_0 + 1)), .int .u8 a2_1, .bool ((Go.bits .and .u8 (rd l0 a1) 1) != 0)] 32 (0, 0))) := ⟨by (with_reducible repeat (first | refine blk_drewN ?_ _ | refine blk_drew ?_ | refine blk_alloc ?_ _)); refine blk_put (cs := #[.int .u16 (IntKind.u16.wrap (a2_0 + 1)), .int .u8 a2_1, .bool false]) ?_ 2 _ rfl; (with_reducible repeat (first | refine blk_drewN ?_ _ | refine blk_drew ?_ | refine blk_alloc ?_ _)); refine blk_put (cs := #[.int .u16 (IntKind.u16.wrap (a2_0 + 1)), .int .u8 0, .bool false]) ?_ 1 _ rfl; (with_reducible repeat (first | refine blk_drewN ?_ _ | refine blk_drew ?_ | refine blk_alloc ?_ _)); refine blk_put (cs := #[.int .u16 0, .int .u8 0, .bool false]) ?_ 0 _ rfl; (with_reducible repeat (first | refine blk_drewN ?_ _ | refine blk_drew ?_ | refine blk_alloc ?_ _)); exact BK345.out⟩; have n3_ : Aside0 (Below w.heap.size w (((w33.setCell ⟨gb345, 0, none⟩ (.int .u16 (IntKind.u16.wrap (a2_0 + 1)))).setCell ⟨gb345, 1, none⟩ (.int .u8 a2_1)).setCell ⟨gb345, 2, none⟩ (.bool ((Go.bits .and .u8 (rd l0 a1) 1) != 0)))) := ⟨by repeat (first | (with_reducible first | exact HB.out | apply below_alloc | apply pw_below_drewN | apply below_drew1 | refine below_set ?_ GE342.out | refine below_set ?_ GE343.out | refine below_set ?_ GE345.out) | exact HB.out)⟩; (try clear BK342); (try clear BK343); (try clear BK345); (try clear HB)
                   generalize (((w33.setCell ⟨gb345, 0, none⟩ (.int .u16 (IntKind.u16.wrap (a2_0 + 1)))).setCell ⟨gb345, 1, none⟩ (.int .u8 a2_1)).setCell ⟨gb345, 2, none⟩ (.bool ((Go.bits .and .u8 (rd l0 a1) 1) != 0))) = w37 at n0_ n1_ n2_ n3_ ⊢
                   have BK342 := n0_; have BK343 := n1_; have BK345 := n2_; have HB := n3_; clear n0_ n1_ n2_ n3_; have n0_ := Aside0.mk (blk_drew BK342.out); have n1_ := Aside0.mk (blk_drew BK343.out); have n2_ := Aside0.mk (blk_drew BK345.out); have n3_ := Aside0.mk (below_drew1 HB.out); clear BK342; clear BK343; clear BK345; clear HB; have BK342 := n0_; have BK343 := n1_; have BK345 := n2_; have HB := n3_; clear n0_ n1_ n2_ n3_; have p346 : 0 ≤ ((ji20) : Int) := of_decide_eq_true (by first | (with_reducible assumption) | assumption); have q346 : (ji20) < (l0.length : Int) := of_decide_eq_true (by first | (with_reducible assumption) | assumption); obtain ⟨ad346, e346, hx346_0⟩ := Kd.at_int HR0.out (ji20) p346 q346; have hw346_0 := hx346_0; obtain rfl : ad344 = ad346 := (by injection e346); replace hx346_0 := (HB.out.cell (World.block_lt_of_cell? w _ hx346_0)).trans hx346_0; replace p346 := eq_true p346; replace q346 := eq_true q346; have p347 : 0 ≤ ((ji23) : Int) := of_decide_eq_true (by first | (with_reducible assumption) | assumption); have q347 : (ji23) < (l0.length : Int) := of_decide_eq_true (by first | (with_reducible assumption) | assumption); obtain ⟨ad347, e347, hx347_0⟩ := Kd.at_int HR0.out (ji23) p347 q347; have hw347_0 := hx347_0; obtain rfl : ad344 = ad347 := (by injection e347); replace hx347_0 := (HB.out.cell (World.block_lt_of_cell? w _ hx347_0)).trans hx347_0; replace p347 := eq_true p347; replace q347 := eq_true q347; refine start_ (n := 14) (S := fun w' => w'.cell? (ad344.add ((ji20)).toNat) = some (.int .u8 (rd l0 (ji20))) ∧ w'.cell? (ad344.add ((ji23)).toNat) = some (.int .u8 (rd l0 (ji23)))) (ds := []) #[false, false, false, false, false, false, false, false, false, false, false, false, false, false] (by kernel_rfl) rfl rfl ⟨((HB.out.cell (World.block_lt_of_cell? w _ hw346_0)).trans hw346_0), ((HB.out.cell (World.block_lt_of_cell? w _ hw347_0)).trans hw347_0)⟩ (fun hHeld => ?_); refine with_tabW spec_l16Read.tab13 spec_l16Read.bits13 (fun HT_ HW_ => ?_)
                   generalize w37.drew = w38 at BK342 BK343 BK345 HB hx346_0 hx347_0 hHeld ⊢
                   refine pure_ (i := 0) (N := some 47) (v := ?_) (a' := ?_) #[true, false, false, false, false, false, false, false, false, false, false, false, false, false] rfl rfl (any_of HT_.out (by kernel_rfl)) (fun _ _ _ h => h) (Or.inl ⟨by rfl, ?_⟩) ?_ ?_; rotate_left
                   ·intro w'
                    go_simp
                    with_reducible rfl
                   rotate_left
                   ·simp only [Act.put, List.setIfInBounds_toArray, List.set_cons_zero, List.set_cons_succ, i64_w, i32_w]
                    rfl
                   refine pure_ (i := 1) (N := some 48) (v := ?_) (a' := ?_) #[true, true, false, false, false, false, false, false, false, false, false, false, false, false] rfl rfl (any_of HT_.out (by kernel_rfl)) (fun _ _ _ h => h) (Or.inl ⟨by rfl, ?_⟩) ?_ ?_; rotate_left
                   ·intro w'
                    go_simp
                    with_reducible rfl
                   rotate_left
                   ·simp only [Act.put, List.setIfInBounds_toArray, List.set_cons_zero, List.set_cons_succ, i64_w, i32_w]
                    rfl
                   refine pure_ (i := 2) (N := some 49) (v := ?_) (a' := ?_) #[true, true, true, false, false, false, false, false, false, false, false, false, false, false] rfl rfl (any_of HT_.out (by kernel_rfl)) (fun _ _ _ h => h) (Or.inl ⟨by rfl, ?_⟩) ?_ ?_; rotate_left
                   ·intro w'
                    go_simp
                    with_reducible rfl
                   rotate_left
                   ·simp only [Act.put, List.setIfInBounds_toArray, List.set_cons_zero, List.set_cons_succ, i64_w, i32_w]
                    rfl
                   refine pure_ (i := 3) (N := some 50) (v := ?_) (a' := ?_) #[true, true, true, true, false, false, false, false, false, false, false, false, false, false] rfl rfl (any_of HT_.out (by kernel_rfl)) (fun _ _ _ h => h) (Or.inl ⟨by rfl, ?_⟩) ?_ ?_; rotate_left
                   ·intro w'
                    go_simp
                    with_reducible rfl
                   rotate_left
                   ·simp only [Act.put, List.setIfInBounds_toArray, List.set_cons_zero, List.set_cons_succ, i64_w, i32_w]
                    rfl
                   refine pure_ (i := 5) (N := some 52) (v := ?_) (a' := ?_) #[true, true, true, true, false, true, false, false, false, false, false, false, false, false] rfl rfl (any_of HT_.out (by kernel_rfl)) (fun _ _ _ h => h) (Or.inl ⟨by rfl, ?_⟩) ?_ ?_; rotate_left
                   ·intro w'
                    go_simp
                    with_reducible rfl
                   rotate_left
                   ·simp only [Act.put, List.setIfInBounds_toArray, List.set_cons_zero, List.set_cons_succ, i64_w, i32_w]
                    rfl
                   refine pure_ (i := 6) (N := some 53) (v := ?_) (a' := ?_) #[true, true, true, true, false, true, true, false, false, false, false, false, false, false] rfl rfl (any_of HT_.out (by kernel_rfl)) (fun _ _ _ h => h) (Or.inl ⟨by rfl, ?_⟩) ?_ ?_; rotate_left
                   ·intro w'
                    go_simp
                    with_reducible rfl
                   rotate_left
                   ·simp only [Act.put, List.setIfInBounds_toArray, List.set_cons_zero, List.set_cons_succ, i64_w, i32_w]
                    rfl
                   refine pure_ (i := 7) (N := some 54) (v := ?_) (a' := ?_) #[true, true, true, true, false, true, true, true, false, false, false, false, false, false] rfl rfl (any_of HT_.out (by kernel_rfl)) (fun _ _ _ h => h) (Or.inl ⟨by rfl, ?_⟩) ?_ ?_; rotate_left
                   ·intro w'
                    go_simp
                    with_reducible rfl
                   rotate_left
                   ·simp only [Act.put, List.setIfInBounds_toArray, List.set_cons_zero, List.set_cons_succ, i64_w, i32_w]
                    rfl
                   refine pure_ (i := 8) (N := some 55) (v := ?_) (a' := ?_) #[true, true, true, true, false, true, true, true, true, false, false, false, false, false] rfl rfl (any_of HT_.out (by kernel_rfl)) (fun _ _ _ h => h) (Or.inl ⟨by rfl, ?_⟩) ?_ ?_; rotate_left
                   ·intro w'
                    go_simp
                    with_reducible rfl
                   rotate_left
                   ·simp only [Act.put, List.setIfInBounds_toArray, List.set_cons_zero, List.set_cons_succ, i64_w, i32_w]
                    rfl
                   refine take_ (i := 4) (N := some 51) (v := ?_) (a' := ?_) #[true, true, true, true, true, true, true, true, true, false, false, false, false, false] rfl rfl (take_ofW HT_.out HW_.out (by kernel_rfl)) (fun _ _ _ h => h) (Or.inl ⟨by rfl, ?_⟩) hHeld ?_ ?_; rotate_left
                   ·rintro w' ⟨s0, s1⟩
                    go_simp
                    with_reducible rfl
                   rotate_left
                   ·simp only [Act.put, List.setIfInBounds_toArray, List.set_cons_zero, List.set_cons_succ, i64_w, i32_w]
                    rfl
                   refine take_ (i := 9) (N := some 56) (v := ?_) (a' := ?_) #[true, true, true, true, true, true, true, true, true, true, false, false, false, false] rfl rfl (take_ofW HT_.out HW_.out (by kernel_rfl)) (fun _ _ _ h => h) (Or.inl ⟨by rfl, ?_⟩) hHeld ?_ ?_; rotate_left
                   ·rintro w' ⟨s0, s1⟩
                    go_simp
                    with_reducible rfl
                   rotate_left
                   ·simp only [Act.put, List.setIfInBounds_toArray, List.set_cons_zero, List.set_cons_succ, i64_w, i32_w]
                    rfl
                   refine one_ (i := 10) (N := some 57) #[true, true, true, true, true, true, true, true, true, true, true, false, false, false] rfl rfl (one_of HT_.out (by kernel_rfl)) (by decide) (fun K hK => ?_); refine goes_ Try.func73 (by kernel_rfl) rfl #[.int .u8 (rd l0 (ji20)), .int .u8 (rd l0 (ji23))] (by rfl) rfl rfl (by (try simp only [List.map_toArray, List.map_cons, List.map_nil]); first | done | (simp only [hji20, hji23]; rfl) | rfl | (simp only [List.length_drop, List.length_take]; rfl)) ?_
                   with_reducible refine (spec_l04Word.calls (rd l0 (ji20)) (rd l0 (ji23)) t348 _ A26.out).mono ?_
                   rintro e w' ⟨rfl, ⟨nd, rfl⟩⟩
                   refine ⟨_, rfl, ?_⟩; refine hK.out _ _ ⟨((HB.out.cell (World.block_lt_of_cell? w _ hw346_0)).trans hw346_0), ((HB.out.cell (World.block_lt_of_cell? w _ hw347_0)).trans hw347_0)⟩ (fun hHeld => ?_); clear hK K; refine norm_ (a' := ?_) ?_ ?_; rotate_left
                   ·show Act.put _ (some 57) _ = _
                    simp only [Act.put, List.setIfInBounds_toArray, List.set_cons_zero, List.set_cons_succ, i64_w, i32_w]
                    rfl
                   refine pure_ (i := 11) (N := some 58) (v := ?_) (a' := ?_) #[true, true, true, true, true, true, true, true, true, true, true, true, false, false] rfl rfl (any_of HT_.out (by kernel_rfl)) (fun _ _ _ h => h) (Or.inl ⟨by rfl, ?_⟩) ?_ ?_; rotate_left
                   ·intro w'
                    go_simp
                    with_reducible rfl
                   rotate_left
                   ·simp only [Act.put, List.setIfInBounds_toArray, List.set_cons_zero, List.set_cons_succ, i64_w, i32_w]
                    rfl
                   refine pure_ (i := 12) (N := some 59) (v := ?_) (a' := ?_) #[true, true, true, true, true, true, true, true, true, true, true, true, true, false] rfl rfl (any_of HT_.out (by kernel_rfl)) (fun _ _ _ h => h) (Or.inl ⟨by rfl, ?_⟩) ?_ ?_; rotate_left
                   ·intro w'
                    go_simp
                    with_reducible rfl
                   rotate_left
                   ·simp only [Act.put, List.setIfInBounds_toArray, List.set_cons_zero, List.set_cons_succ, i64_w, i32_w]
                    rfl
                   refine one_ (i := 13) (N := none) #[true, true, true, true, true, true, true, true, true, true, true, true, true, true] rfl rfl (one_of HT_.out (by kernel_rfl)) (by decide) (fun K hK => ?_); have hs39 : w38.cell? ⟨gb345, 0, none⟩ = some (.int .u16 (IntKind.u16.wrap (a2_0 + 1))) := (blk_cell BK345.out 0).trans rfl; have hfs39 := blk_frozen BK345.out 0; have hns39_0 := NB342_345.out; have hns39_1 := NB343_345.out; have hms39_0 := NB345_342.out; have hms39_1 := NB345_343.out; refine skip_ (w1 := ?_) (by rfl) rfl ?_ ?_; rotate_left
                   ·go_simp
                    rfl
                   refine hK.out _ _ ⟨((cell_far (p := ⟨gb345, _, none⟩) (by first | exact Nat.ne_of_lt (Nat.lt_of_lt_of_le (by have := World.block_lt_of_cell? _ _ hw346_0; first | rwa [add_block] at this | exact this) GW345.out) | (rw [add_block]; exact Nat.ne_of_lt (Nat.lt_of_lt_of_le (by have := World.block_lt_of_cell? _ _ hw346_0; first | rwa [add_block] at this | exact this) GW345.out)) | (show (Addr.add _ _).block ≠ _; rw [add_block]; exact Nat.ne_of_lt (Nat.lt_of_lt_of_le (by have := World.block_lt_of_cell? _ _ hw346_0; first | rwa [add_block] at this | exact this) GW345.out)) | (dsimp only; exact Nat.ne_of_lt (Nat.lt_of_lt_of_le (by have := World.block_lt_of_cell? _ _ hw346_0; first | rwa [add_block] at this | exact this) GW345.out))) _).trans (hHeld.1)), ((cell_far (p := ⟨gb345, _, none⟩) (by first | exact Nat.ne_of_lt (Nat.lt_of_lt_of_le (by have := World.block_lt_of_cell? _ _ hw347_0; first | rwa [add_block] at this | exact this) GW345.out) | (rw [add_block]; exact Nat.ne_of_lt (Nat.lt_of_lt_of_le (by have := World.block_lt_of_cell? _ _ hw347_0; first | rwa [add_block] at this | exact this) GW345.out)) | (show (Addr.add _ _).block ≠ _; rw [add_block]; exact Nat.ne_of_lt (Nat.lt_of_lt_of_le (by have := World.block_lt_of_cell? _ _ hw347_0; first | rwa [add_block] at this | exact this) GW345.out)) | (dsimp only; exact Nat.ne_of_lt (Nat.lt_of_lt_of_le (by have := World.block_lt_of_cell? _ _ hw347_0; first | rwa [add_block] at this | exact this) GW345.out))) _).trans (hHeld.2))⟩ (fun hHeld => ?_); clear hK K; refine done_ (done_of HT_.out (by kernel_rfl)) ?_; have p178 : 0 ≤ ((ji28) : Int) := of_decide_eq_true (by first | (with_reducible assumption) | assumption); have q178 : (ji28) < (l0.length : Int) := of_decide_eq_true (by first | (with_reducible assumption) | assumption); obtain ⟨ad178, e178, hx178_0⟩ := Kd.at_int HR0.out (ji28) p178 q178; obtain rfl : ad344 = ad178 := (by injection e178); have hn178_0 : ad344.block ≠ gb345 := Nat.ne_of_lt (Nat.lt_of_lt_of_le (by have := World.block_lt_of_cell? _ _ hx178_0; first | rwa [add_block] at this | exact this) GW345.out); replace hx178_0 := (HB.out.cell (World.block_lt_of_cell? w _ hx178_0)).trans hx178_0; have hxd178_0 := (cell_far (W := World.drewN w38 nd) (p := ⟨gb345, 0, none⟩) (by first | (rw [add_block]; exact hn178_0) | (show (Addr.add _ _).block ≠ _; rw [add_block]; exact hn178_0) | exact hn178_0) (.int .u16 (IntKind.u16.wrap (t348)))).trans (cell_at (w := w38) (m := nd) rfl hx178_0); replace hx178_0 := (cell_far (p := ⟨gb345, 0, none⟩) (by first | (rw [add_block]; exact hn178_0) | (show (Addr.add _ _).block ≠ _; rw [add_block]; exact hn178_0) | exact hn178_0) (.int .u16 (IntKind.u16.wrap (t348)))).trans hx178_0; clear hn178_0; replace p178 := eq_true p178; replace q178 := eq_true q178; have hcz40_0 : w38.cell? ⟨gb345, 0, none⟩ = some (.int .u16 (IntKind.u16.wrap (a2_0 + 1))) := (blk_cell BK345.out 0).trans rfl; have hcz40_1 : w38.cell? ⟨gb345, 1, none⟩ = some (.int .u8 a2_1) := (blk_cell BK345.out 1).trans rfl; have hcz40_2 : w38.cell? ⟨gb345, 2, none⟩ = some (.bool ((Go.bits .and .u8 (rd l0 a1) 1) != 0)) := (blk_cell BK345.out 2).trans rfl; have hfz40_0 := blk_frozen BK345.out 0; have hfz40_1 := blk_frozen BK345.out 1; have hfz40_2 := blk_frozen BK345.out 2; have hcz41_0 : w38.cell? ⟨gb343, 0, none⟩ = some (.int .u16 0) := (blk_cell BK343.out 0).trans rfl; have hcz41_1 : w38.cell? ⟨gb343, 1, none⟩ = some (.int .u8 0) := (blk_cell BK343.out 1).trans rfl; have hcz41_2 : w38.cell? ⟨gb343, 2, none⟩ = some (.bool false) := (blk_cell BK343.out 2).trans rfl; have hfz41_0 := blk_frozen BK343.out 0; have hfz41_1 := blk_frozen BK343.out 1; have hfz41_2 := blk_frozen BK343.out 2
                   try go_wp2
                   refine bodyPost_ret (results_ct rfl _ _ gb343 32 #[.int .u16 (IntKind.u16.wrap (t348)), .int .u8 (rd l0 (ji28)), .bool ((Go.bits .and .u8 (rd l0 a1) 1) != 0)] (0, 0) _ rfl (by (with_reducible repeat (first | refine blk_drewN ?_ _ | refine blk_drew ?_ | refine blk_alloc ?_ _)); refine blk_put (cs := #[.int .u16 (IntKind.u16.wrap (t348)), .int .u8 (rd l0 (ji28)), .bool false]) ?_ 2 _ rfl; (with_reducible repeat (first | refine blk_drewN ?_ _ | refine blk_drew ?_ | refine blk_alloc ?_ _)); refine blk_put (cs := #[.int .u16 (IntKind.u16.wrap (t348)), .int .u8 0, .bool false]) ?_ 1 _ rfl; (with_reducible repeat (first | refine blk_drewN ?_ _ | refine blk_drew ?_ | refine blk_alloc ?_ _)); refine blk_put (cs := #[.int .u16 0, .int .u8 0, .bool false]) ?_ 0 _ rfl; (with_reducible repeat (first | refine blk_drewN ?_ _ | refine blk_drew ?_ | refine blk_alloc ?_ _)); refine blk_far ?_ NB343_345.out _; (with_reducible repeat (first | refine blk_drewN ?_ _ | refine blk_drew ?_ | refine blk_alloc ?_ _)); refine blk_far ?_ NB343_345.out _; (with_reducible repeat (first | refine blk_drewN ?_ _ | refine blk_drew ?_ | refine blk_alloc ?_ _)); exact BK343.out) Try.underlying32 rfl (by kernel_rfl)) rfl ?_; exact ⟨by first | rfl | (simp [errW_none, errW_some] <;> rfl) | (simp only [← hji20, ← hji23, ← hji28]; first | rfl | (simp [errW_none, errW_some] <;> rfl)) | (simp [*, errW_none, errW_some] <;> rfl), by repeat (first | (with_reducible first | exact HB.out | apply below_alloc | apply pw_below_drewN | apply below_drew1 | refine below_set ?_ GE342.out | refine below_set ?_ GE343.out | refine below_set ?_ GE345.out) | exact HB.out)⟩
                  ·rw [if_neg c30] at H
                   exact absurd H (by simp)
                 ·rw [if_neg c29] at H
                  exact absurd H (by simp)
                ·rw [if_neg c27] at H
                 have c27b0 : ((Go.bits .and .u8 (rd l0 a1) 8) == 0) = false := beq_eq_false_iff_ne.mpr c27; have c27b1 : ((Go.bits .and .u8 (rd l0 a1) 8) != 0) = true := bne_iff_ne.mpr c27; simp only [Option.some.injEq, Prod.mk.injEq] at H; obtain ⟨rfl, rfl, rfl, rfl⟩ := H; have hnb42 := NB342_343.out; have hnc42 := NB343_342.out; have hcz43_0 : wc.cell? ⟨gb342, 0, none⟩ = some (.int .u16 a2_0) := (blk_cell BK342.out 0).trans rfl; have hcz43_1 : wc.cell? ⟨gb342, 1, none⟩ = some (.int .u8 a2_1) := (blk_cell BK342.out 1).trans rfl; have hcz43_2 : wc.cell? ⟨gb342, 2, none⟩ = some (.bool a2_2) := (blk_cell BK342.out 2).trans rfl; have hfz43_0 := blk_frozen BK342.out 0; have hfz43_1 := blk_frozen BK342.out 1; have hfz43_2 := blk_frozen BK342.out 2
                 try go_wp2_with (first | ((with_reducible refine gate_dst (N := 11) rfl ?_); (try (refine gate_guard (by rfl) ?_; dsimp only)); refine box_event ?hg (N := 11) ?hd (cs := #[.int .u16 0, .int .u8 0, .bool false]) (t := 32) ?hr ?_; (case hd => rfl); (case hg => rfl); (case hr => first | (go_simp; done) | (go_simp; rfl)); intro gb345 hg w44 hbox hb; have n0_ := Aside0.mk (blk_below (g := gb342) (o := .cells #[.int .u16 a2_0, .int .u8 a2_1, .bool a2_2] 32 (0, 0)) (by (with_reducible repeat (first | refine blk_drewN ?_ _ | refine blk_drew ?_ | refine blk_alloc ?_ _)); exact BK342.out) hb); have n1_ := Aside0.mk (blk_below (g := gb343) (o := .cells #[.int .u16 0, .int .u8 0, .bool false] 32 (0, 0)) (by (with_reducible repeat (first | refine blk_drewN ?_ _ | refine blk_drew ?_ | refine blk_alloc ?_ _)); exact BK343.out) hb); have n2_ := Aside0.mk (below_step (by repeat (first | (with_reducible first | exact HB.out | apply below_alloc | apply pw_below_drewN | apply below_drew1 | refine below_set ?_ GE342.out | refine below_set ?_ GE343.out) | exact HB.out)) hb); have n3_ := Aside0.mk (hbox); have n4_ := Aside0.mk ((by rw [hg]; exact (below_size (by repeat (first | (with_reducible first | exact HB.out | apply below_alloc | apply pw_below_drewN | apply below_drew1 | refine below_set ?_ GE342.out | refine below_set ?_ GE343.out) | exact HB.out))) : w.heap.size ≤ gb345)); have n5_ := Aside0.mk ((by rw [hg]; exact (below_size (by repeat (first | (with_reducible first | exact HB.out | apply below_alloc | apply pw_below_drewN | apply below_drew1 | refine below_set ?_ GE342.out | refine below_set ?_ GE343.out) | exact HB.out))) : w.heap.size ≤ gb345)); have n6_ := Aside0.mk ((by rw [hg]; exact Nat.ne_of_lt (blk_lt (g := gb342) (o := .cells #[.int .u16 a2_0, .int .u8 a2_1, .bool a2_2] 32 (0, 0)) (by (with_reducible repeat (first | refine blk_drewN ?_ _ | refine blk_drew ?_ | refine blk_alloc ?_ _)); exact BK342.out)) : gb342 ≠ gb345)); have n7_ := Aside0.mk ((by rw [hg]; exact Nat.ne_of_gt (blk_lt (g := gb342) (o := .cells #[.int .u16 a2_0, .int .u8 a2_1, .bool a2_2] 32 (0, 0)) (by (with_reducible repeat (first | refine blk_drewN ?_ _ | refine blk_drew ?_ | refine blk_alloc ?_ _)); exact BK342.out)) : gb345 ≠ gb342)); have n8_ := Aside0.mk ((by rw [hg]; exact Nat.ne_of_lt (blk_lt (g := gb343) (o := .cells #[.int .u16 0, .int .u8 0, .bool false] 32 (0, 0)) (by (with_reducible repeat (first | refine blk_drewN ?_ _ | refine blk_drew ?_ | refine blk_alloc ?_ _)); exact BK343.out)) : gb343 ≠ gb345)); have n9_ := Aside0.mk ((by rw [hg]; exact Nat.ne_of_gt (blk_lt (g := gb343) (o := .cells #[.int .u16 0, .int .u8 0, .bool false] 32 (0, 0)) (by (with_reducible repeat (first | refine blk_drewN ?_ _ | refine blk_drew ?_ | refine blk_alloc ?_ _)); exact BK343.out)) : gb345 ≠ gb343)); clear BK342; clear BK343; clear HB; have BK342 := n0_; have BK343 := n1_; have HB := n2_; have BK345 := n3_; have GW345 := n4_; have GE345 := n5_; have NB342_345 := n6_; have NB345_342 := n7_; have NB343_345 := n8_; have NB345_343 := n9_; clear n0_ n1_ n2_ n3_ n4_ n5_ n6_ n7_ n8_ n9_; clear hb hbox hg; have hnb45 := NB345_342.out; have hnc45 := NB342_345.out; have hnb46 := NB345_343.out; have hnc46 := NB343_345.out; have hcz47_0 : w44.cell? ⟨gb345, 0, none⟩ = some (.int .u16 0) := (blk_cell BK345.out 0).trans rfl; have hcz47_1 : w44.cell? ⟨gb345, 1, none⟩ = some (.int .u8 0) := (blk_cell BK345.out 1).trans rfl; have hcz47_2 : w44.cell? ⟨gb345, 2, none⟩ = some (.bool false) := (blk_cell BK345.out 2).trans rfl; have hfz47_0 := blk_frozen BK345.out 0; have hfz47_1 := blk_frozen BK345.out 1; have hfz47_2 := blk_frozen BK345.out 2))
                 have n0_ : Aside0 ((((w44.setCell ⟨gb345, 0, none⟩ (.int .u16 (IntKind.u16.wrap (a2_0 + 1)))).setCell ⟨gb345, 1, none⟩ (.int .u8 a2_1)).setCell ⟨gb345, 2, none⟩ (.bool ((Go.bits .and .u8 (rd l0 a1) 1) != 0))).heap[gb342]? = some (.cells #[.int .u16 a2_0, .int .u8 a2_1, .bool a2_2] 32 (0, 0))) := ⟨by (with_reducible repeat (first | refine blk_drewN ?_ _ | refine blk_drew ?_ | refine blk_alloc ?_ _)); refine blk_far ?_ NB342_345.out _; (with_reducible repeat (first | refine blk_drewN ?_ _ | refine blk_drew ?_ | refine blk_alloc ?_ _)); refine blk_far ?_ NB342_345.out _; (with_reducible repeat (first | refine blk_drewN ?_ _ | refine blk_drew ?_ | refine blk_alloc ?_ _)); refine blk_far ?_ NB342_345.out _; (with_reducible repeat (first | refine blk_drewN ?_ _ | refine blk_drew ?_ | refine blk_alloc ?_ _)); exact BK342.out⟩; have n1_ : Aside0 ((((w44.setCell ⟨gb345, 0, none⟩ (.int .u16 (IntKind.u16.wrap (a2_0 + 1)))).setCell ⟨gb345, 1, none⟩ (.int .u8 a2_1)).setCell ⟨gb345, 2, none⟩ (.bool ((Go.bits .and .u8 (rd l0 a1) 1) != 0))).heap[gb343]? = some (.cells #[.int .u16 0, .int .u8 0, .bool false] 32 (0, 0))) := ⟨by (with_reducible repeat (first | refine blk_drewN ?_ _ | refine blk_drew ?_ | refine blk_alloc ?_ _)); refine blk_far ?_ NB343_345.out _; (with_reducible repeat (first | refine blk_drewN ?_ _ | refine blk_drew ?_ | refine blk_alloc ?_ _)); refine blk_far ?_ NB343_345.out _; (with_reducible repeat (first | refine blk_drewN ?_ _ | refine blk_drew ?_ | refine blk_alloc ?_ _)); refine blk_far ?_ NB343_345.out _; (with_reducible repeat (first | refine blk_drewN ?_ _ | refine blk_drew ?_ | refine blk_alloc ?_ _)); exact BK343.out⟩; have n2_ : Aside0 ((((w44.setCell ⟨gb345, 0, none⟩ (.int .u16 (IntKind.u16.wrap (a2_0 + 1)))).setCell ⟨gb345, 1, none⟩ (.int .u8 a2_1)).setCell ⟨gb345, 2, none⟩ (.bool ((Go.bits .and .u8 (rd l0 a1) 1) != 0))).heap[gb345]? = some (.cells #[.int .u16 (IntKind.u16.wrap (a2_0 + 1)), .int .u8 a2_1, .bool ((Go.bits .and .u8 (rd l0 a1) 1) != 0)] 32 (0, 0))) := ⟨by (with_reducible repeat (first | refine blk_drewN ?_ _ | refine blk_drew ?_ | refine blk_alloc ?_ _)); refine blk_put (cs := #[.int .u16 (IntKind.u16.wrap (a2_0 + 1)), .int .u8 a2_1, .bool false]) ?_ 2 _ rfl; (with_reducible repeat (first | refine blk_drewN ?_ _ | refine blk_drew ?_ | refine blk_alloc ?_ _)); refine blk_put (cs := #[.int .u16 (IntKind.u16.wrap (a2_0 + 1)), .int .u8 0, .bool false]) ?_ 1 _ rfl; (with_reducible repeat (first | refine blk_drewN ?_ _ | refine blk_drew ?_ | refine blk_alloc ?_ _)); refine blk_put (cs := #[.int .u16 0, .int .u8 0, .bool false]) ?_ 0 _ rfl; (with_reducible repeat (first | refine blk_drewN ?_ _ | refine blk_drew ?_ | refine blk_alloc ?_ _)); exact BK345.out⟩; have n3_ : Aside0 (Below w.heap.size w (((w44.setCell ⟨gb345, 0, none⟩ (.int .u16 (IntKind.u16.wrap (a2_0 + 1)))).setCell ⟨gb345, 1, none⟩ (.int .u8 a2_1)).setCell ⟨gb345, 2, none⟩ (.bool ((Go.bits .and .u8 (rd l0 a1) 1) != 0)))) := ⟨by repeat (first | (with_reducible first | exact HB.out | apply below_alloc | apply pw_below_drewN | apply below_drew1 | refine below_set ?_ GE342.out | refine below_set ?_ GE343.out | refine below_set ?_ GE345.out) | exact HB.out)⟩; (try clear BK342); (try clear BK343); (try clear BK345); (try clear HB)
                 generalize (((w44.setCell ⟨gb345, 0, none⟩ (.int .u16 (IntKind.u16.wrap (a2_0 + 1)))).setCell ⟨gb345, 1, none⟩ (.int .u8 a2_1)).setCell ⟨gb345, 2, none⟩ (.bool ((Go.bits .and .u8 (rd l0 a1) 1) != 0))) = w48 at n0_ n1_ n2_ n3_ ⊢
                 have BK342 := n0_; have BK343 := n1_; have BK345 := n2_; have HB := n3_; clear n0_ n1_ n2_ n3_; have n0_ := Aside0.mk (blk_drew BK342.out); have n1_ := Aside0.mk (blk_drew BK343.out); have n2_ := Aside0.mk (blk_drew BK345.out); have n3_ := Aside0.mk (below_drew1 HB.out); clear BK342; clear BK343; clear BK345; clear HB; have BK342 := n0_; have BK343 := n1_; have BK345 := n2_; have HB := n3_; clear n0_ n1_ n2_ n3_; have p346 : 0 ≤ ((ji20) : Int) := of_decide_eq_true (by first | (with_reducible assumption) | assumption); have q346 : (ji20) < (l0.length : Int) := of_decide_eq_true (by first | (with_reducible assumption) | assumption); obtain ⟨ad346, e346, hx346_0⟩ := Kd.at_int HR0.out (ji20) p346 q346; have hw346_0 := hx346_0; obtain rfl : ad344 = ad346 := (by injection e346); replace hx346_0 := (HB.out.cell (World.block_lt_of_cell? w _ hx346_0)).trans hx346_0; replace p346 := eq_true p346; replace q346 := eq_true q346; have p347 : 0 ≤ ((ji23) : Int) := of_decide_eq_true (by first | (with_reducible assumption) | assumption); have q347 : (ji23) < (l0.length : Int) := of_decide_eq_true (by first | (with_reducible assumption) | assumption); obtain ⟨ad347, e347, hx347_0⟩ := Kd.at_int HR0.out (ji23) p347 q347; have hw347_0 := hx347_0; obtain rfl : ad344 = ad347 := (by injection e347); replace hx347_0 := (HB.out.cell (World.block_lt_of_cell? w _ hx347_0)).trans hx347_0; replace p347 := eq_true p347; replace q347 := eq_true q347; refine start_ (n := 14) (S := fun w' => w'.cell? (ad344.add ((ji20)).toNat) = some (.int .u8 (rd l0 (ji20))) ∧ w'.cell? (ad344.add ((ji23)).toNat) = some (.int .u8 (rd l0 (ji23)))) (ds := []) #[false, false, false, false, false, false, false, false, false, false, false, false, false, false] (by kernel_rfl) rfl rfl ⟨((HB.out.cell (World.block_lt_of_cell? w _ hw346_0)).trans hw346_0), ((HB.out.cell (World.block_lt_of_cell? w _ hw347_0)).trans hw347_0)⟩ (fun hHeld => ?_); refine with_tabW spec_l16Read.tab13 spec_l16Read.bits13 (fun HT_ HW_ => ?_)
                 generalize w48.drew = w49 at BK342 BK343 BK345 HB hx346_0 hx347_0 hHeld ⊢
                 refine pure_ (i := 0) (N := some 47) (v := ?_) (a' := ?_) #[true, false, false, false, false, false, false, false, false, false, false, false, false, false] rfl rfl (any_of HT_.out (by kernel_rfl)) (fun _ _ _ h => h) (Or.inl ⟨by rfl, ?_⟩) ?_ ?_; rotate_left
                 ·intro w'
                  go_simp
                  with_reducible rfl
                 rotate_left
                 ·simp only [Act.put, List.setIfInBounds_toArray, List.set_cons_zero, List.set_cons_succ, i64_w, i32_w]
                  rfl
                 refine pure_ (i := 1) (N := some 48) (v := ?_) (a' := ?_) #[true, true, false, false, false, false, false, false, false, false, false, false, false, false] rfl rfl (any_of HT_.out (by kernel_rfl)) (fun _ _ _ h => h) (Or.inl ⟨by rfl, ?_⟩) ?_ ?_; rotate_left
                 ·intro w'
                  go_simp
                  with_reducible rfl
                 rotate_left
                 ·simp only [Act.put, List.setIfInBounds_toArray, List.set_cons_zero, List.set_cons_succ, i64_w, i32_w]
                  rfl
                 refine pure_ (i := 2) (N := some 49) (v := ?_) (a' := ?_) #[true, true, true, false, false, false, false, false, false, false, false, false, false, false] rfl rfl (any_of HT_.out (by kernel_rfl)) (fun _ _ _ h => h) (Or.inl ⟨by rfl, ?_⟩) ?_ ?_; rotate_left
                 ·intro w'
                  go_simp
                  with_reducible rfl
                 rotate_left
                 ·simp only [Act.put, List.setIfInBounds_toArray, List.set_cons_zero, List.set_cons_succ, i64_w, i32_w]
                  rfl
                 refine pure_ (i := 3) (N := some 50) (v := ?_) (a' := ?_) #[true, true, true, true, false, false, false, false, false, false, false, false, false, false] rfl rfl (any_of HT_.out (by kernel_rfl)) (fun _ _ _ h => h) (Or.inl ⟨by rfl, ?_⟩) ?_ ?_; rotate_left
                 ·intro w'
                  go_simp
                  with_reducible rfl
                 rotate_left
                 ·simp only [Act.put, List.setIfInBounds_toArray, List.set_cons_zero, List.set_cons_succ, i64_w, i32_w]
                  rfl
                 refine pure_ (i := 5) (N := some 52) (v := ?_) (a' := ?_) #[true, true, true, true, false, true, false, false, false, false, false, false, false, false] rfl rfl (any_of HT_.out (by kernel_rfl)) (fun _ _ _ h => h) (Or.inl ⟨by rfl, ?_⟩) ?_ ?_; rotate_left
                 ·intro w'
                  go_simp
                  with_reducible rfl
                 rotate_left
                 ·simp only [Act.put, List.setIfInBounds_toArray, List.set_cons_zero, List.set_cons_succ, i64_w, i32_w]
                  rfl
                 refine pure_ (i := 6) (N := some 53) (v := ?_) (a' := ?_) #[true, true, true, true, false, true, true, false, false, false, false, false, false, false] rfl rfl (any_of HT_.out (by kernel_rfl)) (fun _ _ _ h => h) (Or.inl ⟨by rfl, ?_⟩) ?_ ?_; rotate_left
                 ·intro w'
                  go_simp
                  with_reducible rfl
                 rotate_left
                 ·simp only [Act.put, List.setIfInBounds_toArray, List.set_cons_zero, List.set_cons_succ, i64_w, i32_w]
                  rfl
                 refine pure_ (i := 7) (N := some 54) (v := ?_) (a' := ?_) #[true, true, true, true, false, true, true, true, false, false, false, false, false, false] rfl rfl (any_of HT_.out (by kernel_rfl)) (fun _ _ _ h => h) (Or.inl ⟨by rfl, ?_⟩) ?_ ?_; rotate_left
                 ·intro w'
                  go_simp
                  with_reducible rfl
                 rotate_left
                 ·simp only [Act.put, List.setIfInBounds_toArray, List.set_cons_zero, List.set_cons_succ, i64_w, i32_w]
                  rfl
                 refine pure_ (i := 8) (N := some 55) (v := ?_) (a' := ?_) #[true, true, true, true, false, true, true, true, true, false, false, false, false, false] rfl rfl (any_of HT_.out (by kernel_rfl)) (fun _ _ _ h => h) (Or.inl ⟨by rfl, ?_⟩) ?_ ?_; rotate_left
                 ·intro w'
                  go_simp
                  with_reducible rfl
                 rotate_left
                 ·simp only [Act.put, List.setIfInBounds_toArray, List.set_cons_zero, List.set_cons_succ, i64_w, i32_w]
                  rfl
                 refine take_ (i := 4) (N := some 51) (v := ?_) (a' := ?_) #[true, true, true, true, true, true, true, true, true, false, false, false, false, false] rfl rfl (take_ofW HT_.out HW_.out (by kernel_rfl)) (fun _ _ _ h => h) (Or.inl ⟨by rfl, ?_⟩) hHeld ?_ ?_; rotate_left
                 ·rintro w' ⟨s0, s1⟩
                  go_simp
                  with_reducible rfl
                 rotate_left
                 ·simp only [Act.put, List.setIfInBounds_toArray, List.set_cons_zero, List.set_cons_succ, i64_w, i32_w]
                  rfl
                 refine take_ (i := 9) (N := some 56) (v := ?_) (a' := ?_) #[true, true, true, true, true, true, true, true, true, true, false, false, false, false] rfl rfl (take_ofW HT_.out HW_.out (by kernel_rfl)) (fun _ _ _ h => h) (Or.inl ⟨by rfl, ?_⟩) hHeld ?_ ?_; rotate_left
                 ·rintro w' ⟨s0, s1⟩
                  go_simp
                  with_reducible rfl
                 rotate_left
                 ·simp only [Act.put, List.setIfInBounds_toArray, List.set_cons_zero, List.set_cons_succ, i64_w, i32_w]
                  rfl
                 refine one_ (i := 10) (N := some 57) #[true, true, true, true, true, true, true, true, true, true, true, false, false, false] rfl rfl (one_of HT_.out (by kernel_rfl)) (by decide) (fun K hK => ?_); refine goes_ Try.func73 (by kernel_rfl) rfl #[.int .u8 (rd l0 (ji20)), .int .u8 (rd l0 (ji23))] (by rfl) rfl rfl (by (try simp only [List.map_toArray, List.map_cons, List.map_nil]); first | done | (simp only [hji20, hji23]; rfl) | rfl | (simp only [List.length_drop, List.length_take]; rfl)) ?_
                 with_reducible refine (spec_l04Word.calls (rd l0 (ji20)) (rd l0 (ji23)) t348 _ A26.out).mono ?_
                 rintro e w' ⟨rfl, ⟨nd, rfl⟩⟩
                 refine ⟨_, rfl, ?_⟩; refine hK.out _ _ ⟨((HB.out.cell (World.block_lt_of_cell? w _ hw346_0)).trans hw346_0), ((HB.out.cell (World.block_lt_of_cell? w _ hw347_0)).trans hw347_0)⟩ (fun hHeld => ?_); clear hK K; refine norm_ (a' := ?_) ?_ ?_; rotate_left
                 ·show Act.put _ (some 57) _ = _
                  simp only [Act.put, List.setIfInBounds_toArray, List.set_cons_zero, List.set_cons_succ, i64_w, i32_w]
                  rfl
                 refine pure_ (i := 11) (N := some 58) (v := ?_) (a' := ?_) #[true, true, true, true, true, true, true, true, true, true, true, true, false, false] rfl rfl (any_of HT_.out (by kernel_rfl)) (fun _ _ _ h => h) (Or.inl ⟨by rfl, ?_⟩) ?_ ?_; rotate_left
                 ·intro w'
                  go_simp
                  with_reducible rfl
                 rotate_left
                 ·simp only [Act.put, List.setIfInBounds_toArray, List.set_cons_zero, List.set_cons_succ, i64_w, i32_w]
                  rfl
                 refine pure_ (i := 12) (N := some 59) (v := ?_) (a' := ?_) #[true, true, true, true, true, true, true, true, true, true, true, true, true, false] rfl rfl (any_of HT_.out (by kernel_rfl)) (fun _ _ _ h => h) (Or.inl ⟨by rfl, ?_⟩) ?_ ?_; rotate_left
                 ·intro w'
                  go_simp
                  with_reducible rfl
                 rotate_left
                 ·simp only [Act.put, List.setIfInBounds_toArray, List.set_cons_zero, List.set_cons_succ, i64_w, i32_w]
                  rfl
                 refine one_ (i := 13) (N := none) #[true, true, true, true, true, true, true, true, true, true, true, true, true, true] rfl rfl (one_of HT_.out (by kernel_rfl)) (by decide) (fun K hK => ?_); have hs50 : w49.cell? ⟨gb345, 0, none⟩ = some (.int .u16 (IntKind.u16.wrap (a2_0 + 1))) := (blk_cell BK345.out 0).trans rfl; have hfs50 := blk_frozen BK345.out 0; have hns50_0 := NB342_345.out; have hns50_1 := NB343_345.out; have hms50_0 := NB345_342.out; have hms50_1 := NB345_343.out; refine skip_ (w1 := ?_) (by rfl) rfl ?_ ?_; rotate_left
                 ·go_simp
                  rfl
                 refine hK.out _ _ ⟨((cell_far (p := ⟨gb345, _, none⟩) (by first | exact Nat.ne_of_lt (Nat.lt_of_lt_of_le (by have := World.block_lt_of_cell? _ _ hw346_0; first | rwa [add_block] at this | exact this) GW345.out) | (rw [add_block]; exact Nat.ne_of_lt (Nat.lt_of_lt_of_le (by have := World.block_lt_of_cell? _ _ hw346_0; first | rwa [add_block] at this | exact this) GW345.out)) | (show (Addr.add _ _).block ≠ _; rw [add_block]; exact Nat.ne_of_lt (Nat.lt_of_lt_of_le (by have := World.block_lt_of_cell? _ _ hw346_0; first | rwa [add_block] at this | exact this) GW345.out)) | (dsimp only; exact Nat.ne_of_lt (Nat.lt_of_lt_of_le (by have := World.block_lt_of_cell? _ _ hw346_0; first | rwa [add_block] at this | exact this) GW345.out))) _).trans (hHeld.1)), ((cell_far (p := ⟨gb345, _, none⟩) (by first | exact Nat.ne_of_lt (Nat.lt_of_lt_of_le (by have := World.block_lt_of_cell? _ _ hw347_0; first | rwa [add_block] at this | exact this) GW345.out) | (rw [add_block]; exact Nat.ne_of_lt (Nat.lt_of_lt_of_le (by have := World.block_lt_of_cell? _ _ hw347_0; first | rwa [add_block] at this | exact this) GW345.out)) | (show (Addr.add _ _).block ≠ _; rw [add_block]; exact Nat.ne_of_lt (Nat.lt_of_lt_of_le (by have := World.block_lt_of_cell? _ _ hw347_0; first | rwa [add_block] at this | exact this) GW345.out)) | (dsimp only; exact Nat.ne_of_lt (Nat.lt_of_lt_of_le (by have := World.block_lt_of_cell? _ _ hw347_0; first | rwa [add_block] at this | exact this) GW345.out))) _).trans (hHeld.2))⟩ (fun hHeld => ?_); clear hK K; refine done_ (done_of HT_.out (by kernel_rfl)) ?_; have hcz51_0 : w49.cell? ⟨gb345, 0, none⟩ = some (.int .u16 (IntKind.u16.wrap (a2_0 + 1))) := (blk_cell BK345.out 0).trans rfl; have hcz51_1 : w49.cell? ⟨gb345, 1, none⟩ = some (.int .u8 a2_1) := (blk_cell BK345.out 1).trans rfl; have hcz51_2 : w49.cell? ⟨gb345, 2, none⟩ = some (.bool ((Go.bits .and .u8 (rd l0 a1) 1) != 0)) := (blk_cell BK345.out 2).trans rfl; have hfz51_0 := blk_frozen BK345.out 0; have hfz51_1 := blk_frozen BK345.out 1; have hfz51_2 := blk_frozen BK345.out 2; have hcz52_0 : w49.cell? ⟨gb343, 0, none⟩ = some (.int .u16 0) := (blk_cell BK343.out 0).trans rfl; have hcz52_1 : w49.cell? ⟨gb343, 1, none⟩ = some (.int .u8 0) := (blk_cell BK343.out 1).trans rfl; have hcz52_2 : w49.cell? ⟨gb343, 2, none⟩ = some (.bool false) := (blk_cell BK343.out 2).trans rfl; have hfz52_0 := blk_frozen BK343.out 0; have hfz52_1 := blk_frozen BK343.out 1; have hfz52_2 := blk_frozen BK343.out 2
                 try go_wp2
                 refine bodyPost_ret (results_ct rfl _ _ gb343 32 #[.int .u16 (IntKind.u16.wrap (t348)), .int .u8 a2_1, .bool ((Go.bits .and .u8 (rd l0 a1) 1) != 0)] (0, 0) _ rfl (by (with_reducible repeat (first | refine blk_drewN ?_ _ | refine blk_drew ?_ | refine blk_alloc ?_ _)); refine blk_put (cs := #[.int .u16 (IntKind.u16.wrap (t348)), .int .u8 a2_1, .bool false]) ?_ 2 _ rfl; (with_reducible repeat (first | refine blk_drewN ?_ _ | refine blk_drew ?_ | refine blk_alloc ?_ _)); refine blk_put (cs := #[.int .u16 (IntKind.u16.wrap (t348)), .int .u8 0, .bool false]) ?_ 1 _ rfl; (with_reducible repeat (first | refine blk_drewN ?_ _ | refine blk_drew ?_ | refine blk_alloc ?_ _)); refine blk_put (cs := #[.int .u16 0, .int .u8 0, .bool false]) ?_ 0 _ rfl; (with_reducible repeat (first | refine blk_drewN ?_ _ | refine blk_drew ?_ | refine blk_alloc ?_ _)); refine blk_far ?_ NB343_345.out _; (with_reducible repeat (first | refine blk_drewN ?_ _ | refine blk_drew ?_ | refine blk_alloc ?_ _)); exact BK343.out) Try.underlying32 rfl (by kernel_rfl)) rfl ?_; exact ⟨by first | rfl | (simp [errW_none, errW_some] <;> rfl) | (simp only [← hji20, ← hji23]; first | rfl | (simp [errW_none, errW_some] <;> rfl)) | (simp [*, errW_none, errW_some] <;> rfl), by repeat (first | (with_reducible first | exact HB.out | apply below_alloc | apply pw_below_drewN | apply below_drew1 | refine below_set ?_ GE342.out | refine below_set ?_ GE343.out | refine below_set ?_ GE345.out) | exact HB.out)⟩
               ·rw [if_neg c25] at H
                exact absurd H (by simp)
              ·rw [if_neg c24] at H
               exact absurd H (by simp)
             ·rw [if_neg c22] at H
              exact absurd H (by simp)
            ·rw [if_neg c21] at H
             exact absurd H (by simp)
           ·rw [if_neg c19] at H
            have c19b0 : ((Go.bits .and .u8 (rd l0 a1) 4) == 0) = false := beq_eq_false_iff_ne.mpr c19; have c19b1 : ((Go.bits .and .u8 (rd l0 a1) 4) != 0) = true := bne_iff_ne.mpr c19; obtain ⟨ji53, hji53⟩ : ∃ j_ : Int, (wrap64 (a1 + 1)) = j_ := ⟨_, rfl⟩
            replace H : (if 0 ≤ (ji53) then (if (ji53) < (l0.length : Int) then (if (Go.bits .and .u8 (rd l0 a1) 8) = 0 then (if 0 ≤ (wrap64 (a1 + 2)) then (if (wrap64 (a1 + 2)) < (l0.length : Int) then (some (IntKind.u16.wrap ((IntKind.u16.wrap ((IntKind.u16.wrap (Int.tdiv a2_0 256)) * 256)) + (IntKind.u16.wrap (rd l0 (ji53)))), rd l0 (wrap64 (a1 + 2)), ((Go.bits .and .u8 (rd l0 a1) 1) != 0), x10_10)) else (none)) else (none)) else (some (IntKind.u16.wrap ((IntKind.u16.wrap ((IntKind.u16.wrap (Int.tdiv a2_0 256)) * 256)) + (IntKind.u16.wrap (rd l0 (ji53)))), a2_1, ((Go.bits .and .u8 (rd l0 a1) 1) != 0), x10_10))) else (none)) else (none)) = some (r1, r2, r3, r4) := by first | (rw [hji53] at H; exact H) | (simp only [hji53] at H ⊢; exact H)
            have hji53w : (IntKind.i64.wrap (a1 + 1)) = ji53 := (i64_w _).trans hji53
            by_cases c54 : 0 ≤ (ji53)
            ·rw [if_pos c54] at H
             have c54b0 : decide (0 ≤ (ji53)) = true := decide_eq_true c54; clear c54
             by_cases c55 : (ji53) < (l0.length : Int)
             ·rw [if_pos c55] at H
              have c55b0 : decide ((ji53) < (l0.length : Int)) = true := decide_eq_true c55; clear c55
              by_cases c56 : (Go.bits .and .u8 (rd l0 a1) 8) = 0
              ·rw [if_pos c56] at H
               have c56b0 : ((Go.bits .and .u8 (rd l0 a1) 8) == 0) = true := beq_iff_eq.mpr c56; have c56b1 : ((Go.bits .and .u8 (rd l0 a1) 8) != 0) = false := bne_eq_false_iff_eq.mpr c56; clear c56; obtain ⟨ji57, hji57⟩ : ∃ j_ : Int, (wrap64 (a1 + 2)) = j_ := ⟨_, rfl⟩
               replace H : (if 0 ≤ (ji57) then (if (ji57) < (l0.length : Int) then (some (IntKind.u16.wrap ((IntKind.u16.wrap ((IntKind.u16.wrap (Int.tdiv a2_0 256)) * 256)) + (IntKind.u16.wrap (rd l0 (ji53)))), rd l0 (ji57), ((Go.bits .and .u8 (rd l0 a1) 1) != 0), x10_10)) else (none)) else (none)) = some (r1, r2, r3, r4) := by first | (rw [hji57] at H; exact H) | (simp only [hji57] at H ⊢; exact H)
               have hji57w : (IntKind.i64.wrap (a1 + 2)) = ji57 := (i64_w _).trans hji57
               by_cases c58 : 0 ≤ (ji57)
               ·rw [if_pos c58] at H
                have c58b0 : decide (0 ≤ (ji57)) = true := decide_eq_true c58; clear c58
                by_cases c59 : (ji57) < (l0.length : Int)
                ·rw [if_pos c59] at H
                 have c59b0 : decide ((ji57) < (l0.length : Int)) = true := decide_eq_true c59; clear c59; simp only [Option.some.injEq, Prod.mk.injEq] at H; obtain ⟨rfl, rfl, rfl, rfl⟩ := H; have hnb60 := NB342_343.out; have hnc60 := NB343_342.out; have hcz61_0 : wc.cell? ⟨gb342, 0, none⟩ = some (.int .u16 a2_0) := (blk_cell BK342.out 0).trans rfl; have hcz61_1 : wc.cell? ⟨gb342, 1, none⟩ = some (.int .u8 a2_1) := (blk_cell BK342.out 1).trans rfl; have hcz61_2 : wc.cell? ⟨gb342, 2, none⟩ = some (.bool a2_2) := (blk_cell BK342.out 2).trans rfl; have hfz61_0 := blk_frozen BK342.out 0; have hfz61_1 := blk_frozen BK342.out 1; have hfz61_2 := blk_frozen BK342.out 2
                 try go_wp2_with (first | ((with_reducible refine gate_dst (N := 11) rfl ?_); (try (refine gate_guard (by rfl) ?_; dsimp only)); refine box_event ?hg (N := 11) ?hd (cs := #[.int .u16 0, .int .u8 0, .bool false]) (t := 32) ?hr ?_; (case hd => rfl); (case hg => rfl); (case hr => first | (go_simp; done) | (go_simp; rfl)); intro gb345 hg w62 hbox hb; have n0_ := Aside0.mk (blk_below (g := gb342) (o := .cells #[.int .u16 a2_0, .int .u8 a2_1, .bool a2_2] 32 (0, 0)) (by (with_reducible repeat (first | refine blk_drewN ?_ _ | refine blk_drew ?_ | refine blk_alloc ?_ _)); exact BK342.out) hb); have n1_ := Aside0.mk (blk_below (g := gb343) (o := .cells #[.int .u16 0, .int .u8 0, .bool false] 32 (0, 0)) (by (with_reducible repeat (first | refine blk_drewN ?_ _ | refine blk_drew ?_ | refine blk_alloc ?_ _)); exact BK343.out) hb); have n2_ := Aside0.mk (below_step (by repeat (first | (with_reducible first | exact HB.out | apply below_alloc | apply pw_below_drewN | apply below_drew1 | refine below_set ?_ GE342.out | refine below_set ?_ GE343.out) | exact HB.out)) hb); have n3_ := Aside0.mk (hbox); have n4_ := Aside0.mk ((by rw [hg]; exact (below_size (by repeat (first | (with_reducible first | exact HB.out | apply below_alloc | apply pw_below_drewN | apply below_drew1 | refine below_set ?_ GE342.out | refine below_set ?_ GE343.out) | exact HB.out))) : w.heap.size ≤ gb345)); have n5_ := Aside0.mk ((by rw [hg]; exact (below_size (by repeat (first | (with_reducible first | exact HB.out | apply below_alloc | apply pw_below_drewN | apply below_drew1 | refine below_set ?_ GE342.out | refine below_set ?_ GE343.out) | exact HB.out))) : w.heap.size ≤ gb345)); have n6_ := Aside0.mk ((by rw [hg]; exact Nat.ne_of_lt (blk_lt (g := gb342) (o := .cells #[.int .u16 a2_0, .int .u8 a2_1, .bool a2_2] 32 (0, 0)) (by (with_reducible repeat (first | refine blk_drewN ?_ _ | refine blk_drew ?_ | refine blk_alloc ?_ _)); exact BK342.out)) : gb342 ≠ gb345)); have n7_ := Aside0.mk ((by rw [hg]; exact Nat.ne_of_gt (blk_lt (g := gb342) (o := .cells #[.int .u16 a2_0, .int .u8 a2_1, .bool a2_2] 32 (0, 0)) (by (with_reducible repeat (first | refine blk_drewN ?_ _ | refine blk_drew ?_ | refine blk_alloc ?_ _)); exact BK342.out)) : gb345 ≠ gb342)); have n8_ := Aside0.mk ((by rw [hg]; exact Nat.ne_of_lt (blk_lt (g := gb343) (o := .cells #[.int .u16 0, .int .u8 0, .bool false] 32 (0, 0)) (by (with_reducible repeat (first | refine blk_drewN ?_ _ | refine blk_drew ?_ | refine blk_alloc ?_ _)); exact BK343.out)) : gb343 ≠ gb345)); have n9_ := Aside0.mk ((by rw [hg]; exact Nat.ne_of_gt (blk_lt (g := gb343) (o := .cells #[.int .u16 0, .int .u8 0, .bool false] 32 (0, 0)) (by (with_reducible repeat (first | refine blk_drewN ?_ _ | refine blk_drew ?_ | refine blk_alloc ?_ _)); exact BK343.out)) : gb345 ≠ gb343)); clear BK342; clear BK343; clear HB; have BK342 := n0_; have BK343 := n1_; have HB := n2_; have BK345 := n3_; have GW345 := n4_; have GE345 := n5_; have NB342_345 := n6_; have NB345_342 := n7_; have NB343_345 := n8_; have NB345_343 := n9_; clear n0_ n1_ n2_ n3_ n4_ n5_ n6_ n7_ n8_ n9_; clear hb hbox hg; have hnb63 := NB345_342.out; have hnc63 := NB342_345.out; have hnb64 := NB345_343.out; have hnc64 := NB343_345.out; have hcz65_0 : w62.cell? ⟨gb345, 0, none⟩ = some (.int .u16 0) := (blk_cell BK345.out 0).trans rfl; have hcz65_1 : w62.cell? ⟨gb345, 1, none⟩ = some (.int .u8 0) := (blk_cell BK345.out 1).trans rfl; have hcz65_2 : w62.cell? ⟨gb345, 2, none⟩ = some (.bool false) := (blk_cell BK345.out 2).trans rfl; have hfz65_0 := blk_frozen BK345.out 0; have hfz65_1 := blk_frozen BK345.out 1; have hfz65_2 := blk_frozen BK345.out 2))
                 have n0_ : Aside0 ((((w62.setCell ⟨gb345, 0, none⟩ (.int .u16 (IntKind.u16.wrap (a2_0 + 1)))).setCell ⟨gb345, 1, none⟩ (.int .u8 a2_1)).setCell ⟨gb345, 2, none⟩ (.bool ((Go.bits .and .u8 (rd l0 a1) 1) != 0))).heap[gb342]? = some (.cells #[.int .u16 a2_0, .int .u8 a2_1, .bool a2_2] 32 (0, 0))) := ⟨by (with_reducible repeat (first | refine blk_drewN ?_ _ | refine blk_drew ?_ | refine blk_alloc ?_ _)); refine blk_far ?_ NB342_345.out _; (with_reducible repeat (first | refine blk_drewN ?_ _ | refine blk_drew ?_ | refine blk_alloc ?_ _)); refine blk_far ?_ NB342_345.out _; (with_reducible repeat (first | refine blk_drewN ?_ _ | refine blk_drew ?_ | refine blk_alloc ?_ _)); refine blk_far ?_ NB342_345.out _; (with_reducible repeat (first | refine blk_drewN ?_ _ | refine blk_drew ?_ | refine blk_alloc ?_ _)); exact BK342.out⟩; have n1_ : Aside0 ((((w62.setCell ⟨gb345, 0, none⟩ (.int .u16 (IntKind.u16.wrap (a2_0 + 1)))).setCell ⟨gb345, 1, none⟩ (.int .u8 a2_1)).setCell ⟨gb345, 2, none⟩ (.bool ((Go.bits .and .u8 (rd l0 a1) 1) != 0))).heap[gb343]? = some (.cells #[.int .u16 0, .int .u8 0, .bool false] 32 (0, 0))) := ⟨by (with_reducible repeat (first | refine blk_drewN ?_ _ | refine blk_drew ?_ | refine blk_alloc ?_ _)); refine blk_far ?_ NB343_345.out _; (with_reducible repeat (first | refine blk_drewN ?_ _ | refine blk_drew ?_ | refine blk_alloc ?_ _)); refine blk_far ?_ NB343_345.out _; (with_reducible repeat (first | refine blk_drewN ?_ _ | refine blk_drew ?_ | refine blk_alloc ?_ _)); refine blk_far ?_ NB343_345.out _; (with_reducible repeat (first | refine blk_drewN ?_ _ | refine blk_drew ?_ | refine blk_alloc ?_ _)); exact BK343.out⟩; have n2_ : Aside0 ((((w62.setCell ⟨gb345, 0, none⟩ (.int .u16 (IntKind.u16.wrap (a2_0 + 1)))).setCell ⟨gb345, 1, none⟩ (.int .u8 a2_1)).setCell ⟨gb345, 2, none⟩ (.bool ((Go.bits .and .u8 (rd l0 a1) 1) != 0))).heap[gb345]? = some (.cells #[.int .u16 (IntKind.u16.wrap (a2_0 + 1)), .int .u8 a2_1, .bool ((Go.bits .and .u8 (rd l0 a1) 1) != 0)] 32 (0, 0))) := ⟨by (with_reducible repeat (first | refine blk_drewN ?_ _ | refine blk_drew ?_ | refine blk_alloc ?_ _)); refine blk_put (cs := #[.int .u16 (IntKind.u16.wrap (a2_0 + 1)), .int .u8 a2_1, .bool false]) ?_ 2 _ rfl; (with_reducible repeat (first | refine blk_drewN ?_ _ | refine blk_drew ?_ | refine blk_alloc ?_ _)); refine blk_put (cs := #[.int .u16 (IntKind.u16.wrap (a2_0 + 1)), .int .u8 0, .bool false]) ?_ 1 _ rfl; (with_reducible repeat (first | refine blk_drewN ?_ _ | refine blk_drew ?_ | refine blk_alloc ?_ _)); refine blk_put (cs := #[.int .u16 0, .int .u8 0, .bool false]) ?_ 0 _ rfl; (with_reducible repeat (first | refine blk_drewN ?_ _ | refine blk_drew ?_ | refine blk_alloc ?_ _)); exact BK345.out⟩; have n3_ : Aside0 (Below w.heap.size w (((w62.setCell ⟨gb345, 0, none⟩ (.int .u16 (IntKind.u16.wrap (a2_0 + 1)))).setCell ⟨gb345, 1, none⟩ (.int .u8 a2_1)).setCell ⟨gb345, 2, none⟩ (.bool ((Go.bits .and .u8 (rd l0 a1) 1) != 0)))) := ⟨by repeat (first | (with_reducible first | exact HB.out | apply below_alloc | apply pw_below_drewN | apply below_drew1 | refine below_set ?_ GE342.out | refine below_set ?_ GE343.out | refine below_set ?_ GE345.out) | exact HB.out)⟩; (try clear BK342); (try clear BK343); (try clear BK345); (try clear HB)
                 generalize (((w62.setCell ⟨gb345, 0, none⟩ (.int .u16 (IntKind.u16.wrap (a2_0 + 1)))).setCell ⟨gb345, 1, none⟩ (.int .u8 a2_1)).setCell ⟨gb345, 2, none⟩ (.bool ((Go.bits .and .u8 (rd l0 a1) 1) != 0))) = w66 at n0_ n1_ n2_ n3_ ⊢
                 have BK342 := n0_; have BK343 := n1_; have BK345 := n2_; have HB := n3_; clear n0_ n1_ n2_ n3_; have n0_ := Aside0.mk (blk_drew BK342.out); have n1_ := Aside0.mk (blk_drew BK343.out); have n2_ := Aside0.mk (blk_drew BK345.out); have n3_ := Aside0.mk (below_drew1 HB.out); clear BK342; clear BK343; clear BK345; clear HB; have BK342 := n0_; have BK343 := n1_; have BK345 := n2_; have HB := n3_; clear n0_ n1_ n2_ n3_; have p350 : 0 ≤ ((ji53) : Int) := of_decide_eq_true (by first | (with_reducible assumption) | assumption); have q350 : (ji53) < (l0.length : Int) := of_decide_eq_true (by first | (with_reducible assumption) | assumption); obtain ⟨ad350, e350, hx350_0⟩ := Kd.at_int HR0.out (ji53) p350 q350; have hw350_0 := hx350_0; obtain rfl : ad344 = ad350 := (by injection e350); replace hx350_0 := (HB.out.cell (World.block_lt_of_cell? w _ hx350_0)).trans hx350_0; replace p350 := eq_true p350; replace q350 := eq_true q350; refine start_ (n := 13) (S := fun w' => w'.cell? ⟨gb342, 0, none⟩ = some (.int .u16 a2_0) ∧ w'.cell? ⟨gb342, 1, none⟩ = some (.int .u8 a2_1) ∧ w'.cell? ⟨gb342, 2, none⟩ = some (.bool a2_2) ∧ w'.cell? (ad344.add ((ji53)).toNat) = some (.int .u8 (rd l0 (ji53)))) (ds := []) #[false, false, false, false, false, false, false, false, false, false, false, false, false] (by kernel_rfl) rfl rfl ⟨(blk_cell BK342.out 0).trans rfl, (blk_cell BK342.out 1).trans rfl, (blk_cell BK342.out 2).trans rfl, ((HB.out.cell (World.block_lt_of_cell? w _ hw350_0)).trans hw350_0)⟩ (fun hHeld => ?_); refine with_tabW spec_l16Read.tab17 spec_l16Read.bits17 (fun HT_ HW_ => ?_)
                 generalize w66.drew = w67 at BK342 BK343 BK345 HB hx350_0 hHeld ⊢
                 refine pure_ (i := 0) (N := some 68) (v := ?_) (a' := ?_) #[true, false, false, false, false, false, false, false, false, false, false, false, false] rfl rfl (any_of HT_.out (by kernel_rfl)) (fun _ _ _ h => h) (Or.inl ⟨by rfl, ?_⟩) ?_ ?_; rotate_left
                 ·intro w'
                  go_simp
                  with_reducible rfl
                 rotate_left
                 ·simp only [Act.put, List.setIfInBounds_toArray, List.set_cons_zero, List.set_cons_succ, i64_w, i32_w]
                  rfl
                 refine pure_ (i := 4) (N := some 72) (v := ?_) (a' := ?_) #[true, false, false, false, true, false, false, false, false, false, false, false, false] rfl rfl (any_of HT_.out (by kernel_rfl)) (fun _ _ _ h => h) (Or.inl ⟨by rfl, ?_⟩) ?_ ?_; rotate_left
                 ·intro w'
                  go_simp
                  with_reducible rfl
                 rotate_left
                 ·simp only [Act.put, List.setIfInBounds_toArray, List.set_cons_zero, List.set_cons_succ, i64_w, i32_w]
                  rfl
                 refine pure_ (i := 5) (N := some 73) (v := ?_) (a' := ?_) #[true, false, false, false, true, true, false, false, false, false, false, false, false] rfl rfl (any_of HT_.out (by kernel_rfl)) (fun _ _ _ h => h) (Or.inl ⟨by rfl, ?_⟩) ?_ ?_; rotate_left
                 ·intro w'
                  go_simp
                  with_reducible rfl
                 rotate_left
                 ·simp only [Act.put, List.setIfInBounds_toArray, List.set_cons_zero, List.set_cons_succ, i64_w, i32_w]
                  rfl
                 refine pure_ (i := 6) (N := some 74) (v := ?_) (a' := ?_) #[true, false, false, false, true, true, true, false, false, false, false, false, false] rfl rfl (any_of HT_.out (by kernel_rfl)) (fun _ _ _ h => h) (Or.inl ⟨by rfl, ?_⟩) ?_ ?_; rotate_left
                 ·intro w'
                  go_simp
                  with_reducible rfl
                 rotate_left
                 ·simp only [Act.put, List.setIfInBounds_toArray, List.set_cons_zero, List.set_cons_succ, i64_w, i32_w]
                  rfl
                 refine pure_ (i := 7) (N := some 75) (v := ?_) (a' := ?_) #[true, false, false, false, true, true, true, true, false, false, false, false, false] rfl rfl (any_of HT_.out (by kernel_rfl)) (fun _ _ _ h => h) (Or.inl ⟨by rfl, ?_⟩) ?_ ?_; rotate_left
                 ·intro w'
                  go_simp
                  with_reducible rfl
                 rotate_left
                 ·simp only [Act.put, List.setIfInBounds_toArray, List.set_cons_zero, List.set_cons_succ, i64_w, i32_w]
                  rfl
                 refine take_ (i := 1) (N := some 69) (v := ?_) (a' := ?_) #[true, true, false, false, true, true, true, true, false, false, false, false, false] rfl rfl (take_ofW HT_.out HW_.out (by kernel_rfl)) (fun _ _ _ h => h) (Or.inl ⟨by rfl, ?_⟩) hHeld ?_ ?_; rotate_left
                 ·rintro w' ⟨s0, s1, s2, s3⟩
                  go_simp
                  with_reducible rfl
                 rotate_left
                 ·simp only [Act.put, List.setIfInBounds_toArray, List.set_cons_zero, List.set_cons_succ, i64_w, i32_w]
                  rfl
                 refine pure_ (i := 2) (N := some 70) (v := ?_) (a' := ?_) #[true, true, true, false, true, true, true, true, false, false, false, false, false] rfl rfl (any_of HT_.out (by kernel_rfl)) (fun _ _ _ h => h) (Or.inl ⟨by rfl, ?_⟩) ?_ ?_; rotate_left
                 ·intro w'
                  go_simp
                  with_reducible rfl
                 rotate_left
                 ·simp only [Act.put, List.setIfInBounds_toArray, List.set_cons_zero, List.set_cons_succ, i64_w, i32_w]
                  rfl
                 refine pure_ (i := 3) (N := some 71) (v := ?_) (a' := ?_) #[true, true, true, true, true, true, true, true, false, false, false, false, false] rfl rfl (any_of HT_.out (by kernel_rfl)) (fun _ _ _ h => h) (Or.inl ⟨by rfl, ?_⟩) ?_ ?_; rotate_left
                 ·intro w'
                  go_simp
                  with_reducible rfl
                 rotate_left
                 ·simp only [Act.put, List.setIfInBounds_toArray, List.set_cons_zero, List.set_cons_succ, i64_w, i32_w]
                  rfl
                 refine take_ (i := 8) (N := some 76) (v := ?_) (a' := ?_) #[true, true, true, true, true, true, true, true, true, false, false, false, false] rfl rfl (take_ofW HT_.out HW_.out (by kernel_rfl)) (fun _ _ _ h => h) (Or.inl ⟨by rfl, ?_⟩) hHeld ?_ ?_; rotate_left
                 ·rintro w' ⟨s0, s1, s2, s3⟩
                  go_simp
                  with_reducible rfl
                 rotate_left
                 ·simp only [Act.put, List.setIfInBounds_toArray, List.set_cons_zero, List.set_cons_succ, i64_w, i32_w]
                  rfl
                 refine pure_ (i := 9) (N := some 77) (v := ?_) (a' := ?_) #[true, true, true, true, true, true, true, true, true, true, false, false, false] rfl rfl (any_of HT_.out (by kernel_rfl)) (fun _ _ _ h => h) (Or.inl ⟨by rfl, ?_⟩) ?_ ?_; rotate_left
                 ·intro w'
                  go_simp
                  with_reducible rfl
                 rotate_left
                 ·simp only [Act.put, List.setIfInBounds_toArray, List.set_cons_zero, List.set_cons_succ, i64_w, i32_w]
                  rfl
                 refine pure_ (i := 10) (N := some 78) (v := ?_) (a' := ?_) #[true, true, true, true, true, true, true, true, true, true, true, false, false] rfl rfl (any_of HT_.out (by kernel_rfl)) (fun _ _ _ h => h) (Or.inl ⟨by rfl, ?_⟩) ?_ ?_; rotate_left
                 ·intro w'
                  go_simp
                  with_reducible rfl
                 rotate_left
                 ·simp only [Act.put, List.setIfInBounds_toArray, List.set_cons_zero, List.set_cons_succ, i64_w, i32_w]
                  rfl
                 refine pure_ (i := 11) (N := some 79) (v := ?_) (a' := ?_) #[true, true, true, true, true, true, true, true, true, true, true, true, false] rfl rfl (any_of HT_.out (by kernel_rfl)) (fun _ _ _ h => h) (Or.inl ⟨by rfl, ?_⟩) ?_ ?_; rotate_left
                 ·intro w'
                  go_simp
                  with_reducible rfl
                 rotate_left
                 ·simp only [Act.put, List.setIfInBounds_toArray, List.set_cons_zero, List.set_cons_succ, i64_w, i32_w]
                  rfl
                 refine one_ (i := 12) (N := none) #[true, true, true, true, true, true, true, true, true, true, true, true, true] rfl rfl (one_of HT_.out (by kernel_rfl)) (by decide) (fun K hK => ?_); have hs68 : w67.cell? ⟨gb345, 0, none⟩ = some (.int .u16 (IntKind.u16.wrap (a2_0 + 1))) := (blk_cell BK345.out 0).trans rfl; have hfs68 := blk_frozen BK345.out 0; have hns68_0 := NB342_345.out; have hns68_1 := NB343_345.out; have hms68_0 := NB345_342.out; have hms68_1 := NB345_343.out; refine skip_ (w1 := ?_) (by rfl) rfl ?_ ?_; rotate_left
                 ·go_simp
                  rfl
                 refine hK.out _ _ ⟨((cell_far (p := ⟨gb345, _, none⟩) NB342_345.out _).trans (hHeld.1)), ((cell_far (p := ⟨gb345, _, none⟩) NB342_345.out _).trans (hHeld.2.1)), ((cell_far (p := ⟨gb345, _, none⟩) NB342_345.out _).trans (hHeld.2.2.1)), ((cell_far (p := ⟨gb345, _, none⟩) (by first | exact Nat.ne_of_lt (Nat.lt_of_lt_of_le (by have := World.block_lt_of_cell? _ _ hw350_0; first | rwa [add_block] at this | exact this) GW345.out) | (rw [add_block]; exact Nat.ne_of_lt (Nat.lt_of_lt_of_le (by have := World.block_lt_of_cell? _ _ hw350_0; first | rwa [add_block] at this | exact this) GW345.out)) | (show (Addr.add _ _).block ≠ _; rw [add_block]; exact Nat.ne_of_lt (Nat.lt_of_lt_of_le (by have := World.block_lt_of_cell? _ _ hw350_0; first | rwa [add_block] at this | exact this) GW345.out)) | (dsimp only; exact Nat.ne_of_lt (Nat.lt_of_lt_of_le (by have := World.block_lt_of_cell? _ _ hw350_0; first | rwa [add_block] at this | exact this) GW345.out))) _).trans (hHeld.2.2.2))⟩ (fun hHeld => ?_); clear hK K; refine done_ (done_of HT_.out (by kernel_rfl)) ?_; have p351 : 0 ≤ ((ji57) : Int) := of_decide_eq_true (by first | (with_reducible assumption) | assumption); have q351 : (ji57) < (l0.length : Int) := of_decide_eq_true (by first | (with_reducible assumption) | assumption); obtain ⟨ad351, e351, hx351_0⟩ := Kd.at_int HR0.out (ji57) p351 q351; obtain rfl : ad344 = ad351 := (by injection e351); have hn351_0 : ad344.block ≠ gb345 := Nat.ne_of_lt (Nat.lt_of_lt_of_le (by have := World.block_lt_of_cell? _ _ hx351_0; first | rwa [add_block] at this | exact this) GW345.out); replace hx351_0 := (HB.out.cell (World.block_lt_of_cell? w _ hx351_0)).trans hx351_0; replace hx351_0 := (cell_far (p := ⟨gb345, 0, none⟩) (by first | (rw [add_block]; exact hn351_0) | (show (Addr.add _ _).block ≠ _; rw [add_block]; exact hn351_0) | exact hn351_0) (.int .u16 (IntKind.u16.wrap ((IntKind.u16.wrap ((IntKind.u16.wrap (Int.tdiv a2_0 256)) * 256)) + (IntKind.u16.wrap (rd l0 (ji53))))))).trans hx351_0; clear hn351_0; replace p351 := eq_true p351; replace q351 := eq_true q351; have hcz69_0 : w67.cell? ⟨gb345, 0, none⟩ = some (.int .u16 (IntKind.u16.wrap (a2_0 + 1))) := (blk_cell BK345.out 0).trans rfl; have hcz69_1 : w67.cell? ⟨gb345, 1, none⟩ = some (.int .u8 a2_1) := (blk_cell BK345.out 1).trans rfl; have hcz69_2 : w67.cell? ⟨gb345, 2, none⟩ = some (.bool ((Go.bits .and .u8 (rd l0 a1) 1) != 0)) := (blk_cell BK345.out 2).trans rfl; have hfz69_0 := blk_frozen BK345.out 0; have hfz69_1 := blk_frozen BK345.out 1; have hfz69_2 := blk_frozen BK345.out 2; have hcz70_0 : w67.cell? ⟨gb343, 0, none⟩ = some (.int .u16 0) := (blk_cell BK343.out 0).trans rfl; have hcz70_1 : w67.cell? ⟨gb343, 1, none⟩ = some (.int .u8 0) := (blk_cell BK343.out 1).trans rfl; have hcz70_2 : w67.cell? ⟨gb343, 2, none⟩ = some (.bool false) := (blk_cell BK343.out 2).trans rfl; have hfz70_0 := blk_frozen BK343.out 0; have hfz70_1 := blk_frozen BK343.out 1; have hfz70_2 := blk_frozen BK343.out 2
                 try go_wp2
                 refine bodyPost_ret (results_ct rfl _ _ gb343 32 #[.int .u16 (IntKind.u16.wrap ((IntKind.u16.wrap ((IntKind.u16.wrap (Int.tdiv a2_0 256)) * 256)) + (IntKind.u16.wrap (rd l0 (ji53))))), .int .u8 (rd l0 (ji57)), .bool ((Go.bits .and .u8 (rd l0 a1) 1) != 0)] (0, 0) _ rfl (by (with_reducible repeat (first | refine blk_drewN ?_ _ | refine blk_drew ?_ | refine blk_alloc ?_ _)); refine blk_put (cs := #[.int .u16 (IntKind.u16.wrap ((IntKind.u16.wrap ((IntKind.u16.wrap (Int.tdiv a2_0 256)) * 256)) + (IntKind.u16.wrap (rd l0 (ji53))))), .int .u8 (rd l0 (ji57)), .bool false]) ?_ 2 _ rfl; (with_reducible repeat (first | refine blk_drewN ?_ _ | refine blk_drew ?_ | refine blk_alloc ?_ _)); refine blk_put (cs := #[.int .u16 (IntKind.u16.wrap ((IntKind.u16.wrap ((IntKind.u16.wrap (Int.tdiv a2_0 256)) * 256)) + (IntKind.u16.wrap (rd l0 (ji53))))), .int .u8 0, .bool false]) ?_ 1 _ rfl; (with_reducible repeat (first | refine blk_drewN ?_ _ | refine blk_drew ?_ | refine blk_alloc ?_ _)); refine blk_put (cs := #[.int .u16 0, .int .u8 0, .bool false]) ?_ 0 _ rfl; (with_reducible repeat (first | refine blk_drewN ?_ _ | refine blk_drew ?_ | refine blk_alloc ?_ _)); refine blk_far ?_ NB343_345.out _; (with_reducible repeat (first | refine blk_drewN ?_ _ | refine blk_drew ?_ | refine blk_alloc ?_ _)); refine blk_far ?_ NB343_345.out _; (with_reducible repeat (first | refine blk_drewN ?_ _ | refine blk_drew ?_ | refine blk_alloc ?_ _)); exact BK343.out) Try.underlying32 rfl (by kernel_rfl)) rfl ?_; exact ⟨by first | rfl | (simp [errW_none, errW_some] <;> rfl) | (simp only [← hji53, ← hji57]; first | rfl | (simp [errW_none, errW_some] <;> rfl)) | (simp [*, errW_none, errW_some] <;> rfl), by repeat (first | (with_reducible first | exact HB.out | apply below_alloc | apply pw_below_drewN | apply below_drew1 | refine below_set ?_ GE342.out | refine below_set ?_ GE343.out | refine below_set ?_ GE345.out) | exact HB.out)⟩
                ·rw [if_neg c59] at H
                 exact absurd H (by simp)
               ·rw [if_neg c58] at H
                exact absurd H (by simp)
              ·rw [if_neg c56] at H
               have c56b0 : ((Go.bits .and .u8 (rd l0 a1) 8) == 0) = false := beq_eq_false_iff_ne.mpr c56; have c56b1 : ((Go.bits .and .u8 (rd l0 a1) 8) != 0) = true := bne_iff_ne.mpr c56; simp only [Option.some.injEq, Prod.mk.injEq] at H; obtain ⟨rfl, rfl, rfl, rfl⟩ := H; have hnb71 := NB342_343.out; have hnc71 := NB343_342.out; have hcz72_0 : wc.cell? ⟨gb342, 0, none⟩ = some (.int .u16 a2_0) := (blk_cell BK342.out 0).trans rfl; have hcz72_1 : wc.cell? ⟨gb342, 1, none⟩ = some (.int .u8 a2_1) := (blk_cell BK342.out 1).trans rfl; have hcz72_2 : wc.cell? ⟨gb342, 2, none⟩ = some (.bool a2_2) := (blk_cell BK342.out 2).trans rfl; have hfz72_0 := blk_frozen BK342.out 0; have hfz72_1 := blk_frozen BK342.out 1; have hfz72_2 := blk_frozen BK342.out 2
               try go_wp2_with (first | ((with_reducible refine gate_dst (N := 11) rfl ?_); (try (refine gate_guard (by rfl) ?_; dsimp only)); refine box_event ?hg (N := 11) ?hd (cs := #[.int .u16 0, .int .u8 0, .bool false]) (t := 32) ?hr ?_; (case hd => rfl); (case hg => rfl); (case hr => first | (go_simp; done) | (go_simp; rfl)); intro gb345 hg w73 hbox hb; have n0_ := Aside0.mk (blk_below (g := gb342) (o := .cells #[.int .u16 a2_0, .int .u8 a2_1, .bool a2_2] 32 (0, 0)) (by (with_reducible repeat (first | refine blk_drewN ?_ _ | refine blk_drew ?_ | refine blk_alloc ?_ _)); exact BK342.out) hb); have n1_ := Aside0.mk (blk_below (g := gb343) (o := .cells #[.int .u16 0, .int .u8 0, .bool false] 32 (0, 0)) (by (with_reducible repeat (first | refine blk_drewN ?_ _ | refine blk_drew ?_ | refine blk_alloc ?_ _)); exact BK343.out) hb); have n2_ := Aside0.mk (below_step (by repeat (first | (with_reducible first | exact HB.out | apply below_alloc | apply pw_below_drewN | apply below_drew1 | refine below_set ?_ GE342.out | refine below_set ?_ GE343.out) | exact HB.out)) hb); have n3_ := Aside0.mk (hbox); have n4_ := Aside0.mk ((by rw [hg]; exact (below_size (by repeat (first | (with_reducible first | exact HB.out | apply below_alloc | apply pw_below_drewN | apply below_drew1 | refine below_set ?_ GE342.out | refine below_set ?_ GE343.out) | exact HB.out))) : w.heap.size ≤ gb345)); have n5_ := Aside0.mk ((by rw [hg]; exact (below_size (by repeat (first | (with_reducible first | exact HB.out | apply below_alloc | apply pw_below_drewN | apply below_drew1 | refine below_set ?_ GE342.out | refine below_set ?_ GE343.out) | exact HB.out))) : w.heap.size ≤ gb345)); have n6_ := Aside0.mk ((by rw [hg]; exact Nat.ne_of_lt (blk_lt (g := gb342) (o := .cells #[.int .u16 a2_0, .int .u8 a2_1, .bool a2_2] 32 (0, 0)) (by (with_reducible repeat (first | refine blk_drewN ?_ _ | refine blk_drew ?_ | refine blk_alloc ?_ _)); exact BK342.out)) : gb342 ≠ gb345)); have n7_ := Aside0.mk ((by rw [hg]; exact Nat.ne_of_gt (blk_lt (g := gb342) (o := .cells #[.int .u16 a2_0, .int .u8 a2_1, .bool a2_2] 32 (0, 0)) (by (with_reducible repeat (first | refine blk_drewN ?_ _ | refine blk_drew ?_ | refine blk_alloc ?_ _)); exact BK342.out)) : gb345 ≠ gb342)); have n8_ := Aside0.mk ((by rw [hg]; exact Nat.ne_of_lt (blk_lt (g := gb343) (o := .cells #[.int .u16 0, .int .u8 0, .bool false] 32 (0, 0)) (by (with_reducible repeat (first | refine blk_drewN ?_ _ | refine blk_drew ?_ | refine blk_alloc ?_ _)); exact BK343.out)) : gb343 ≠ gb345)); have n9_ := Aside0.mk ((by rw [hg]; exact Nat.ne_of_gt (blk_lt (g := gb343) (o := .cells #[.int .u16 0, .int .u8 0, .bool false] 32 (0, 0)) (by (with_reducible repeat (first | refine blk_drewN ?_ _ | refine blk_drew ?_ | refine blk_alloc ?_ _)); exact BK343.out)) : gb345 ≠ gb343)); clear BK342; clear BK343; clear HB; have BK342 := n0_; have BK343 := n1_; have HB := n2_; have BK345 := n3_; have GW345 := n4_; have GE345 := n5_; have NB342_345 := n6_; have NB345_342 := n7_; have NB343_345 := n8_; have NB345_343 := n9_; clear n0_ n1_ n2_ n3_ n4_ n5_ n6_ n7_ n8_ n9_; clear hb hbox hg; have hnb74 := NB345_342.out; have hnc74 := NB342_345.out; have hnb75 := NB345_343.out; have hnc75 := NB343_345.out; have hcz76_0 : w73.cell? ⟨gb345, 0, none⟩ = some (.int .u16 0) := (blk_cell BK345.out 0).trans rfl; have hcz76_1 : w73.cell? ⟨gb345, 1, none⟩ = some (.int .u8 0) := (blk_cell BK345.out 1).trans rfl; have hcz76_2 : w73.cell? ⟨gb345, 2, none⟩ = some (.bool false) := (blk_cell BK345.out 2).trans rfl; have hfz76_0 := blk_frozen BK345.out 0; have hfz76_1 := blk_frozen BK345.out 1; have hfz76_2 := blk_frozen BK345.out 2))
               have n0_ : Aside0 ((((w73.setCell ⟨gb345, 0, none⟩ (.int .u16 (IntKind.u16.wrap (a2_0 + 1)))).setCell ⟨gb345, 1, none⟩ (.int .u8 a2_1)).setCell ⟨gb345, 2, none⟩ (.bool ((Go.bits .and .u8 (rd l0 a1) 1) != 0))).heap[gb342]? = some (.cells #[.int .u16 a2_0, .int .u8 a2_1, .bool a2_2] 32 (0, 0))) := ⟨by (with_reducible repeat (first | refine blk_drewN ?_ _ | refine blk_drew ?_ | refine blk_alloc ?_ _)); refine blk_far ?_ NB342_345.out _; (with_reducible repeat (first | refine blk_drewN ?_ _ | refine blk_drew ?_ | refine blk_alloc ?_ _)); refine blk_far ?_ NB342_345.out _; (with_reducible repeat (first | refine blk_drewN ?_ _ | refine blk_drew ?_ | refine blk_alloc ?_ _)); refine blk_far ?_ NB342_345.out _; (with_reducible repeat (first | refine blk_drewN ?_ _ | refine blk_drew ?_ | refine blk_alloc ?_ _)); exact BK342.out⟩; have n1_ : Aside0 ((((w73.setCell ⟨gb345, 0, none⟩ (.int .u16 (IntKind.u16.wrap (a2_0 + 1)))).setCell ⟨gb345, 1, none⟩ (.int .u8 a2_1)).setCell ⟨gb345, 2, none⟩ (.bool ((Go.bits .and .u8 (rd l0 a1) 1) != 0))).heap[gb343]? = some (.cells #[.int .u16 0, .int .u8 0, .bool false] 32 (0, 0))) := ⟨by (with_reducible repeat (first | refine blk_drewN ?_ _ | refine blk_drew ?_ | refine blk_alloc ?_ _)); refine blk_far ?_ NB343_345.out _; (with_reducible repeat (first | refine blk_drewN ?_ _ | refine blk_drew ?_ | refine blk_alloc ?_ _)); refine blk_far ?_ NB343_345.out _; (with_reducible repeat (first | refine blk_drewN ?_ _ | refine blk_drew ?_ | refine blk_alloc ?_ _)); refine blk_far ?_ NB343_345.out _; (with_reducible repeat (first | refine blk_drewN ?_ _ | refine blk_drew ?_ | refine blk_alloc ?_ _)); exact BK343.out⟩; have n2_ : Aside0 ((((w73.setCell ⟨gb345, 0, none⟩ (.int .u16 (IntKind.u16.wrap (a2_0 + 1)))).setCell ⟨gb345, 1, none⟩ (.int .u8 a2_1)).setCell ⟨gb345, 2, none⟩ (.bool ((Go.bits .and .u8 (rd l0 a1) 1) != 0))).heap[gb345]? = some (.cells #[.int .u16 (IntKind.u16.wrap (a2_0 + 1)), .int .u8 a2_1, .bool ((Go.bits .and .u8 (rd l0 a1) 1) != 0)] 32 (0, 0))) := ⟨by (with_reducible repeat (first | refine blk_drewN ?_ _ | refine blk_drew ?_ | refine blk_alloc ?_ _)); refine blk_put (cs := #[.int .u16 (IntKind.u16.wrap (a2_0 + 1)), .int .u8 a2_1, .bool false]) ?_ 2 _ rfl; (with_reducible repeat (first | refine blk_drewN ?_ _ | refine blk_drew ?_ | refine blk_alloc ?_ _)); refine blk_put (cs := #[.int .u16 (IntKind.u16.wrap (a2_0 + 1)), .int .u8 0, .bool false]) ?_ 1 _ rfl; (with_reducible repeat (first | refine blk_drewN ?_ _ | refine blk_drew ?_ | refine blk_alloc ?_ _)); refine blk_put (cs := #[.int .u16 0, .int .u8 0, .bool false]) ?_ 0 _ rfl; (with_reducible repeat (first | refine blk_drewN ?_ _ | refine blk_drew ?_ | refine blk_alloc ?_ _)); exact BK345.out⟩; have n3_ : Aside0 (Below w.heap.size w (((w73.setCell ⟨gb345, 0, none⟩ (.int .u16 (IntKind.u16.wrap (a2_0 + 1)))).setCell ⟨gb345, 1, none⟩ (.int .u8 a2_1)).setCell ⟨gb345, 2, none⟩ (.bool ((Go.bits .and .u8 (rd l0 a1) 1) != 0)))) := ⟨by repeat (first | (with_reducible first | exact HB.out | apply below_alloc | apply pw_below_drewN | apply below_drew1 | refine below_set ?_ GE342.out | refine below_set ?_ GE343.out | refine below_set ?_ GE345.out) | exact HB.out)⟩; (try clear BK342); (try clear BK343); (try clear BK345); (try clear HB)
               generalize (((w73.setCell ⟨gb345, 0, none⟩ (.int .u16 (IntKind.u16.wrap (a2_0 + 1)))).setCell ⟨gb345, 1, none⟩ (.int .u8 a2_1)).setCell ⟨gb345, 2, none⟩ (.bool ((Go.bits .and .u8 (rd l0 a1) 1) != 0))) = w77 at n0_ n1_ n2_ n3_ ⊢
               have BK342 := n0_; have BK343 := n1_; have BK345 := n2_; have HB := n3_; clear n0_ n1_ n2_ n3_; have n0_ := Aside0.mk (blk_drew BK342.out); have n1_ := Aside0.mk (blk_drew BK343.out); have n2_ := Aside0.mk (blk_drew BK345.out); have n3_ := Aside0.mk (below_drew1 HB.out); clear BK342; clear BK343; clear BK345; clear HB; have BK342 := n0_; have BK343 := n1_; have BK345 := n2_; have HB := n3_; clear n0_ n1_ n2_ n3_; have p350 : 0 ≤ ((ji53) : Int) := of_decide_eq_true (by first | (with_reducible assumption) | assumption); have q350 : (ji53) < (l0.length : Int) := of_decide_eq_true (by first | (with_reducible assumption) | assumption); obtain ⟨ad350, e350, hx350_0⟩ := Kd.at_int HR0.out (ji53) p350 q350; have hw350_0 := hx350_0; obtain rfl : ad344 = ad350 := (by injection e350); replace hx350_0 := (HB.out.cell (World.block_lt_of_cell? w _ hx350_0)).trans hx350_0; replace p350 := eq_true p350; replace q350 := eq_true q350; refine start_ (n := 13) (S := fun w' => w'.cell? ⟨gb342, 0, none⟩ = some (.int .u16 a2_0) ∧ w'.cell? ⟨gb342, 1, none⟩ = some (.int .u8 a2_1) ∧ w'.cell? ⟨gb342, 2, none⟩ = some (.bool a2_2) ∧ w'.cell? (ad344.add ((ji53)).toNat) = some (.int .u8 (rd l0 (ji53)))) (ds := []) #[false, false, false, false, false, false, false, false, false, false, false, false, false] (by kernel_rfl) rfl rfl ⟨(blk_cell BK342.out 0).trans rfl, (blk_cell BK342.out 1).trans rfl, (blk_cell BK342.out 2).trans rfl, ((HB.out.cell (World.block_lt_of_cell? w _ hw350_0)).trans hw350_0)⟩ (fun hHeld => ?_); refine with_tabW spec_l16Read.tab17 spec_l16Read.bits17 (fun HT_ HW_ => ?_)
               generalize w77.drew = w78 at BK342 BK343 BK345 HB hx350_0 hHeld ⊢
               refine pure_ (i := 0) (N := some 68) (v := ?_) (a' := ?_) #[true, false, false, false, false, false, false, false, false, false, false, false, false] rfl rfl (any_of HT_.out (by kernel_rfl)) (fun _ _ _ h => h) (Or.inl ⟨by rfl, ?_⟩) ?_ ?_; rotate_left
               ·intro w'
                go_simp
                with_reducible rfl
               rotate_left
               ·simp only [Act.put, List.setIfInBounds_toArray, List.set_cons_zero, List.set_cons_succ, i64_w, i32_w]
                rfl
               refine pure_ (i := 4) (N := some 72) (v := ?_) (a' := ?_) #[true, false, false, false, true, false, false, false, false, false, false, false, false] rfl rfl (any_of HT_.out (by kernel_rfl)) (fun _ _ _ h => h) (Or.inl ⟨by rfl, ?_⟩) ?_ ?_; rotate_left
               ·intro w'
                go_simp
                with_reducible rfl
               rotate_left
               ·simp only [Act.put, List.setIfInBounds_toArray, List.set_cons_zero, List.set_cons_succ, i64_w, i32_w]
                rfl
               refine pure_ (i := 5) (N := some 73) (v := ?_) (a' := ?_) #[true, false, false, false, true, true, false, false, false, false, false, false, false] rfl rfl (any_of HT_.out (by kernel_rfl)) (fun _ _ _ h => h) (Or.inl ⟨by rfl, ?_⟩) ?_ ?_; rotate_left
               ·intro w'
                go_simp
                with_reducible rfl
               rotate_left
               ·simp only [Act.put, List.setIfInBounds_toArray, List.set_cons_zero, List.set_cons_succ, i64_w, i32_w]
                rfl
               refine pure_ (i := 6) (N := some 74) (v := ?_) (a' := ?_) #[true, false, false, false, true, true, true, false, false, false, false, false, false] rfl rfl (any_of HT_.out (by kernel_rfl)) (fun _ _ _ h => h) (Or.inl ⟨by rfl, ?_⟩) ?_ ?_; rotate_left
               ·intro w'
                go_simp
                with_reducible rfl
               rotate_left
               ·simp only [Act.put, List.setIfInBounds_toArray, List.set_cons_zero, List.set_cons_succ, i64_w, i32_w]
                rfl
               refine pure_ (i := 7) (N := some 75) (v := ?_) (a' := ?_) #[true, false, false, false, true, true, true, true, false, false, false, false, false] rfl rfl (any_of HT_.out (by kernel_rfl)) (fun _ _ _ h => h) (Or.inl ⟨by rfl, ?_⟩) ?_ ?_; rotate_left
               ·intro w'
                go_simp
                with_reducible rfl
               rotate_left
               ·simp only [Act.put, List.setIfInBounds_toArray, List.set_cons_zero, List.set_cons_succ, i64_w, i32_w]
                rfl
               refine take_ (i := 1) (N := some 69) (v := ?_) (a' := ?_) #[true, true, false, false, true, true, true, true, false, false, false, false, false] rfl rfl (take_ofW HT_.out HW_.out (by kernel_rfl)) (fun _ _ _ h => h) (Or.inl ⟨by rfl, ?_⟩) hHeld ?_ ?_; rotate_left
               ·rintro w' ⟨s0, s1, s2, s3⟩
                go_simp
                with_reducible rfl
               rotate_left
               ·simp only [Act.put, List.setIfInBounds_toArray, List.set_cons_zero, List.set_cons_succ, i64_w, i32_w]
                rfl
               refine pure_ (i := 2) (N := some 70) (v := ?_) (a' := ?_) #[true, true, true, false, true, true, true, true, false, false, false, false, false] rfl rfl (any_of HT_.out (by kernel_rfl)) (fun _ _ _ h => h) (Or.inl ⟨by rfl, ?_⟩) ?_ ?_; rotate_left
               ·intro w'
                go_simp
                with_reducible rfl
               rotate_left
               ·simp only [Act.put, List.setIfInBounds_toArray, List.set_cons_zero, List.set_cons_succ, i64_w, i32_w]
                rfl
               refine pure_ (i := 3) (N := some 71) (v := ?_) (a' := ?_) #[true, true, true, true, true, true, true, true, false, false, false, false, false] rfl rfl (any_of HT_.out (by kernel_rfl)) (fun _ _ _ h => h) (Or.inl ⟨by rfl, ?_⟩) ?_ ?_; rotate_left
               ·intro w'
                go_simp
                with_reducible rfl
               rotate_left
               ·simp only [Act.put, List.setIfInBounds_toArray, List.set_cons_zero, List.set_cons_succ, i64_w, i32_w]
                rfl
               refine take_ (i := 8) (N := some 76) (v := ?_) (a' := ?_) #[true, true, true, true, true, true, true, true, true, false, false, false, false] rfl rfl (take_ofW HT_.out HW_.out (by kernel_rfl)) (fun _ _ _ h => h) (Or.inl ⟨by rfl, ?_⟩) hHeld ?_ ?_; rotate_left
               ·rintro w' ⟨s0, s1, s2, s3⟩
                go_simp
                with_reducible rfl
               rotate_left
               ·simp only [Act.put, List.setIfInBounds_toArray, List.set_cons_zero, List.set_cons_succ, i64_w, i32_w]
                rfl
               refine pure_ (i := 9) (N := some 77) (v := ?_) (a' := ?_) #[true, true, true, true, true, true, true, true, true, true, false, false, false] rfl rfl (any_of HT_.out (by kernel_rfl)) (fun _ _ _ h => h) (Or.inl ⟨by rfl, ?_⟩) ?_ ?_; rotate_left
               ·intro w'
                go_simp
                with_reducible rfl
               rotate_left
               ·simp only [Act.put, List.setIfInBounds_toArray, List.set_cons_zero, List.set_cons_succ, i64_w, i32_w]
                rfl
               refine pure_ (i := 10) (N := some 78) (v := ?_) (a' := ?_) #[true, true, true, true, true, true, true, true, true, true, true, false, false] rfl rfl (any_of HT_.out (by kernel_rfl)) (fun _ _ _ h => h) (Or.inl ⟨by rfl, ?_⟩) ?_ ?_; rotate_left
               ·intro w'
                go_simp
                with_reducible rfl
               rotate_left
               ·simp only [Act.put, List.setIfInBounds_toArray, List.set_cons_zero, List.set_cons_succ, i64_w, i32_w]
                rfl
               refine pure_ (i := 11) (N := some 79) (v := ?_) (a' := ?_) #[true, true, true, true, true, true, true, true, true, true, true, true, false] rfl rfl (any_of HT_.out (by kernel_rfl)) (fun _ _ _ h => h) (Or.inl ⟨by rfl, ?_⟩) ?_ ?_; rotate_left
               ·intro w'
                go_simp
                with_reducible rfl
               rotate_left
               ·simp only [Act.put, List.setIfInBounds_toArray, List.set_cons_zero, List.set_cons_succ, i64_w, i32_w]
                rfl
               refine one_ (i := 12) (N := none) #[true, true, true, true, true, true, true, true, true, true, true, true, true] rfl rfl (one_of HT_.out (by kernel_rfl)) (by decide) (fun K hK => ?_); have hs79 : w78.cell? ⟨gb345, 0, none⟩ = some (.int .u16 (IntKind.u16.wrap (a2_0 + 1))) := (blk_cell BK345.out 0).trans rfl; have hfs79 := blk_frozen BK345.out 0; have hns79_0 := NB342_345.out; have hns79_1 := NB343_345.out; have hms79_0 := NB345_342.out; have hms79_1 := NB345_343.out; refine skip_ (w1 := ?_) (by rfl) rfl ?_ ?_; rotate_left
               ·go_simp
                rfl
               refine hK.out _ _ ⟨((cell_far (p := ⟨gb345, _, none⟩) NB342_345.out _).trans (hHeld.1)), ((cell_far (p := ⟨gb345, _, none⟩) NB342_345.out _).trans (hHeld.2.1)), ((cell_far (p := ⟨gb345, _, none⟩) NB342_345.out _).trans (hHeld.2.2.1)), ((cell_far (p := ⟨gb345, _, none⟩) (by first | exact Nat.ne_of_lt (Nat.lt_of_lt_of_le (by have := World.block_lt_of_cell? _ _ hw350_0; first | rwa [add_block] at this | exact this) GW345.out) | (rw [add_block]; exact Nat.ne_of_lt (Nat.lt_of_lt_of_le (by have := World.block_lt_of_cell? _ _ hw350_0; first | rwa [add_block] at this | exact this) GW345.out)) | (show (Addr.add _ _).block ≠ _; rw [add_block]; exact Nat.ne_of_lt (Nat.lt_of_lt_of_le (by have := World.block_lt_of_cell? _ _ hw350_0; first | rwa [add_block] at this | exact this) GW345.out)) | (dsimp only; exact Nat.ne_of_lt (Nat.lt_of_lt_of_le (by have := World.block_lt_of_cell? _ _ hw350_0; first | rwa [add_block] at this | exact this) GW345.out))) _).trans (hHeld.2.2.2))⟩ (fun hHeld => ?_); clear hK K; refine done_ (done_of HT_.out (by kernel_rfl)) ?_; have hcz80_0 : w78.cell? ⟨gb345, 0, none⟩ = some (.int .u16 (IntKind.u16.wrap (a2_0 + 1))) := (blk_cell BK345.out 0).trans rfl; have hcz80_1 : w78.cell? ⟨gb345, 1, none⟩ = some (.int .u8 a2_1) := (blk_cell BK345.out 1).trans rfl; have hcz80_2 : w78.cell? ⟨gb345, 2, none⟩ = some (.bool ((Go.bits .and .u8 (rd l0 a1) 1) != 0)) := (blk_cell BK345.out 2).trans rfl; have hfz80_0 := blk_frozen BK345.out 0; have hfz80_1 := blk_frozen BK345.out 1; have hfz80_2 := blk_frozen BK345.out 2; have hcz81_0 : w78.cell? ⟨gb343, 0, none⟩ = some (.int .u16 0) := (blk_cell BK343.out 0).trans rfl; have hcz81_1 : w78.cell? ⟨gb343, 1, none⟩ = some (.int .u8 0) := (blk_cell BK343.out 1).trans rfl; have hcz81_2 : w78.cell? ⟨gb343, 2, none⟩ = some (.bool false) := (blk_cell BK343.out 2).trans rfl; have hfz81_0 := blk_frozen BK343.out 0; have hfz81_1 := blk_frozen BK343.out 1; have hfz81_2 := blk_frozen BK343.out 2
               try go_wp2
               refine bodyPost_ret (results_ct rfl _ _ gb343 32 #[.int .u16 (IntKind.u16.wrap ((IntKind.u16.wrap ((IntKind.u16.wrap (Int.tdiv a2_0 256)) * 256)) + (IntKind.u16.wrap (rd l0 (ji53))))), .int .u8 a2_1, .bool ((Go.bits .and .u8 (rd l0 a1) 1) != 0)] (0, 0) _ rfl (by (with_reducible repeat (first | refine blk_drewN ?_ _ | refine blk_drew ?_ | refine blk_alloc ?_ _)); refine blk_put (cs := #[.int .u16 (IntKind.u16.wrap ((IntKind.u16.wrap ((IntKind.u16.wrap (Int.tdiv a2_0 256)) * 256)) + (IntKind.u16.wrap (rd l0 (ji53))))), .int .u8 a2_1, .bool false]) ?_ 2 _ rfl; (with_reducible repeat (first | refine blk_drewN ?_ _ | refine blk_drew ?_ | refine blk_alloc ?_ _)); refine blk_put (cs := #[.int .u16 (IntKind.u16.wrap ((IntKind.u16.wrap ((IntKind.u16.wrap (Int.tdiv a2_0 256)) * 256)) + (IntKind.u16.wrap (rd l0 (ji53))))), .int .u8 0, .bool false]) ?_ 1 _ rfl; (with_reducible repeat (first | refine blk_drewN ?_ _ | refine blk_drew ?_ | refine blk_alloc ?_ _)); refine blk_put (cs := #[.int .u16 0, .int .u8 0, .bool false]) ?_ 0 _ rfl; (with_reducible repeat (first | refine blk_drewN ?_ _ | refine blk_drew ?_ | refine blk_alloc ?_ _)); refine blk_far ?_ NB343_345.out _; (with_reducible repeat (first | refine blk_drewN ?_ _ | refine blk_drew ?_ | refine blk_alloc ?_ _)); exact BK343.out) Try.underlying32 rfl (by kernel_rfl)) rfl ?_; exact ⟨by first | rfl | (simp [errW_none, errW_some] <;> rfl) | (simp only [← hji53]; first | rfl | (simp [errW_none, errW_some] <;> rfl)) | (simp [*, errW_none, errW_some] <;> rfl), by repeat (first | (with_reducible first | exact HB.out | apply below_alloc | apply pw_below_drewN | apply below_drew1 | refine below_set ?_ GE342.out | refine below_set ?_ GE343.out | refine below_set ?_ GE345.out) | exact HB.out)⟩
             ·rw [if_neg c55] at H
              exact absurd H (by simp)
            ·rw [if_neg c54] at H
             exact absurd H (by simp)
          ·rw [if_neg c18] at H
           have c18b0 : ((Go.bits .and .u8 (rd l0 a1) 2) == 0) = false := beq_eq_false_iff_ne.mpr c18; have c18b1 : ((Go.bits .and .u8 (rd l0 a1) 2) != 0) = true := bne_iff_ne.mpr c18
           by_cases c82 : (Go.bits .and .u8 (rd l0 a1) 8) = 0
           ·rw [if_pos c82] at H
            have c82b0 : ((Go.bits .and .u8 (rd l0 a1) 8) == 0) = true := beq_iff_eq.mpr c82; have c82b1 : ((Go.bits .and .u8 (rd l0 a1) 8) != 0) = false := bne_eq_false_iff_eq.mpr c82; clear c82; obtain ⟨ji83, hji83⟩ : ∃ j_ : Int, (wrap64 (a1 + 1)) = j_ := ⟨_, rfl⟩
            replace H : (if 0 ≤ (ji83) then (if (ji83) < (l0.length : Int) then (some (IntKind.u16.wrap (a2_0 + 1), rd l0 (ji83), ((Go.bits .and .u8 (rd l0 a1) 1) != 0), x10_10)) else (none)) else (none)) = some (r1, r2, r3, r4) := by first | (rw [hji83] at H; exact H) | (simp only [hji83] at H ⊢; exact H)
            have hji83w : (IntKind.i64.wrap (a1 + 1)) = ji83 := (i64_w _).trans hji83
            by_cases c84 : 0 ≤ (ji83)
            ·rw [if_pos c84] at H
             have c84b0 : decide (0 ≤ (ji83)) = true := decide_eq_true c84; clear c84
             by_cases c85 : (ji83) < (l0.length : Int)
             ·rw [if_pos c85] at H
              have c85b0 : decide ((ji83) < (l0.length : Int)) = true := decide_eq_true c85; clear c85; simp only [Option.some.injEq, Prod.mk.injEq] at H; obtain ⟨rfl, rfl, rfl, rfl⟩ := H; have hnb86 := NB342_343.out; have hnc86 := NB343_342.out; have hcz87_0 : wc.cell? ⟨gb342, 0, none⟩ = some (.int .u16 a2_0) := (blk_cell BK342.out 0).trans rfl; have hcz87_1 : wc.cell? ⟨gb342, 1, none⟩ = some (.int .u8 a2_1) := (blk_cell BK342.out 1).trans rfl; have hcz87_2 : wc.cell? ⟨gb342, 2, none⟩ = some (.bool a2_2) := (blk_cell BK342.out 2).trans rfl; have hfz87_0 := blk_frozen BK342.out 0; have hfz87_1 := blk_frozen BK342.out 1; have hfz87_2 := blk_frozen BK342.out 2
              go_wp2_with (first | ((with_reducible refine gate_dst (N := 11) rfl ?_); (try (refine gate_guard (by rfl) ?_; dsimp only)); refine box_event ?hg (N := 11) ?hd (cs := #[.int .u16 0, .int .u8 0, .bool false]) (t := 32) ?hr ?_; (case hd => rfl); (case hg => rfl); (case hr => first | (go_simp; done) | (go_simp; rfl)); intro gb345 hg w88 hbox hb; have n0_ := Aside0.mk (blk_below (g := gb342) (o := .cells #[.int .u16 a2_0, .int .u8 a2_1, .bool a2_2] 32 (0, 0)) (by (with_reducible repeat (first | refine blk_drewN ?_ _ | refine blk_drew ?_ | refine blk_alloc ?_ _)); exact BK342.out) hb); have n1_ := Aside0.mk (blk_below (g := gb343) (o := .cells #[.int .u16 0, .int .u8 0, .bool false] 32 (0, 0)) (by (with_reducible repeat (first | refine blk_drewN ?_ _ | refine blk_drew ?_ | refine blk_alloc ?_ _)); exact BK343.out) hb); have n2_ := Aside0.mk (below_step (by repeat (first | (with_reducible first | exact HB.out | apply below_alloc | apply pw_below_drewN | apply below_drew1 | refine below_set ?_ GE342.out | refine below_set ?_ GE343.out) | exact HB.out)) hb); have n3_ := Aside0.mk (hbox); have n4_ := Aside0.mk ((by rw [hg]; exact (below_size (by repeat (first | (with_reducible first | exact HB.out | apply below_alloc | apply pw_below_drewN | apply below_drew1 | refine below_set ?_ GE342.out | refine below_set ?_ GE343.out) | exact HB.out))) : w.heap.size ≤ gb345)); have n5_ := Aside0.mk ((by rw [hg]; exact (below_size (by repeat (first | (with_reducible first | exact HB.out | apply below_alloc | apply pw_below_drewN | apply below_drew1 | refine below_set ?_ GE342.out | refine below_set ?_ GE343.out) | exact HB.out))) : w.heap.size ≤ gb345)); have n6_ := Aside0.mk ((by rw [hg]; exact Nat.ne_of_lt (blk_lt (g := gb342) (o := .cells #[.int .u16 a2_0, .int .u8 a2_1, .bool a2_2] 32 (0, 0)) (by (with_reducible repeat (first | refine blk_drewN ?_ _ | refine blk_drew ?_ | refine blk_alloc ?_ _)); exact BK342.out)) : gb342 ≠ gb345)); have n7_ := Aside0.mk ((by rw [hg]; exact Nat.ne_of_gt (blk_lt (g := gb342) (o := .cells #[.int .u16 a2_0, .int .u8 a2_1, .bool a2_2] 32 (0, 0)) (by (with_reducible repeat (first | refine blk_drewN ?_ _ | refine blk_drew ?_ | refine blk_alloc ?_ _)); exact BK342.out)) : gb345 ≠ gb342)); have n8_ := Aside0.mk ((by rw [hg]; exact Nat.ne_of_lt (blk_lt (g := gb343) (o := .cells #[.int .u16 0, .int .u8 0, .bool false] 32 (0, 0)) (by (with_reducible repeat (first | refine blk_drewN ?_ _ | refine blk_drew ?_ | refine blk_alloc ?_ _)); exact BK343.out)) : gb343 ≠ gb345)); have n9_ := Aside0.mk ((by rw [hg]; exact Nat.ne_of_gt (blk_lt (g := gb343) (o := .cells #[.int .u16 0, .int .u8 0, .bool false] 32 (0, 0)) (by (with_reducible repeat (first | refine blk_drewN ?_ _ | refine blk_drew ?_ | refine blk_alloc ?_ _)); exact BK343.out)) : gb345 ≠ gb343)); clear BK342; clear BK343; clear HB; have BK342 := n0_; have BK343 := n1_; have HB := n2_; have BK345 := n3_; have GW345 := n4_; have GE345 := n5_; have NB342_345 := n6_; have NB345_342 := n7_; have NB343_345 := n8_; have NB345_343 := n9_; clear n0_ n1_ n2_ n3_ n4_ n5_ n6_ n7_ n8_ n9_; clear hb hbox hg; have hnb89 := NB345_342.out; have hnc89 := NB342_345.out; have hnb90 := NB345_343.out; have hnc90 := NB343_345.out; have hcz91_0 : w88.cell? ⟨gb345, 0, none⟩ = some (.int .u16 0) := (blk_cell BK345.out 0).trans rfl; have hcz91_1 : w88.cell? ⟨gb345, 1, none⟩ = some (.int .u8 0) := (blk_cell BK345.out 1).trans rfl; have hcz91_2 : w88.cell? ⟨gb345, 2, none⟩ = some (.bool false) := (blk_cell BK345.out 2).trans rfl; have hfz91_0 := blk_frozen BK345.out 0; have hfz91_1 := blk_frozen BK345.out 1; have hfz91_2 := blk_frozen BK345.out 2; have p181 : 0 ≤ ((ji83) : Int) := of_decide_eq_true (by first | (with_reducible assumption) | assumption); have q181 : (ji83) < (l0.length : Int) := of_decide_eq_true (by first | (with_reducible assumption) | assumption); obtain ⟨ad181, e181, hx181_0⟩ := Kd.at_int HR0.out (ji83) p181 q181; obtain rfl : ad344 = ad181 := (by injection e181); have hn181_0 : ad344.block ≠ gb345 := Nat.ne_of_lt (Nat.lt_of_lt_of_le (by have := World.block_lt_of_cell? _ _ hx181_0; first | rwa [add_block] at this | exact this) GW345.out); have hn181_1 : ad344.block ≠ gb345 := Nat.ne_of_lt (Nat.lt_of_lt_of_le (by have := World.block_lt_of_cell? _ _ hx181_0; first | rwa [add_block] at this | exact this) GW345.out); have hn181_2 : ad344.block ≠ gb345 := Nat.ne_of_lt (Nat.lt_of_lt_of_le (by have := World.block_lt_of_cell? _ _ hx181_0; first | rwa [add_block] at this | exact this) GW345.out); replace hx181_0 := (HB.out.cell (World.block_lt_of_cell? w _ hx181_0)).trans hx181_0; replace hx181_0 := (cell_far (p := ⟨gb345, 0, none⟩) (by first | (rw [add_block]; exact hn181_0) | (show (Addr.add _ _).block ≠ _; rw [add_block]; exact hn181_0) | exact hn181_0) (.int .u16 (IntKind.u16.wrap (a2_0 + 1)))).trans hx181_0; replace hx181_0 := (cell_far (p := ⟨gb345, 1, none⟩) (by first | (rw [add_block]; exact hn181_1) | (show (Addr.add _ _).block ≠ _; rw [add_block]; exact hn181_1) | exact hn181_1) (.int .u8 a2_1)).trans hx181_0; replace hx181_0 := (cell_far (p := ⟨gb345, 2, none⟩) (by first | (rw [add_block]; exact hn181_2) | (show (Addr.add _ _).block ≠ _; rw [add_block]; exact hn181_2) | exact hn181_2) (.bool ((Go.bits .and .u8 (rd l0 a1) 1) != 0))).trans hx181_0; clear hn181_0; clear hn181_1; clear hn181_2; replace p181 := eq_true p181; replace q181 := eq_true q181; have hcz92_0 : w88.cell? ⟨gb343, 0, none⟩ = some (.int .u16 0) := (blk_cell BK343.out 0).trans rfl; have hcz92_1 : w88.cell? ⟨gb343, 1, none⟩ = some (.int .u8 0) := (blk_cell BK343.out 1).trans rfl; have hcz92_2 : w88.cell? ⟨gb343, 2, none⟩ = some (.bool false) := (blk_cell BK343.out 2).trans rfl; have hfz92_0 := blk_frozen BK343.out 0; have hfz92_1 := blk_frozen BK343.out 1; have hfz92_2 := blk_frozen BK343.out 2; have hd1_ : (w88.setCell ⟨gb345, 0, none⟩ (.int .u16 (IntKind.u16.wrap (a2_0 + 1)))).cell? ⟨gb345, 1, none⟩ = some (.int .u8 0) := (World.cell?_setCell_other _ _ _ _ (by simp)).trans hcz91_1; have hd2_ : ((w88.setCell ⟨gb345, 0, none⟩ (.int .u16 (IntKind.u16.wrap (a2_0 + 1)))).setCell ⟨gb345, 1, none⟩ (.int .u8 a2_1)).cell? ⟨gb345, 1, none⟩ = some (.int .u8 a2_1) := World.cell?_setCell_same _ _ _ hd1_; have hd3_ : (((w88.setCell ⟨gb345, 0, none⟩ (.int .u16 (IntKind.u16.wrap (a2_0 + 1)))).setCell ⟨gb345, 1, none⟩ (.int .u8 a2_1)).setCell ⟨gb345, 2, none⟩ (.bool ((Go.bits .and .u8 (rd l0 a1) 1) != 0))).cell? ⟨gb345, 1, none⟩ = some (.int .u8 a2_1) := (World.cell?_setCell_other _ _ _ _ (by simp)).trans hd2_))
              refine bodyPost_ret (results_ct rfl _ _ gb343 32 #[.int .u16 (IntKind.u16.wrap (a2_0 + 1)), .int .u8 (rd l0 (ji83)), .bool ((Go.bits .and .u8 (rd l0 a1) 1) != 0)] (0, 0) _ rfl (by (with_reducible repeat (first | refine blk_drewN ?_ _ | refine blk_drew ?_ | refine blk_alloc ?_ _)); refine blk_put (cs := #[.int .u16 (IntKind.u16.wrap (a2_0 + 1)), .int .u8 (rd l0 (ji83)), .bool false]) ?_ 2 _ rfl; (with_reducible repeat (first | refine blk_drewN ?_ _ | refine blk_drew ?_ | refine blk_alloc ?_ _)); refine blk_put (cs := #[.int .u16 (IntKind.u16.wrap (a2_0 + 1)), .int .u8 0, .bool false]) ?_ 1 _ rfl; (with_reducible repeat (first | refine blk_drewN ?_ _ | refine blk_drew ?_ | refine blk_alloc ?_ _)); refine blk_put (cs := #[.int .u16 0, .int .u8 0, .bool false]) ?_ 0 _ rfl; (with_reducible repeat (first | refine blk_drewN ?_ _ | refine blk_drew ?_ | refine blk_alloc ?_ _)); refine blk_far ?_ NB343_345.out _; (with_reducible repeat (first | refine blk_drewN ?_ _ | refine blk_drew ?_ | refine blk_alloc ?_ _)); refine blk_far ?_ NB343_345.out _; (with_reducible repeat (first | refine blk_drewN ?_ _ | refine blk_drew ?_ | refine blk_alloc ?_ _)); refine blk_far ?_ NB343_345.out _; (with_reducible repeat (first | refine blk_drewN ?_ _ | refine blk_drew ?_ | refine blk_alloc ?_ _)); refine blk_far ?_ NB343_345.out _; (with_reducible repeat (first | refine blk_drewN ?_ _ | refine blk_drew ?_ | refine blk_alloc ?_ _)); exact BK343.out) Try.underlying32 rfl (by kernel_rfl)) rfl ?_; exact ⟨by first | rfl | (simp [errW_none, errW_some] <;> rfl) | (simp only [← hji83]; first | rfl | (simp [errW_none, errW_some] <;> rfl)) | (simp [*, errW_none, errW_some] <;> rfl), by repeat (first | (with_reducible first | exact HB.out | apply below_alloc | apply pw_below_drewN | apply below_drew1 | refine below_set ?_ GE342.out | refine below_set ?_ GE343.out | refine below_set ?_ GE345.out) | exact HB.out)⟩
             ·rw [if_neg c85] at H
              exact absurd H (by simp)
            ·rw [if_neg c84] at H
             exact absurd H (by simp)
           ·rw [if_neg c82] at H
            have c82b0 : ((Go.bits .and .u8 (rd l0 a1) 8) == 0) = false := beq_eq_false_iff_ne.mpr c82; have c82b1 : ((Go.bits .and .u8 (rd l0 a1) 8) != 0) = true := bne_iff_ne.mpr c82; simp only [Option.some.injEq, Prod.mk.injEq] at H; obtain ⟨rfl, rfl, rfl, rfl⟩ := H; have hnb93 := NB342_343.out; have hnc93 := NB343_342.out; have hcz94_0 : wc.cell? ⟨gb342, 0, none⟩ = some (.int .u16 a2_0) := (blk_cell BK342.out 0).trans rfl; have hcz94_1 : wc.cell? ⟨gb342, 1, none⟩ = some (.int .u8 a2_1) := (blk_cell BK342.out 1).trans rfl; have hcz94_2 : wc.cell? ⟨gb342, 2, none⟩ = some (.bool a2_2) := (blk_cell BK342.out 2).trans rfl; have hfz94_0 := blk_frozen BK342.out 0; have hfz94_1 := blk_frozen BK342.out 1; have hfz94_2 := blk_frozen BK342.out 2
            go_wp2_with (first | ((with_reducible refine gate_dst (N := 11) rfl ?_); (try (refine gate_guard (by rfl) ?_; dsimp only)); refine box_event ?hg (N := 11) ?hd (cs := #[.int .u16 0, .int .u8 0, .bool false]) (t := 32) ?hr ?_; (case hd => rfl); (case hg => rfl); (case hr => first | (go_simp; done) | (go_simp; rfl)); intro gb345 hg w95 hbox hb; have n0_ := Aside0.mk (blk_below (g := gb342) (o := .cells #[.int .u16 a2_0, .int .u8 a2_1, .bool a2_2] 32 (0, 0)) (by (with_reducible repeat (first | refine blk_drewN ?_ _ | refine blk_drew ?_ | refine blk_alloc ?_ _)); exact BK342.out) hb); have n1_ := Aside0.mk (blk_below (g := gb343) (o := .cells #[.int .u16 0, .int .u8 0, .bool false] 32 (0, 0)) (by (with_reducible repeat (first | refine blk_drewN ?_ _ | refine blk_drew ?_ | refine blk_alloc ?_ _)); exact BK343.out) hb); have n2_ := Aside0.mk (below_step (by repeat (first | (with_reducible first | exact HB.out | apply below_alloc | apply pw_below_drewN | apply below_drew1 | refine below_set ?_ GE342.out | refine below_set ?_ GE343.out) | exact HB.out)) hb); have n3_ := Aside0.mk (hbox); have n4_ := Aside0.mk ((by rw [hg]; exact (below_size (by repeat (first | (with_reducible first | exact HB.out | apply below_alloc | apply pw_below_drewN | apply below_drew1 | refine below_set ?_ GE342.out | refine below_set ?_ GE343.out) | exact HB.out))) : w.heap.size ≤ gb345)); have n5_ := Aside0.mk ((by rw [hg]; exact (below_size (by repeat (first | (with_reducible first | exact HB.out | apply below_alloc | apply pw_below_drewN | apply below_drew1 | refine below_set ?_ GE342.out | refine below_set ?_ GE343.out) | exact HB.out))) : w.heap.size ≤ gb345)); have n6_ := Aside0.mk ((by rw [hg]; exact Nat.ne_of_lt (blk_lt (g := gb342) (o := .cells #[.int .u16 a2_0, .int .u8 a2_1, .bool a2_2] 32 (0, 0)) (by (with_reducible repeat (first | refine blk_drewN ?_ _ | refine blk_drew ?_ | refine blk_alloc ?_ _)); exact BK342.out)) : gb342 ≠ gb345)); have n7_ := Aside0.mk ((by rw [hg]; exact Nat.ne_of_gt (blk_lt (g := gb342) (o := .cells #[.int .u16 a2_0, .int .u8 a2_1, .bool a2_2] 32 (0, 0)) (by (with_reducible repeat (first | refine blk_drewN ?_ _ | refine blk_drew ?_ | refine blk_alloc ?_ _)); exact BK342.out)) : gb345 ≠ gb342)); have n8_ := Aside0.mk ((by rw [hg]; exact Nat.ne_of_lt (blk_lt (g := gb343) (o := .cells #[.int .u16 0, .int .u8 0, .bool false] 32 (0, 0)) (by (with_reducible repeat (first | refine blk_drewN ?_ _ | refine blk_drew ?_ | refine blk_alloc ?_ _)); exact BK343.out)) : gb343 ≠ gb345)); have n9_ := Aside0.mk ((by rw [hg]; exact Nat.ne_of_gt (blk_lt (g := gb343) (o := .cells #[.int .u16 0, .int .u8 0, .bool false] 32 (0, 0)) (by (with_reducible repeat (first | refine blk_drewN ?_ _ | refine blk_drew ?_ | refine blk_alloc ?_ _)); exact BK343.out)) : gb345 ≠ gb343)); clear BK342; clear BK343; clear HB; have BK342 := n0_; have BK343 := n1_; have HB := n2_; have BK345 := n3_; have GW345 := n4_; have GE345 := n5_; have NB342_345 := n6_; have NB345_342 := n7_; have NB343_345 := n8_; have NB345_343 := n9_; clear n0_ n1_ n2_ n3_ n4_ n5_ n6_ n7_ n8_ n9_; clear hb hbox hg; have hnb96 := NB345_342.out; have hnc96 := NB342_345.out; have hnb97 := NB345_343.out; have hnc97 := NB343_345.out; have hcz98_0 : w95.cell? ⟨gb345, 0, none⟩ = some (.int .u16 0) := (blk_cell BK345.out 0).trans rfl; have hcz98_1 : w95.cell? ⟨gb345, 1, none⟩ = some (.int .u8 0) := (blk_cell BK345.out 1).trans rfl; have hcz98_2 : w95.cell? ⟨gb345, 2, none⟩ = some (.bool false) := (blk_cell BK345.out 2).trans rfl; have hfz98_0 := blk_frozen BK345.out 0; have hfz98_1 := blk_frozen BK345.out 1; have hfz98_2 := blk_frozen BK345.out 2; have hcz99_0 : w95.cell? ⟨gb343, 0, none⟩ = some (.int .u16 0) := (blk_cell BK343.out 0).trans rfl; have hcz99_1 : w95.cell? ⟨gb343, 1, none⟩ = some (.int .u8 0) := (blk_cell BK343.out 1).trans rfl; have hcz99_2 : w95.cell? ⟨gb343, 2, none⟩ = some (.bool false) := (blk_cell BK343.out 2).trans rfl; have hfz99_0 := blk_frozen BK343.out 0; have hfz99_1 := blk_frozen BK343.out 1; have hfz99_2 := blk_frozen BK343.out 2))
            refine bodyPost_ret (results_ct rfl _ _ gb343 32 #[.int .u16 (IntKind.u16.wrap (a2_0 + 1)), .int .u8 a2_1, .bool ((Go.bits .and .u8 (rd l0 a1) 1) != 0)] (0, 0) _ rfl (by (with_reducible repeat (first | refine blk_drewN ?_ _ | refine blk_drew ?_ | refine blk_alloc ?_ _)); refine blk_put (cs := #[.int .u16 (IntKind.u16.wrap (a2_0 + 1)), .int .u8 a2_1, .bool false]) ?_ 2 _ rfl; (with_reducible repeat (first | refine blk_drewN ?_ _ | refine blk_drew ?_ | refine blk_alloc ?_ _)); refine blk_put (cs := #[.int .u16 (IntKind.u16.wrap (a2_0 + 1)), .int .u8 0, .bool false]) ?_ 1 _ rfl; (with_reducible repeat (first | refine blk_drewN ?_ _ | refine blk_drew ?_ | refine blk_alloc ?_ _)); refine blk_put (cs := #[.int .u16 0, .int .u8 0, .bool false]) ?_ 0 _ rfl; (with_reducible repeat (first | refine blk_drewN ?_ _ | refine blk_drew ?_ | refine blk_alloc ?_ _)); refine blk_far ?_ NB343_345.out _; (with_reducible repeat (first | refine blk_drewN ?_ _ | refine blk_drew ?_ | refine blk_alloc ?_ _)); refine blk_far ?_ NB343_345.out _; (with_reducible repeat (first | refine blk_drewN ?_ _ | refine blk_drew ?_ | refine blk_alloc ?_ _)); refine blk_far ?_ NB343_345.out _; (with_reducible repeat (first | refine blk_drewN ?_ _ | refine blk_drew ?_ | refine blk_alloc ?_ _)); exact BK343.out) Try.underlying32 rfl (by kernel_rfl)) rfl ?_; exact ⟨by first | rfl | (simp [errW_none, errW_some] <;> rfl) | (simp [*, errW_none, errW_some] <;> rfl), by repeat (first | (with_reducible first | exact HB.out | apply below_alloc | apply pw_below_drewN | apply below_drew1 | refine below_set ?_ GE342.out | refine below_set ?_ GE343.out | refine below_set ?_ GE345.out) | exact HB.out)⟩
  ·rw [if_neg c5] at H
   exact absurd H (by simp)
 ·rw [if_neg c4] at H
  exact absurd H (by simp)

end Go.Proofs.Ytnoelppkcbelcaa.MS
