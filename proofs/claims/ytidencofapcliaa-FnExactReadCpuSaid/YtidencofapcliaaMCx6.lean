-- Written by this session's own program (wip/myprint.py) over the kit's print of the translation. Lean checks it.
import Derived.Test.YtidencofapcliaaMCx0
import Derived.Test.YtidencofapcliaaMCx5
namespace Go.Proofs.Ytidencofapcliaa.MC
open Go.RowKit Go.Proofs.YtidencofapcliaaW.PrintWords Go.Proofs.YtidencofapcliaaW.PrintLast Go.Proofs.YtidencofapcliaaW.PrintMore
attribute [local go_sem] max2_int min2_int max_two min_two max_three min_three max_four min_four   -- for this text's walks alone
set_option linter.unusedVariables false
set_option linter.unusedSimpArgs false

/-! ### impl_ReadKnow: function 6 -/
def impl_ReadKnow.flag (s : ByteArray) (j : Nat) : Int := if bt s ((28 + j : Nat) : Int) = 63 then -1 else if bt s ((28 + j : Nat) : Int) = bt (⟨#[78, 86, 68, 73, 90, 67]⟩ : ByteArray) (j : Int) then 1 else 0
def impl_ReadKnow.fv (s : ByteArray) (i j : Nat) : Int := if j < i then impl_ReadKnow.flag s j else 0
def impl_ReadKnow.f (k : Nat) (a0 : ByteArray) : Option (Int × Int × Int × Int × Int × Int × Int × Int × Int × Int × Int × Bool) := (impl_KnowText.f k (-1) (-1) (-1) (-1) (-1) (-1) (-1) (-1) (-1) (-1) (-1)).bind fun m => (if a0.size = m.size then (if m.size = 34 then ((impl_ReadHex.f k (a0.extract 2 4) 2).bind fun t0 => (impl_ReadHex.f k (a0.extract 7 9) 2).bind fun t1 => (impl_ReadHex.f k (a0.extract 12 14) 2).bind fun t2 => (impl_ReadHex.f k (a0.extract 17 19) 2).bind fun t3 => (impl_ReadHex.f k (a0.extract 23 27) 4).bind fun t4 => (impl_KnowText.f k t0 t1 t2 t3 t4 (impl_ReadKnow.flag a0 0) (impl_ReadKnow.flag a0 1) (impl_ReadKnow.flag a0 2) (impl_ReadKnow.flag a0 3) (impl_ReadKnow.flag a0 4) (impl_ReadKnow.flag a0 5)).bind fun tx => (if tx.toList = a0.toList then (some (t0, t1, t2, t3, t4, (impl_ReadKnow.flag a0 0), (impl_ReadKnow.flag a0 1), (impl_ReadKnow.flag a0 2), (impl_ReadKnow.flag a0 3), (impl_ReadKnow.flag a0 4), (impl_ReadKnow.flag a0 5), true)) else (some (0, 0, 0, 0, 0, 0, 0, 0, 0, 0, 0, false)))) else (none)) else (some (0, 0, 0, 0, 0, 0, 0, 0, 0, 0, 0, false)))
theorem impl_ReadKnow.mono : ∀ a0 k, LeO (impl_ReadKnow.f k a0) (impl_ReadKnow.f (k + 1) a0) := by
  intro a0 k
  unfold impl_ReadKnow.f
  refine LeO.bind (impl_KnowText.mono _ _ _ _ _ _ _ _ _ _ _ _) (fun _ => ?_)
  refine LeO.ite ?_ (LeO.refl _)
  refine LeO.ite ?_ (LeO.none _)
  refine LeO.bind (impl_ReadHex.mono _ _ _) (fun _ => ?_)
  refine LeO.bind (impl_ReadHex.mono _ _ _) (fun _ => ?_)
  refine LeO.bind (impl_ReadHex.mono _ _ _) (fun _ => ?_)
  refine LeO.bind (impl_ReadHex.mono _ _ _) (fun _ => ?_)
  refine LeO.bind (impl_ReadHex.mono _ _ _) (fun _ => ?_)
  refine LeO.bind (impl_KnowText.mono _ _ _ _ _ _ _ _ _ _ _ _) (fun _ => ?_)
  exact LeO.refl _
theorem impl_ReadKnow.cell (a0 : ByteArray) (t0 : Int) (t1 : Int) (t2 : Int) (t3 : Int) (t4 : Int) (i : Nat) (h : i < 6) : (#[.int .i64 t0, .int .i64 t1, .int .i64 t2, .int .i64 t3, .int .i64 t4, .int .i64 (impl_ReadKnow.fv a0 i 0), .int .i64 (impl_ReadKnow.fv a0 i 1), .int .i64 (impl_ReadKnow.fv a0 i 2), .int .i64 (impl_ReadKnow.fv a0 i 3), .int .i64 (impl_ReadKnow.fv a0 i 4), .int .i64 (impl_ReadKnow.fv a0 i 5)] : Array Value)[5 + i]? = some (.int .i64 0) ∧ ∀ v, impl_ReadKnow.flag a0 i = v → (#[.int .i64 t0, .int .i64 t1, .int .i64 t2, .int .i64 t3, .int .i64 t4, .int .i64 (impl_ReadKnow.fv a0 i 0), .int .i64 (impl_ReadKnow.fv a0 i 1), .int .i64 (impl_ReadKnow.fv a0 i 2), .int .i64 (impl_ReadKnow.fv a0 i 3), .int .i64 (impl_ReadKnow.fv a0 i 4), .int .i64 (impl_ReadKnow.fv a0 i 5)] : Array Value).setIfInBounds (5 + i) (.int .i64 v) = #[.int .i64 t0, .int .i64 t1, .int .i64 t2, .int .i64 t3, .int .i64 t4, .int .i64 (impl_ReadKnow.fv a0 (i + 1) 0), .int .i64 (impl_ReadKnow.fv a0 (i + 1) 1), .int .i64 (impl_ReadKnow.fv a0 (i + 1) 2), .int .i64 (impl_ReadKnow.fv a0 (i + 1) 3), .int .i64 (impl_ReadKnow.fv a0 (i + 1) 4), .int .i64 (impl_ReadKnow.fv a0 (i + 1) 5)] := by
  match i, h with
  | 0, _ => exact ⟨rfl, fun v hv => by subst hv; rfl⟩
  | 1, _ => exact ⟨rfl, fun v hv => by subst hv; rfl⟩
  | 2, _ => exact ⟨rfl, fun v hv => by subst hv; rfl⟩
  | 3, _ => exact ⟨rfl, fun v hv => by subst hv; rfl⟩
  | 4, _ => exact ⟨rfl, fun v hv => by subst hv; rfl⟩
  | 5, _ => exact ⟨rfl, fun v hv => by subst hv; rfl⟩
  | n + 6, h => omega
theorem impl_ReadKnow.same (a0 : ByteArray) (t0 : Int) (t1 : Int) (t2 : Int) (t3 : Int) (t4 : Int) (i : Nat) (h : i < 6) (h0 : impl_ReadKnow.flag a0 i = 0) : (#[.int .i64 t0, .int .i64 t1, .int .i64 t2, .int .i64 t3, .int .i64 t4, .int .i64 (impl_ReadKnow.fv a0 i 0), .int .i64 (impl_ReadKnow.fv a0 i 1), .int .i64 (impl_ReadKnow.fv a0 i 2), .int .i64 (impl_ReadKnow.fv a0 i 3), .int .i64 (impl_ReadKnow.fv a0 i 4), .int .i64 (impl_ReadKnow.fv a0 i 5)] : Array Value) = #[.int .i64 t0, .int .i64 t1, .int .i64 t2, .int .i64 t3, .int .i64 t4, .int .i64 (impl_ReadKnow.fv a0 (i + 1) 0), .int .i64 (impl_ReadKnow.fv a0 (i + 1) 1), .int .i64 (impl_ReadKnow.fv a0 (i + 1) 2), .int .i64 (impl_ReadKnow.fv a0 (i + 1) 3), .int .i64 (impl_ReadKnow.fv a0 (i + 1) 4), .int .i64 (impl_ReadKnow.fv a0 (i + 1) 5)] := by
  match i, h, h0 with
  | 0, _, h0 => simp [impl_ReadKnow.fv, h0]
  | 1, _, h0 => simp [impl_ReadKnow.fv, h0]
  | 2, _, h0 => simp [impl_ReadKnow.fv, h0]
  | 3, _, h0 => simp [impl_ReadKnow.fv, h0]
  | 4, _, h0 => simp [impl_ReadKnow.fv, h0]
  | 5, _, h0 => simp [impl_ReadKnow.fv, h0]
  | n + 6, h, _ => omega
def impl_ReadKnow.T4 : Bool × List (List Nat × List Nat) := (true, [([], []), ([0], [0]), ([1], [1]), ([], []), ([3], [3]), ([4, 2], [4]), ([], []), ([6], [6]), ([7, 5], [7]), ([], []), ([9], [9]), ([10, 8], [10]), ([], []), ([12], [12]), ([13, 11], [13]), ([2, 5, 8, 11, 14], [2, 5, 8, 11, 14]), ([], []), ([16, 15, 14, 0, 1, 2, 3, 4, 5, 6, 7, 8, 9, 10, 11, 12, 13, 14, 15, 16], [15, 16])])
def impl_ReadKnow.B4 : List Nat := [0, 1, 3, 0, 8, 31, 0, 64, 255, 0, 512, 2047, 0, 4096, 16383, 32767, 0, 131071]
theorem impl_ReadKnow.tab4 : rtab .any (opsOf Try.f6 4) = impl_ReadKnow.T4 := by kernel_rfl
theorem impl_ReadKnow.bits4 : waitsOk impl_ReadKnow.T4.2 impl_ReadKnow.B4 = true := by kernel_rfl
set_option maxHeartbeats 8000000 in
set_option maxRecDepth 100000 in
theorem impl_ReadKnow.calls (k : Nat) (a0 : ByteArray) (r1 : Int) (r2 : Int) (r3 : Int) (r4 : Int) (r5 : Int) (r6 : Int) (r7 : Int) (r8 : Int) (r9 : Int) (r10 : Int) (r11 : Int) (r12 : Bool) (w : World) (h : impl_ReadKnow.f k a0 = some (r1, r2, r3, r4, r5, r6, r7, r8, r9, r10, r11, r12)) :
    Calls Try.prog 6 #[.string a0] w fun e w' => e = .returned (.tuple #[.agg #[.int .i64 r1, .int .i64 r2, .int .i64 r3, .int .i64 r4, .int .i64 r5, .int .i64 r6, .int .i64 r7, .int .i64 r8, .int .i64 r9, .int .i64 r10, .int .i64 r11], .bool r12]) ∧ Below w.heap.size w w' := by
  have hu23 := Try.underlying23
  have hu42 := Try.underlying42
  have HB := Aside0.mk (Below.refl w.heap.size w)
  unfold impl_ReadKnow.f at h
  obtain ⟨m, AM0, h⟩ := Option.bind_eq_some_iff.mp h
  have AM := Aside0.mk AM0
  clear AM0
  have AN : Aside0 (impl_nothing.f = some (-1, -1, -1, -1, -1, -1, -1, -1, -1, -1, -1)) := ⟨rfl⟩
  by_cases c1 : a0.size = m.size
  rotate_left
  · rw [if_neg c1] at h
    simp only [Option.some.injEq, Prod.mk.injEq] at h
    obtain ⟨rfl, rfl, rfl, rfl, rfl, rfl, rfl, rfl, rfl, rfl, rfl, rfl⟩ := h
    have c1b0 : ((a0.size : Int) == (m.size : Int)) = false := beq_eq_false_iff_ne.mpr (by omega)
    have c1b1 : ((a0.size : Int) != (m.size : Int)) = true := bne_iff_ne.mpr (by omega)
    go_enter Try.func6, Try.ntmps6
    go_wp2_with (first | ((with_reducible refine gate_dst (N := 2) rfl ?_); refine box_event ?hg (N := 2) ?hd (cs := #[.int .i64 0, .int .i64 0, .int .i64 0, .int .i64 0, .int .i64 0, .int .i64 0, .int .i64 0, .int .i64 0, .int .i64 0, .int .i64 0, .int .i64 0]) (t := 23) ?hr ?_; (case hd => rfl); (case hg => rfl); (case hr => first | (go_simp; done) | (go_simp; rfl)); intro gr hg w3 hbox hb; have nb_ := Aside0.mk (below_step (by repeat (first | (with_reducible first | exact HB.out | apply below_alloc | apply pw_below_drewN | apply below_drew1) | exact HB.out)) hb); have nx_ := Aside0.mk hbox; have ng_ := Aside0.mk ((by rw [hg]; exact (below_size (by repeat (first | (with_reducible first | exact HB.out | apply below_alloc | apply pw_below_drewN | apply below_drew1) | exact HB.out))) : w.heap.size ≤ gr)); clear HB ; have HB := nb_; have BR := nx_; have GR := ng_; clear nb_ nx_ ng_ ; clear hb hbox hg) | (go_at_call 15; (with_reducible refine (impl_nothing.calls (-1) (-1) (-1) (-1) (-1) (-1) (-1) (-1) (-1) (-1) (-1) _ AN.out).mono ?_); rintro e w4 ⟨rfl, hb⟩; have n0_ := Aside0.mk (blk_below (g := gr) (o := .cells #[.int .i64 0, .int .i64 0, .int .i64 0, .int .i64 0, .int .i64 0, .int .i64 0, .int .i64 0, .int .i64 0, .int .i64 0, .int .i64 0, .int .i64 0] 23 (0, 0)) (by (with_reducible repeat (first | refine blk_drewN ?_ _ | refine blk_drew ?_ | refine blk_alloc ?_ _)); exact BR.out) hb); have nb_ := Aside0.mk (below_step (by repeat (first | (with_reducible first | exact HB.out | apply below_alloc | apply pw_below_drewN | apply below_drew1 | refine below_set ?_ GR.out) | exact HB.out)) hb); clear BR HB; have BR := n0_; have HB := nb_; clear n0_ nb_; (try clear hb)) | (go_at_call 14; (with_reducible refine (impl_KnowText.calls k (-1) (-1) (-1) (-1) (-1) (-1) (-1) (-1) (-1) (-1) (-1) m _ AM.out).mono ?_); rintro e w5 ⟨rfl, hb⟩; have n0_ := Aside0.mk (blk_below (g := gr) (o := .cells #[.int .i64 0, .int .i64 0, .int .i64 0, .int .i64 0, .int .i64 0, .int .i64 0, .int .i64 0, .int .i64 0, .int .i64 0, .int .i64 0, .int .i64 0] 23 (0, 0)) (by (with_reducible repeat (first | refine blk_drewN ?_ _ | refine blk_drew ?_ | refine blk_alloc ?_ _)); exact BR.out) hb); have nb_ := Aside0.mk (below_step (by repeat (first | (with_reducible first | exact HB.out | apply below_alloc | apply pw_below_drewN | apply below_drew1 | refine below_set ?_ GR.out) | exact HB.out)) hb); clear BR HB; have BR := n0_; have HB := nb_; clear n0_ nb_; (try clear hb); have hz_0 : w5.cell? ⟨gr, 0, none⟩ = some (.int .i64 0) := (blk_cell BR.out 0).trans rfl; have hzf_0 := blk_frozen BR.out 0; have hz_1 : w5.cell? ⟨gr, 1, none⟩ = some (.int .i64 0) := (blk_cell BR.out 1).trans rfl; have hzf_1 := blk_frozen BR.out 1; have hz_2 : w5.cell? ⟨gr, 2, none⟩ = some (.int .i64 0) := (blk_cell BR.out 2).trans rfl; have hzf_2 := blk_frozen BR.out 2; have hz_3 : w5.cell? ⟨gr, 3, none⟩ = some (.int .i64 0) := (blk_cell BR.out 3).trans rfl; have hzf_3 := blk_frozen BR.out 3; have hz_4 : w5.cell? ⟨gr, 4, none⟩ = some (.int .i64 0) := (blk_cell BR.out 4).trans rfl; have hzf_4 := blk_frozen BR.out 4; have hz_5 : w5.cell? ⟨gr, 5, none⟩ = some (.int .i64 0) := (blk_cell BR.out 5).trans rfl; have hzf_5 := blk_frozen BR.out 5; have hz_6 : w5.cell? ⟨gr, 6, none⟩ = some (.int .i64 0) := (blk_cell BR.out 6).trans rfl; have hzf_6 := blk_frozen BR.out 6; have hz_7 : w5.cell? ⟨gr, 7, none⟩ = some (.int .i64 0) := (blk_cell BR.out 7).trans rfl; have hzf_7 := blk_frozen BR.out 7; have hz_8 : w5.cell? ⟨gr, 8, none⟩ = some (.int .i64 0) := (blk_cell BR.out 8).trans rfl; have hzf_8 := blk_frozen BR.out 8; have hz_9 : w5.cell? ⟨gr, 9, none⟩ = some (.int .i64 0) := (blk_cell BR.out 9).trans rfl; have hzf_9 := blk_frozen BR.out 9; have hz_10 : w5.cell? ⟨gr, 10, none⟩ = some (.int .i64 0) := (blk_cell BR.out 10).trans rfl; have hzf_10 := blk_frozen BR.out 10))
    refine bodyPost_ret (results_ct rfl _ _ gr 23 #[.int .i64 0, .int .i64 0, .int .i64 0, .int .i64 0, .int .i64 0, .int .i64 0, .int .i64 0, .int .i64 0, .int .i64 0, .int .i64 0, .int .i64 0] (0, 0) _ rfl (by (with_reducible repeat (first | refine blk_drewN ?_ _ | refine blk_drew ?_ | refine blk_alloc ?_ _)); refine blk_put (cs := #[.int .i64 0, .int .i64 0, .int .i64 0, .int .i64 0, .int .i64 0, .int .i64 0, .int .i64 0, .int .i64 0, .int .i64 0, .int .i64 0, .int .i64 0]) ?_ 10 _ rfl; (with_reducible repeat (first | refine blk_drewN ?_ _ | refine blk_drew ?_ | refine blk_alloc ?_ _)); refine blk_put (cs := #[.int .i64 0, .int .i64 0, .int .i64 0, .int .i64 0, .int .i64 0, .int .i64 0, .int .i64 0, .int .i64 0, .int .i64 0, .int .i64 0, .int .i64 0]) ?_ 9 _ rfl; (with_reducible repeat (first | refine blk_drewN ?_ _ | refine blk_drew ?_ | refine blk_alloc ?_ _)); refine blk_put (cs := #[.int .i64 0, .int .i64 0, .int .i64 0, .int .i64 0, .int .i64 0, .int .i64 0, .int .i64 0, .int .i64 0, .int .i64 0, .int .i64 0, .int .i64 0]) ?_ 8 _ rfl; (with_reducible repeat (first | refine blk_drewN ?_ _ | refine blk_drew ?_ | refine blk_alloc ?_ _)); refine blk_put (cs := #[.int .i64 0, .int .i64 0, .int .i64 0, .int .i64 0, .int .i64 0, .int .i64 0, .int .i64 0, .int .i64 0, .int .i64 0, .int .i64 0, .int .i64 0]) ?_ 7 _ rfl; (with_reducible repeat (first | refine blk_drewN ?_ _ | refine blk_drew ?_ | refine blk_alloc ?_ _)); refine blk_put (cs := #[.int .i64 0, .int .i64 0, .int .i64 0, .int .i64 0, .int .i64 0, .int .i64 0, .int .i64 0, .int .i64 0, .int .i64 0, .int .i64 0, .int .i64 0]) ?_ 6 _ rfl; (with_reducible repeat (first | refine blk_drewN ?_ _ | refine blk_drew ?_ | refine blk_alloc ?_ _)); refine blk_put (cs := #[.int .i64 0, .int .i64 0, .int .i64 0, .int .i64 0, .int .i64 0, .int .i64 0, .int .i64 0, .int .i64 0, .int .i64 0, .int .i64 0, .int .i64 0]) ?_ 5 _ rfl; (with_reducible repeat (first | refine blk_drewN ?_ _ | refine blk_drew ?_ | refine blk_alloc ?_ _)); refine blk_put (cs := #[.int .i64 0, .int .i64 0, .int .i64 0, .int .i64 0, .int .i64 0, .int .i64 0, .int .i64 0, .int .i64 0, .int .i64 0, .int .i64 0, .int .i64 0]) ?_ 4 _ rfl; (with_reducible repeat (first | refine blk_drewN ?_ _ | refine blk_drew ?_ | refine blk_alloc ?_ _)); refine blk_put (cs := #[.int .i64 0, .int .i64 0, .int .i64 0, .int .i64 0, .int .i64 0, .int .i64 0, .int .i64 0, .int .i64 0, .int .i64 0, .int .i64 0, .int .i64 0]) ?_ 3 _ rfl; (with_reducible repeat (first | refine blk_drewN ?_ _ | refine blk_drew ?_ | refine blk_alloc ?_ _)); refine blk_put (cs := #[.int .i64 0, .int .i64 0, .int .i64 0, .int .i64 0, .int .i64 0, .int .i64 0, .int .i64 0, .int .i64 0, .int .i64 0, .int .i64 0, .int .i64 0]) ?_ 2 _ rfl; (with_reducible repeat (first | refine blk_drewN ?_ _ | refine blk_drew ?_ | refine blk_alloc ?_ _)); refine blk_put (cs := #[.int .i64 0, .int .i64 0, .int .i64 0, .int .i64 0, .int .i64 0, .int .i64 0, .int .i64 0, .int .i64 0, .int .i64 0, .int .i64 0, .int .i64 0]) ?_ 1 _ rfl; (with_reducible repeat (first | refine blk_drewN ?_ _ | refine blk_drew ?_ | refine blk_alloc ?_ _)); refine blk_put (cs := #[.int .i64 0, .int .i64 0, .int .i64 0, .int .i64 0, .int .i64 0, .int .i64 0, .int .i64 0, .int .i64 0, .int .i64 0, .int .i64 0, .int .i64 0]) ?_ 0 _ rfl; (with_reducible repeat (first | refine blk_drewN ?_ _ | refine blk_drew ?_ | refine blk_alloc ?_ _)); exact BR.out) Try.underlying23 rfl (by kernel_rfl)) rfl ?_
    exact ⟨by first | rfl | (simp [*] <;> rfl), by repeat (first | (with_reducible first | exact HB.out | apply below_alloc | apply pw_below_drewN | apply below_drew1 | refine below_set ?_ GR.out) | exact HB.out)⟩
  rw [if_pos c1] at h
  by_cases c2 : m.size = 34
  rotate_left
  · rw [if_neg c2] at h
    exact absurd h (by simp)
  rw [if_pos c2] at h
  obtain ⟨t0, A00, h⟩ := Option.bind_eq_some_iff.mp h
  have A0 := Aside0.mk A00
  clear A00
  obtain ⟨t1, A10, h⟩ := Option.bind_eq_some_iff.mp h
  have A1 := Aside0.mk A10
  clear A10
  obtain ⟨t2, A20, h⟩ := Option.bind_eq_some_iff.mp h
  have A2 := Aside0.mk A20
  clear A20
  obtain ⟨t3, A30, h⟩ := Option.bind_eq_some_iff.mp h
  have A3 := Aside0.mk A30
  clear A30
  obtain ⟨t4, A40, h⟩ := Option.bind_eq_some_iff.mp h
  have A4 := Aside0.mk A40
  clear A40
  obtain ⟨tx, AX0, h⟩ := Option.bind_eq_some_iff.mp h
  have AX := Aside0.mk AX0
  clear AX0
  have H := Aside0.mk h
  clear h
  have hs : a0.size = 34 := by omega
  have c1b0 : ((a0.size : Int) == (m.size : Int)) = true := beq_iff_eq.mpr (by omega)
  have c1b1 : ((a0.size : Int) != (m.size : Int)) = false := bne_eq_false_iff_eq.mpr (by omega)
  clear c1 c2
  go_enter Try.func6, Try.ntmps6
  go_upto_region 4 with (first | ((with_reducible refine gate_dst (N := 2) rfl ?_); refine box_event ?hg (N := 2) ?hd (cs := #[.int .i64 0, .int .i64 0, .int .i64 0, .int .i64 0, .int .i64 0, .int .i64 0, .int .i64 0, .int .i64 0, .int .i64 0, .int .i64 0, .int .i64 0]) (t := 23) ?hr ?_; (case hd => rfl); (case hg => rfl); (case hr => first | (go_simp; done) | (go_simp; rfl)); intro gr hg w3 hbox hb; have nb_ := Aside0.mk (below_step (by repeat (first | (with_reducible first | exact HB.out | apply below_alloc | apply pw_below_drewN | apply below_drew1) | exact HB.out)) hb); have nx_ := Aside0.mk hbox; have ng_ := Aside0.mk ((by rw [hg]; exact (below_size (by repeat (first | (with_reducible first | exact HB.out | apply below_alloc | apply pw_below_drewN | apply below_drew1) | exact HB.out))) : w.heap.size ≤ gr)); clear HB ; have HB := nb_; have BR := nx_; have GR := ng_; clear nb_ nx_ ng_ ; clear hb hbox hg) | (go_at_call 15; (with_reducible refine (impl_nothing.calls (-1) (-1) (-1) (-1) (-1) (-1) (-1) (-1) (-1) (-1) (-1) _ AN.out).mono ?_); rintro e w4 ⟨rfl, hb⟩; have n0_ := Aside0.mk (blk_below (g := gr) (o := .cells #[.int .i64 0, .int .i64 0, .int .i64 0, .int .i64 0, .int .i64 0, .int .i64 0, .int .i64 0, .int .i64 0, .int .i64 0, .int .i64 0, .int .i64 0] 23 (0, 0)) (by (with_reducible repeat (first | refine blk_drewN ?_ _ | refine blk_drew ?_ | refine blk_alloc ?_ _)); exact BR.out) hb); have nb_ := Aside0.mk (below_step (by repeat (first | (with_reducible first | exact HB.out | apply below_alloc | apply pw_below_drewN | apply below_drew1 | refine below_set ?_ GR.out) | exact HB.out)) hb); clear BR HB; have BR := n0_; have HB := nb_; clear n0_ nb_; (try clear hb)) | (go_at_call 14; (with_reducible refine (impl_KnowText.calls k (-1) (-1) (-1) (-1) (-1) (-1) (-1) (-1) (-1) (-1) (-1) m _ AM.out).mono ?_); rintro e w5 ⟨rfl, hb⟩; have n0_ := Aside0.mk (blk_below (g := gr) (o := .cells #[.int .i64 0, .int .i64 0, .int .i64 0, .int .i64 0, .int .i64 0, .int .i64 0, .int .i64 0, .int .i64 0, .int .i64 0, .int .i64 0, .int .i64 0] 23 (0, 0)) (by (with_reducible repeat (first | refine blk_drewN ?_ _ | refine blk_drew ?_ | refine blk_alloc ?_ _)); exact BR.out) hb); have nb_ := Aside0.mk (below_step (by repeat (first | (with_reducible first | exact HB.out | apply below_alloc | apply pw_below_drewN | apply below_drew1 | refine below_set ?_ GR.out) | exact HB.out)) hb); clear BR HB; have BR := n0_; have HB := nb_; clear n0_ nb_; (try clear hb)))
  have s4 : (4 : Int) ≤ (a0.size : Int) := by omega
  have s4b0 := eq_true s4
  have s4b1 := decide_eq_true s4
  have s4b2 : (4 ≤ a0.size) = True := eq_true (by omega)
  clear s4
  have s9 : (9 : Int) ≤ (a0.size : Int) := by omega
  have s9b0 := eq_true s9
  have s9b1 := decide_eq_true s9
  have s9b2 : (9 ≤ a0.size) = True := eq_true (by omega)
  clear s9
  have s14 : (14 : Int) ≤ (a0.size : Int) := by omega
  have s14b0 := eq_true s14
  have s14b1 := decide_eq_true s14
  have s14b2 : (14 ≤ a0.size) = True := eq_true (by omega)
  clear s14
  have s19 : (19 : Int) ≤ (a0.size : Int) := by omega
  have s19b0 := eq_true s19
  have s19b1 := decide_eq_true s19
  have s19b2 : (19 ≤ a0.size) = True := eq_true (by omega)
  clear s19
  have s27 : (27 : Int) ≤ (a0.size : Int) := by omega
  have s27b0 := eq_true s27
  have s27b1 := decide_eq_true s27
  have s27b2 : (27 ≤ a0.size) = True := eq_true (by omega)
  clear s27
  clear c1b0 c1b1
  try go_wp2
  have n0_ := Aside0.mk (blk_drew BR.out)
  have n1_ := Aside0.mk (below_drew1 HB.out)
  clear BR HB
  have BR := n0_
  have HB := n1_
  clear n0_ n1_
  refine start_ (n := 18) (S := fun w' => True) (ds := []) #[false, false, false, false, false, false, false, false, false, false, false, false, false, false, false, false, false, false] (by kernel_rfl) rfl rfl trivial (fun hHeld => ?_); refine with_tabW impl_ReadKnow.tab4 impl_ReadKnow.bits4 (fun HT_ HW_ => ?_)
  generalize w5.drew = w6 at BR HB hHeld ⊢
  refine pure_ (i := 0) (N := some 18) (v := ?_) (a' := ?_) #[true, false, false, false, false, false, false, false, false, false, false, false, false, false, false, false, false, false] rfl rfl (any_of HT_.out (by kernel_rfl)) (fun _ _ _ h => h) (Or.inl ⟨by rfl, ?_⟩) ?_ ?_
  rotate_left
  · intro w'
    go_simp
    with_reducible rfl
  rotate_left
  · simp only [Act.put, List.setIfInBounds_toArray, List.set_cons_zero, List.set_cons_succ, i64_w, i32_w]
    rfl
  refine pure_ (i := 3) (N := some 21) (v := ?_) (a' := ?_) #[true, false, false, true, false, false, false, false, false, false, false, false, false, false, false, false, false, false] rfl rfl (any_of HT_.out (by kernel_rfl)) (fun _ _ _ h => h) (Or.inl ⟨by rfl, ?_⟩) ?_ ?_
  rotate_left
  · intro w'
    go_simp
    with_reducible rfl
  rotate_left
  · simp only [Act.put, List.setIfInBounds_toArray, List.set_cons_zero, List.set_cons_succ, i64_w, i32_w]
    rfl
  refine pure_ (i := 6) (N := some 24) (v := ?_) (a' := ?_) #[true, false, false, true, false, false, true, false, false, false, false, false, false, false, false, false, false, false] rfl rfl (any_of HT_.out (by kernel_rfl)) (fun _ _ _ h => h) (Or.inl ⟨by rfl, ?_⟩) ?_ ?_
  rotate_left
  · intro w'
    go_simp
    with_reducible rfl
  rotate_left
  · simp only [Act.put, List.setIfInBounds_toArray, List.set_cons_zero, List.set_cons_succ, i64_w, i32_w]
    rfl
  refine pure_ (i := 9) (N := some 27) (v := ?_) (a' := ?_) #[true, false, false, true, false, false, true, false, false, true, false, false, false, false, false, false, false, false] rfl rfl (any_of HT_.out (by kernel_rfl)) (fun _ _ _ h => h) (Or.inl ⟨by rfl, ?_⟩) ?_ ?_
  rotate_left
  · intro w'
    go_simp
    with_reducible rfl
  rotate_left
  · simp only [Act.put, List.setIfInBounds_toArray, List.set_cons_zero, List.set_cons_succ, i64_w, i32_w]
    rfl
  refine pure_ (i := 12) (N := some 30) (v := ?_) (a' := ?_) #[true, false, false, true, false, false, true, false, false, true, false, false, true, false, false, false, false, false] rfl rfl (any_of HT_.out (by kernel_rfl)) (fun _ _ _ h => h) (Or.inl ⟨by rfl, ?_⟩) ?_ ?_
  rotate_left
  · intro w'
    go_simp
    with_reducible rfl
  rotate_left
  · simp only [Act.put, List.setIfInBounds_toArray, List.set_cons_zero, List.set_cons_succ, i64_w, i32_w]
    rfl
  refine pure_ (i := 1) (N := some 19) (v := ?_) (a' := ?_) #[true, true, false, true, false, false, true, false, false, true, false, false, true, false, false, false, false, false] rfl rfl (any_of HT_.out (by kernel_rfl)) (fun _ _ _ h => h) (Or.inl ⟨by rfl, ?_⟩) ?_ ?_
  rotate_left
  · intro w'
    go_simp
    with_reducible rfl
  rotate_left
  · simp only [Act.put, List.setIfInBounds_toArray, List.set_cons_zero, List.set_cons_succ, i64_w, i32_w]
    rfl
  refine pure_ (i := 4) (N := some 22) (v := ?_) (a' := ?_) #[true, true, false, true, true, false, true, false, false, true, false, false, true, false, false, false, false, false] rfl rfl (any_of HT_.out (by kernel_rfl)) (fun _ _ _ h => h) (Or.inl ⟨by rfl, ?_⟩) ?_ ?_
  rotate_left
  · intro w'
    go_simp
    with_reducible rfl
  rotate_left
  · simp only [Act.put, List.setIfInBounds_toArray, List.set_cons_zero, List.set_cons_succ, i64_w, i32_w]
    rfl
  refine pure_ (i := 7) (N := some 25) (v := ?_) (a' := ?_) #[true, true, false, true, true, false, true, true, false, true, false, false, true, false, false, false, false, false] rfl rfl (any_of HT_.out (by kernel_rfl)) (fun _ _ _ h => h) (Or.inl ⟨by rfl, ?_⟩) ?_ ?_
  rotate_left
  · intro w'
    go_simp
    with_reducible rfl
  rotate_left
  · simp only [Act.put, List.setIfInBounds_toArray, List.set_cons_zero, List.set_cons_succ, i64_w, i32_w]
    rfl
  refine pure_ (i := 10) (N := some 28) (v := ?_) (a' := ?_) #[true, true, false, true, true, false, true, true, false, true, true, false, true, false, false, false, false, false] rfl rfl (any_of HT_.out (by kernel_rfl)) (fun _ _ _ h => h) (Or.inl ⟨by rfl, ?_⟩) ?_ ?_
  rotate_left
  · intro w'
    go_simp
    with_reducible rfl
  rotate_left
  · simp only [Act.put, List.setIfInBounds_toArray, List.set_cons_zero, List.set_cons_succ, i64_w, i32_w]
    rfl
  refine pure_ (i := 13) (N := some 31) (v := ?_) (a' := ?_) #[true, true, false, true, true, false, true, true, false, true, true, false, true, true, false, false, false, false] rfl rfl (any_of HT_.out (by kernel_rfl)) (fun _ _ _ h => h) (Or.inl ⟨by rfl, ?_⟩) ?_ ?_
  rotate_left
  · intro w'
    go_simp
    with_reducible rfl
  rotate_left
  · simp only [Act.put, List.setIfInBounds_toArray, List.set_cons_zero, List.set_cons_succ, i64_w, i32_w]
    rfl
  refine join_ (σ := Nat) 1 #[true, true, true, true, true, true, true, true, true, true, true, true, true, true, true, true, true, false] (fun s_ => [(20, .int .i64 t0), (23, .int .i64 t1), (26, .int .i64 t2), (29, .int .i64 t3), (32, .int .i64 t4), (33, .agg #[.int .i64 t0, .int .i64 t1, .int .i64 t2, .int .i64 t3, .int .i64 t4, .int .i64 0, .int .i64 0, .int .i64 0, .int .i64 0, .int .i64 0, .int .i64 0]), (5, .pointer (some ⟨s_, 0, none⟩))]) (fun s_ w' => (w'.heap[gr]? = some (.cells #[.int .i64 0, .int .i64 0, .int .i64 0, .int .i64 0, .int .i64 0, .int .i64 0, .int .i64 0, .int .i64 0, .int .i64 0, .int .i64 0, .int .i64 0] 23 (0, 0))) ∧ (w'.heap[s_]? = some (.cells #[.int .i64 0, .int .i64 0, .int .i64 0, .int .i64 0, .int .i64 0, .int .i64 0, .int .i64 0, .int .i64 0, .int .i64 0, .int .i64 0, .int .i64 0] 23 (0, 0))) ∧ (w.heap.size ≤ s_) ∧ (gr ≠ s_) ∧ (Below w.heap.size w w')) ?_ ?_
  rotate_left
  · intro hCont
    refine two_ (i := 2) (j := 16) (Ni := some 20) (Nj := some 5) #[true, true, true, true, true, false, true, true, false, true, true, false, true, true, false, false, false, false] #[true, true, false, true, true, false, true, true, false, true, true, false, true, true, false, false, true, false] rfl rfl rfl rfl (two_of HT_.out (by kernel_rfl)) (by decide) (by decide) (fun K hK => ?_) (fun K hK => ?_)
    · skip
      refine goes_ Try.func16 (by kernel_rfl) rfl #[.string (a0.extract 2 4), .int .i64 2] (by rfl) rfl rfl (by (try simp only [List.map_toArray, List.map_cons, List.map_nil]); first | done | rfl | (simp only [List.length_drop, List.length_take]; rfl)) ?_
      with_reducible refine (impl_ReadHex.calls k (a0.extract 2 4) 2 t0 _ A0.out).mono ?_
      rintro e w_0_0 ⟨rfl, hb⟩
      refine ⟨_, rfl, ?_⟩
      have n0_ := Aside0.mk (blk_below (g := gr) (o := .cells #[.int .i64 0, .int .i64 0, .int .i64 0, .int .i64 0, .int .i64 0, .int .i64 0, .int .i64 0, .int .i64 0, .int .i64 0, .int .i64 0, .int .i64 0] 23 (0, 0)) (by (with_reducible repeat (first | refine blk_drewN ?_ _ | refine blk_drew ?_ | refine blk_alloc ?_ _)); exact BR.out) hb); have nb_ := Aside0.mk (below_step (by repeat (first | (with_reducible first | exact HB.out | apply below_alloc | apply pw_below_drewN | apply below_drew1 | refine below_set ?_ GR.out) | exact HB.out)) hb); clear BR HB; have BR := n0_; have HB := nb_; clear n0_ nb_; (try clear hb)
      refine hK.out _ _ trivial (fun hHeld => ?_)
      clear hK K
      refine norm_ (a' := ?_) ?_ ?_
      rotate_left
      · show Act.put _ (some 20) _ = _
        simp only [Act.put, List.setIfInBounds_toArray, List.set_cons_zero, List.set_cons_succ, i64_w, i32_w]
        rfl
      refine two_ (i := 5) (j := 16) (Ni := some 23) (Nj := some 5) #[true, true, true, true, true, true, true, true, false, true, true, false, true, true, false, false, false, false] #[true, true, true, true, true, false, true, true, false, true, true, false, true, true, false, false, true, false] rfl rfl rfl rfl (two_of HT_.out (by kernel_rfl)) (by decide) (by decide) (fun K hK => ?_) (fun K hK => ?_)
      · skip
        refine goes_ Try.func16 (by kernel_rfl) rfl #[.string (a0.extract 7 9), .int .i64 2] (by rfl) rfl rfl (by (try simp only [List.map_toArray, List.map_cons, List.map_nil]); first | done | rfl | (simp only [List.length_drop, List.length_take]; rfl)) ?_
        with_reducible refine (impl_ReadHex.calls k (a0.extract 7 9) 2 t1 _ A1.out).mono ?_
        rintro e w_1_0 ⟨rfl, hb⟩
        refine ⟨_, rfl, ?_⟩
        have n0_ := Aside0.mk (blk_below (g := gr) (o := .cells #[.int .i64 0, .int .i64 0, .int .i64 0, .int .i64 0, .int .i64 0, .int .i64 0, .int .i64 0, .int .i64 0, .int .i64 0, .int .i64 0, .int .i64 0] 23 (0, 0)) (by (with_reducible repeat (first | refine blk_drewN ?_ _ | refine blk_drew ?_ | refine blk_alloc ?_ _)); exact BR.out) hb); have nb_ := Aside0.mk (below_step (by repeat (first | (with_reducible first | exact HB.out | apply below_alloc | apply pw_below_drewN | apply below_drew1 | refine below_set ?_ GR.out) | exact HB.out)) hb); clear BR HB; have BR := n0_; have HB := nb_; clear n0_ nb_; (try clear hb)
        refine hK.out _ _ trivial (fun hHeld => ?_)
        clear hK K
        refine norm_ (a' := ?_) ?_ ?_
        rotate_left
        · show Act.put _ (some 23) _ = _
          simp only [Act.put, List.setIfInBounds_toArray, List.set_cons_zero, List.set_cons_succ, i64_w, i32_w]
          rfl
        refine two_ (i := 8) (j := 16) (Ni := some 26) (Nj := some 5) #[true, true, true, true, true, true, true, true, true, true, true, false, true, true, false, false, false, false] #[true, true, true, true, true, true, true, true, false, true, true, false, true, true, false, false, true, false] rfl rfl rfl rfl (two_of HT_.out (by kernel_rfl)) (by decide) (by decide) (fun K hK => ?_) (fun K hK => ?_)
        · skip
          refine goes_ Try.func16 (by kernel_rfl) rfl #[.string (a0.extract 12 14), .int .i64 2] (by rfl) rfl rfl (by (try simp only [List.map_toArray, List.map_cons, List.map_nil]); first | done | rfl | (simp only [List.length_drop, List.length_take]; rfl)) ?_
          with_reducible refine (impl_ReadHex.calls k (a0.extract 12 14) 2 t2 _ A2.out).mono ?_
          rintro e w_2_0 ⟨rfl, hb⟩
          refine ⟨_, rfl, ?_⟩
          have n0_ := Aside0.mk (blk_below (g := gr) (o := .cells #[.int .i64 0, .int .i64 0, .int .i64 0, .int .i64 0, .int .i64 0, .int .i64 0, .int .i64 0, .int .i64 0, .int .i64 0, .int .i64 0, .int .i64 0] 23 (0, 0)) (by (with_reducible repeat (first | refine blk_drewN ?_ _ | refine blk_drew ?_ | refine blk_alloc ?_ _)); exact BR.out) hb); have nb_ := Aside0.mk (below_step (by repeat (first | (with_reducible first | exact HB.out | apply below_alloc | apply pw_below_drewN | apply below_drew1 | refine below_set ?_ GR.out) | exact HB.out)) hb); clear BR HB; have BR := n0_; have HB := nb_; clear n0_ nb_; (try clear hb)
          refine hK.out _ _ trivial (fun hHeld => ?_)
          clear hK K
          refine norm_ (a' := ?_) ?_ ?_
          rotate_left
          · show Act.put _ (some 26) _ = _
            simp only [Act.put, List.setIfInBounds_toArray, List.set_cons_zero, List.set_cons_succ, i64_w, i32_w]
            rfl
          refine two_ (i := 11) (j := 16) (Ni := some 29) (Nj := some 5) #[true, true, true, true, true, true, true, true, true, true, true, true, true, true, false, false, false, false] #[true, true, true, true, true, true, true, true, true, true, true, false, true, true, false, false, true, false] rfl rfl rfl rfl (two_of HT_.out (by kernel_rfl)) (by decide) (by decide) (fun K hK => ?_) (fun K hK => ?_)
          · skip
            refine goes_ Try.func16 (by kernel_rfl) rfl #[.string (a0.extract 17 19), .int .i64 2] (by rfl) rfl rfl (by (try simp only [List.map_toArray, List.map_cons, List.map_nil]); first | done | rfl | (simp only [List.length_drop, List.length_take]; rfl)) ?_
            with_reducible refine (impl_ReadHex.calls k (a0.extract 17 19) 2 t3 _ A3.out).mono ?_
            rintro e w_3_0 ⟨rfl, hb⟩
            refine ⟨_, rfl, ?_⟩
            have n0_ := Aside0.mk (blk_below (g := gr) (o := .cells #[.int .i64 0, .int .i64 0, .int .i64 0, .int .i64 0, .int .i64 0, .int .i64 0, .int .i64 0, .int .i64 0, .int .i64 0, .int .i64 0, .int .i64 0] 23 (0, 0)) (by (with_reducible repeat (first | refine blk_drewN ?_ _ | refine blk_drew ?_ | refine blk_alloc ?_ _)); exact BR.out) hb); have nb_ := Aside0.mk (below_step (by repeat (first | (with_reducible first | exact HB.out | apply below_alloc | apply pw_below_drewN | apply below_drew1 | refine below_set ?_ GR.out) | exact HB.out)) hb); clear BR HB; have BR := n0_; have HB := nb_; clear n0_ nb_; (try clear hb)
            refine hK.out _ _ trivial (fun hHeld => ?_)
            clear hK K
            refine norm_ (a' := ?_) ?_ ?_
            rotate_left
            · show Act.put _ (some 29) _ = _
              simp only [Act.put, List.setIfInBounds_toArray, List.set_cons_zero, List.set_cons_succ, i64_w, i32_w]
              rfl
            refine two_ (i := 14) (j := 16) (Ni := some 32) (Nj := some 5) #[true, true, true, true, true, true, true, true, true, true, true, true, true, true, true, false, false, false] #[true, true, true, true, true, true, true, true, true, true, true, true, true, true, false, false, true, false] rfl rfl rfl rfl (two_of HT_.out (by kernel_rfl)) (by decide) (by decide) (fun K hK => ?_) (fun K hK => ?_)
            · skip
              refine goes_ Try.func16 (by kernel_rfl) rfl #[.string (a0.extract 23 27), .int .i64 4] (by rfl) rfl rfl (by (try simp only [List.map_toArray, List.map_cons, List.map_nil]); first | done | rfl | (simp only [List.length_drop, List.length_take]; rfl)) ?_
              with_reducible refine (impl_ReadHex.calls k (a0.extract 23 27) 4 t4 _ A4.out).mono ?_
              rintro e w_4_0 ⟨rfl, hb⟩
              refine ⟨_, rfl, ?_⟩
              have n0_ := Aside0.mk (blk_below (g := gr) (o := .cells #[.int .i64 0, .int .i64 0, .int .i64 0, .int .i64 0, .int .i64 0, .int .i64 0, .int .i64 0, .int .i64 0, .int .i64 0, .int .i64 0, .int .i64 0] 23 (0, 0)) (by (with_reducible repeat (first | refine blk_drewN ?_ _ | refine blk_drew ?_ | refine blk_alloc ?_ _)); exact BR.out) hb); have nb_ := Aside0.mk (below_step (by repeat (first | (with_reducible first | exact HB.out | apply below_alloc | apply pw_below_drewN | apply below_drew1 | refine below_set ?_ GR.out) | exact HB.out)) hb); clear BR HB; have BR := n0_; have HB := nb_; clear n0_ nb_; (try clear hb)
              refine hK.out _ _ trivial (fun hHeld => ?_)
              clear hK K
              refine norm_ (a' := ?_) ?_ ?_
              rotate_left
              · show Act.put _ (some 32) _ = _
                simp only [Act.put, List.setIfInBounds_toArray, List.set_cons_zero, List.set_cons_succ, i64_w, i32_w]
                rfl
              refine pure_ (i := 15) (N := some 33) (v := ?_) (a' := ?_) #[true, true, true, true, true, true, true, true, true, true, true, true, true, true, true, true, false, false] rfl rfl (any_of HT_.out (by kernel_rfl)) (fun _ _ _ h => h) (Or.inl ⟨by rfl, ?_⟩) ?_ ?_
              rotate_left
              · intro w'
                go_simp
                with_reducible rfl
              rotate_left
              · simp only [Act.put, List.setIfInBounds_toArray, List.set_cons_zero, List.set_cons_succ, i64_w, i32_w]
                rfl
              refine one_ (i := 16) (N := some 5) #[true, true, true, true, true, true, true, true, true, true, true, true, true, true, true, true, true, false] rfl rfl (one_of HT_.out (by kernel_rfl)) (by decide) (fun K hK => ?_)
              refine box_step ?hg (N := 5) ?hd (cs := #[.int .i64 0, .int .i64 0, .int .i64 0, .int .i64 0, .int .i64 0, .int .i64 0, .int .i64 0, .int .i64 0, .int .i64 0, .int .i64 0, .int .i64 0]) (t := 23) ?hr ?_; (case hd => rfl); (case hg => rfl); (case hr => first | (go_simp; done) | (go_simp; rfl)); intro ga hg wa_5 hbox hb; have n0_ := Aside0.mk (blk_below (g := gr) (o := .cells #[.int .i64 0, .int .i64 0, .int .i64 0, .int .i64 0, .int .i64 0, .int .i64 0, .int .i64 0, .int .i64 0, .int .i64 0, .int .i64 0, .int .i64 0] 23 (0, 0)) (by (with_reducible repeat (first | refine blk_drewN ?_ _ | refine blk_drew ?_ | refine blk_alloc ?_ _)); exact BR.out) hb); have nb_ := Aside0.mk (below_step (by repeat (first | (with_reducible first | exact HB.out | apply below_alloc | apply pw_below_drewN | apply below_drew1 | refine below_set ?_ GR.out) | exact HB.out)) hb); have nx_ := Aside0.mk hbox; have ng_ := Aside0.mk ((by rw [hg]; exact (below_size (by repeat (first | (with_reducible first | exact HB.out | apply below_alloc | apply pw_below_drewN | apply below_drew1 | refine below_set ?_ GR.out) | exact HB.out))) : w.heap.size ≤ ga)); have nn0_ := Aside0.mk (show gr ≠ ga by have := blk_lt BR.out; omega); clear HB BR; have HB := nb_; have BA := nx_; have GA := ng_; have BR := n0_; have NE_gr_ga := nn0_; clear nb_ nx_ ng_ n0_ nn0_; clear hb hbox hg
              refine hK.out _ _ trivial (fun hHeld => ?_)
              clear hK K
              refine norm_ (a' := ?_) ?_ ?_
              rotate_left
              · show Act.put _ (some 5) _ = _
                simp only [Act.put, List.setIfInBounds_toArray, List.set_cons_zero, List.set_cons_succ, i64_w, i32_w]
                rfl
              exact norm_ (by simp only [putAll, Act.put, List.setIfInBounds_toArray, List.set_cons_zero, List.set_cons_succ]) (hCont ga _ ⟨(by (with_reducible repeat (first | refine blk_drewN ?_ _ | refine blk_drew ?_ | refine blk_alloc ?_ _)); exact BR.out), (by (with_reducible repeat (first | refine blk_drewN ?_ _ | refine blk_drew ?_ | refine blk_alloc ?_ _)); exact BA.out), GA.out, NE_gr_ga.out, (by repeat (first | (with_reducible first | exact HB.out | apply below_alloc | apply pw_below_drewN | apply below_drew1 | refine below_set ?_ GR.out | refine below_set ?_ GA.out) | exact HB.out))⟩)
            · skip
              refine box_step ?hg (N := 5) ?hd (cs := #[.int .i64 0, .int .i64 0, .int .i64 0, .int .i64 0, .int .i64 0, .int .i64 0, .int .i64 0, .int .i64 0, .int .i64 0, .int .i64 0, .int .i64 0]) (t := 23) ?hr ?_; (case hd => rfl); (case hg => rfl); (case hr => first | (go_simp; done) | (go_simp; rfl)); intro ga hg wa_4 hbox hb; have n0_ := Aside0.mk (blk_below (g := gr) (o := .cells #[.int .i64 0, .int .i64 0, .int .i64 0, .int .i64 0, .int .i64 0, .int .i64 0, .int .i64 0, .int .i64 0, .int .i64 0, .int .i64 0, .int .i64 0] 23 (0, 0)) (by (with_reducible repeat (first | refine blk_drewN ?_ _ | refine blk_drew ?_ | refine blk_alloc ?_ _)); exact BR.out) hb); have nb_ := Aside0.mk (below_step (by repeat (first | (with_reducible first | exact HB.out | apply below_alloc | apply pw_below_drewN | apply below_drew1 | refine below_set ?_ GR.out) | exact HB.out)) hb); have nx_ := Aside0.mk hbox; have ng_ := Aside0.mk ((by rw [hg]; exact (below_size (by repeat (first | (with_reducible first | exact HB.out | apply below_alloc | apply pw_below_drewN | apply below_drew1 | refine below_set ?_ GR.out) | exact HB.out))) : w.heap.size ≤ ga)); have nn0_ := Aside0.mk (show gr ≠ ga by have := blk_lt BR.out; omega); clear HB BR; have HB := nb_; have BA := nx_; have GA := ng_; have BR := n0_; have NE_gr_ga := nn0_; clear nb_ nx_ ng_ n0_ nn0_; clear hb hbox hg
              refine hK.out _ _ trivial (fun hHeld => ?_)
              clear hK K
              refine norm_ (a' := ?_) ?_ ?_
              rotate_left
              · show Act.put _ (some 5) _ = _
                simp only [Act.put, List.setIfInBounds_toArray, List.set_cons_zero, List.set_cons_succ, i64_w, i32_w]
                rfl
              refine one_ (i := 14) (N := some 32) #[true, true, true, true, true, true, true, true, true, true, true, true, true, true, true, false, true, false] rfl rfl (one_of HT_.out (by kernel_rfl)) (by decide) (fun K hK => ?_)
              refine goes_ Try.func16 (by kernel_rfl) rfl #[.string (a0.extract 23 27), .int .i64 4] (by rfl) rfl rfl (by (try simp only [List.map_toArray, List.map_cons, List.map_nil]); first | done | rfl | (simp only [List.length_drop, List.length_take]; rfl)) ?_
              with_reducible refine (impl_ReadHex.calls k (a0.extract 23 27) 4 t4 _ A4.out).mono ?_
              rintro e w_4_1 ⟨rfl, hb⟩
              refine ⟨_, rfl, ?_⟩
              have n0_ := Aside0.mk (blk_below (g := gr) (o := .cells #[.int .i64 0, .int .i64 0, .int .i64 0, .int .i64 0, .int .i64 0, .int .i64 0, .int .i64 0, .int .i64 0, .int .i64 0, .int .i64 0, .int .i64 0] 23 (0, 0)) (by (with_reducible repeat (first | refine blk_drewN ?_ _ | refine blk_drew ?_ | refine blk_alloc ?_ _)); exact BR.out) hb); have n1_ := Aside0.mk (blk_below (g := ga) (o := .cells #[.int .i64 0, .int .i64 0, .int .i64 0, .int .i64 0, .int .i64 0, .int .i64 0, .int .i64 0, .int .i64 0, .int .i64 0, .int .i64 0, .int .i64 0] 23 (0, 0)) (by (with_reducible repeat (first | refine blk_drewN ?_ _ | refine blk_drew ?_ | refine blk_alloc ?_ _)); exact BA.out) hb); have nb_ := Aside0.mk (below_step (by repeat (first | (with_reducible first | exact HB.out | apply below_alloc | apply pw_below_drewN | apply below_drew1 | refine below_set ?_ GR.out | refine below_set ?_ GA.out) | exact HB.out)) hb); clear BR BA HB; have BR := n0_; have BA := n1_; have HB := nb_; clear n0_ n1_ nb_; (try clear hb)
              refine hK.out _ _ trivial (fun hHeld => ?_)
              clear hK K
              refine norm_ (a' := ?_) ?_ ?_
              rotate_left
              · show Act.put _ (some 32) _ = _
                simp only [Act.put, List.setIfInBounds_toArray, List.set_cons_zero, List.set_cons_succ, i64_w, i32_w]
                rfl
              refine pure_ (i := 15) (N := some 33) (v := ?_) (a' := ?_) #[true, true, true, true, true, true, true, true, true, true, true, true, true, true, true, true, true, false] rfl rfl (any_of HT_.out (by kernel_rfl)) (fun _ _ _ h => h) (Or.inl ⟨by rfl, ?_⟩) ?_ ?_
              rotate_left
              · intro w'
                go_simp
                with_reducible rfl
              rotate_left
              · simp only [Act.put, List.setIfInBounds_toArray, List.set_cons_zero, List.set_cons_succ, i64_w, i32_w]
                rfl
              exact norm_ (by simp only [putAll, Act.put, List.setIfInBounds_toArray, List.set_cons_zero, List.set_cons_succ]) (hCont ga _ ⟨(by (with_reducible repeat (first | refine blk_drewN ?_ _ | refine blk_drew ?_ | refine blk_alloc ?_ _)); exact BR.out), (by (with_reducible repeat (first | refine blk_drewN ?_ _ | refine blk_drew ?_ | refine blk_alloc ?_ _)); exact BA.out), GA.out, NE_gr_ga.out, (by repeat (first | (with_reducible first | exact HB.out | apply below_alloc | apply pw_below_drewN | apply below_drew1 | refine below_set ?_ GR.out | refine below_set ?_ GA.out) | exact HB.out))⟩)
          · skip
            refine box_step ?hg (N := 5) ?hd (cs := #[.int .i64 0, .int .i64 0, .int .i64 0, .int .i64 0, .int .i64 0, .int .i64 0, .int .i64 0, .int .i64 0, .int .i64 0, .int .i64 0, .int .i64 0]) (t := 23) ?hr ?_; (case hd => rfl); (case hg => rfl); (case hr => first | (go_simp; done) | (go_simp; rfl)); intro ga hg wa_3 hbox hb; have n0_ := Aside0.mk (blk_below (g := gr) (o := .cells #[.int .i64 0, .int .i64 0, .int .i64 0, .int .i64 0, .int .i64 0, .int .i64 0, .int .i64 0, .int .i64 0, .int .i64 0, .int .i64 0, .int .i64 0] 23 (0, 0)) (by (with_reducible repeat (first | refine blk_drewN ?_ _ | refine blk_drew ?_ | refine blk_alloc ?_ _)); exact BR.out) hb); have nb_ := Aside0.mk (below_step (by repeat (first | (with_reducible first | exact HB.out | apply below_alloc | apply pw_below_drewN | apply below_drew1 | refine below_set ?_ GR.out) | exact HB.out)) hb); have nx_ := Aside0.mk hbox; have ng_ := Aside0.mk ((by rw [hg]; exact (below_size (by repeat (first | (with_reducible first | exact HB.out | apply below_alloc | apply pw_below_drewN | apply below_drew1 | refine below_set ?_ GR.out) | exact HB.out))) : w.heap.size ≤ ga)); have nn0_ := Aside0.mk (show gr ≠ ga by have := blk_lt BR.out; omega); clear HB BR; have HB := nb_; have BA := nx_; have GA := ng_; have BR := n0_; have NE_gr_ga := nn0_; clear nb_ nx_ ng_ n0_ nn0_; clear hb hbox hg
            refine hK.out _ _ trivial (fun hHeld => ?_)
            clear hK K
            refine norm_ (a' := ?_) ?_ ?_
            rotate_left
            · show Act.put _ (some 5) _ = _
              simp only [Act.put, List.setIfInBounds_toArray, List.set_cons_zero, List.set_cons_succ, i64_w, i32_w]
              rfl
            refine one_ (i := 11) (N := some 29) #[true, true, true, true, true, true, true, true, true, true, true, true, true, true, false, false, true, false] rfl rfl (one_of HT_.out (by kernel_rfl)) (by decide) (fun K hK => ?_)
            refine goes_ Try.func16 (by kernel_rfl) rfl #[.string (a0.extract 17 19), .int .i64 2] (by rfl) rfl rfl (by (try simp only [List.map_toArray, List.map_cons, List.map_nil]); first | done | rfl | (simp only [List.length_drop, List.length_take]; rfl)) ?_
            with_reducible refine (impl_ReadHex.calls k (a0.extract 17 19) 2 t3 _ A3.out).mono ?_
            rintro e w_3_1 ⟨rfl, hb⟩
            refine ⟨_, rfl, ?_⟩
            have n0_ := Aside0.mk (blk_below (g := gr) (o := .cells #[.int .i64 0, .int .i64 0, .int .i64 0, .int .i64 0, .int .i64 0, .int .i64 0, .int .i64 0, .int .i64 0, .int .i64 0, .int .i64 0, .int .i64 0] 23 (0, 0)) (by (with_reducible repeat (first | refine blk_drewN ?_ _ | refine blk_drew ?_ | refine blk_alloc ?_ _)); exact BR.out) hb); have n1_ := Aside0.mk (blk_below (g := ga) (o := .cells #[.int .i64 0, .int .i64 0, .int .i64 0, .int .i64 0, .int .i64 0, .int .i64 0, .int .i64 0, .int .i64 0, .int .i64 0, .int .i64 0, .int .i64 0] 23 (0, 0)) (by (with_reducible repeat (first | refine blk_drewN ?_ _ | refine blk_drew ?_ | refine blk_alloc ?_ _)); exact BA.out) hb); have nb_ := Aside0.mk (below_step (by repeat (first | (with_reducible first | exact HB.out | apply below_alloc | apply pw_below_drewN | apply below_drew1 | refine below_set ?_ GR.out | refine below_set ?_ GA.out) | exact HB.out)) hb); clear BR BA HB; have BR := n0_; have BA := n1_; have HB := nb_; clear n0_ n1_ nb_; (try clear hb)
            refine hK.out _ _ trivial (fun hHeld => ?_)
            clear hK K
            refine norm_ (a' := ?_) ?_ ?_
            rotate_left
            · show Act.put _ (some 29) _ = _
              simp only [Act.put, List.setIfInBounds_toArray, List.set_cons_zero, List.set_cons_succ, i64_w, i32_w]
              rfl
            refine one_ (i := 14) (N := some 32) #[true, true, true, true, true, true, true, true, true, true, true, true, true, true, true, false, true, false] rfl rfl (one_of HT_.out (by kernel_rfl)) (by decide) (fun K hK => ?_)
            refine goes_ Try.func16 (by kernel_rfl) rfl #[.string (a0.extract 23 27), .int .i64 4] (by rfl) rfl rfl (by (try simp only [List.map_toArray, List.map_cons, List.map_nil]); first | done | rfl | (simp only [List.length_drop, List.length_take]; rfl)) ?_
            with_reducible refine (impl_ReadHex.calls k (a0.extract 23 27) 4 t4 _ A4.out).mono ?_
            rintro e w_4_1 ⟨rfl, hb⟩
            refine ⟨_, rfl, ?_⟩
            have n0_ := Aside0.mk (blk_below (g := gr) (o := .cells #[.int .i64 0, .int .i64 0, .int .i64 0, .int .i64 0, .int .i64 0, .int .i64 0, .int .i64 0, .int .i64 0, .int .i64 0, .int .i64 0, .int .i64 0] 23 (0, 0)) (by (with_reducible repeat (first | refine blk_drewN ?_ _ | refine blk_drew ?_ | refine blk_alloc ?_ _)); exact BR.out) hb); have n1_ := Aside0.mk (blk_below (g := ga) (o := .cells #[.int .i64 0, .int .i64 0, .int .i64 0, .int .i64 0, .int .i64 0, .int .i64 0, .int .i64 0, .int .i64 0, .int .i64 0, .int .i64 0, .int .i64 0] 23 (0, 0)) (by (with_reducible repeat (first | refine blk_drewN ?_ _ | refine blk_drew ?_ | refine blk_alloc ?_ _)); exact BA.out) hb); have nb_ := Aside0.mk (below_step (by repeat (first | (with_reducible first | exact HB.out | apply below_alloc | apply pw_below_drewN | apply below_drew1 | refine below_set ?_ GR.out | refine below_set ?_ GA.out) | exact HB.out)) hb); clear BR BA HB; have BR := n0_; have BA := n1_; have HB := nb_; clear n0_ n1_ nb_; (try clear hb)
            refine hK.out _ _ trivial (fun hHeld => ?_)
            clear hK K
            refine norm_ (a' := ?_) ?_ ?_
            rotate_left
            · show Act.put _ (some 32) _ = _
              simp only [Act.put, List.setIfInBounds_toArray, List.set_cons_zero, List.set_cons_succ, i64_w, i32_w]
              rfl
            refine pure_ (i := 15) (N := some 33) (v := ?_) (a' := ?_) #[true, true, true, true, true, true, true, true, true, true, true, true, true, true, true, true, true, false] rfl rfl (any_of HT_.out (by kernel_rfl)) (fun _ _ _ h => h) (Or.inl ⟨by rfl, ?_⟩) ?_ ?_
            rotate_left
            · intro w'
              go_simp
              with_reducible rfl
            rotate_left
            · simp only [Act.put, List.setIfInBounds_toArray, List.set_cons_zero, List.set_cons_succ, i64_w, i32_w]
              rfl
            exact norm_ (by simp only [putAll, Act.put, List.setIfInBounds_toArray, List.set_cons_zero, List.set_cons_succ]) (hCont ga _ ⟨(by (with_reducible repeat (first | refine blk_drewN ?_ _ | refine blk_drew ?_ | refine blk_alloc ?_ _)); exact BR.out), (by (with_reducible repeat (first | refine blk_drewN ?_ _ | refine blk_drew ?_ | refine blk_alloc ?_ _)); exact BA.out), GA.out, NE_gr_ga.out, (by repeat (first | (with_reducible first | exact HB.out | apply below_alloc | apply pw_below_drewN | apply below_drew1 | refine below_set ?_ GR.out | refine below_set ?_ GA.out) | exact HB.out))⟩)
        · skip
          refine box_step ?hg (N := 5) ?hd (cs := #[.int .i64 0, .int .i64 0, .int .i64 0, .int .i64 0, .int .i64 0, .int .i64 0, .int .i64 0, .int .i64 0, .int .i64 0, .int .i64 0, .int .i64 0]) (t := 23) ?hr ?_; (case hd => rfl); (case hg => rfl); (case hr => first | (go_simp; done) | (go_simp; rfl)); intro ga hg wa_2 hbox hb; have n0_ := Aside0.mk (blk_below (g := gr) (o := .cells #[.int .i64 0, .int .i64 0, .int .i64 0, .int .i64 0, .int .i64 0, .int .i64 0, .int .i64 0, .int .i64 0, .int .i64 0, .int .i64 0, .int .i64 0] 23 (0, 0)) (by (with_reducible repeat (first | refine blk_drewN ?_ _ | refine blk_drew ?_ | refine blk_alloc ?_ _)); exact BR.out) hb); have nb_ := Aside0.mk (below_step (by repeat (first | (with_reducible first | exact HB.out | apply below_alloc | apply pw_below_drewN | apply below_drew1 | refine below_set ?_ GR.out) | exact HB.out)) hb); have nx_ := Aside0.mk hbox; have ng_ := Aside0.mk ((by rw [hg]; exact (below_size (by repeat (first | (with_reducible first | exact HB.out | apply below_alloc | apply pw_below_drewN | apply below_drew1 | refine below_set ?_ GR.out) | exact HB.out))) : w.heap.size ≤ ga)); have nn0_ := Aside0.mk (show gr ≠ ga by have := blk_lt BR.out; omega); clear HB BR; have HB := nb_; have BA := nx_; have GA := ng_; have BR := n0_; have NE_gr_ga := nn0_; clear nb_ nx_ ng_ n0_ nn0_; clear hb hbox hg
          refine hK.out _ _ trivial (fun hHeld => ?_)
          clear hK K
          refine norm_ (a' := ?_) ?_ ?_
          rotate_left
          · show Act.put _ (some 5) _ = _
            simp only [Act.put, List.setIfInBounds_toArray, List.set_cons_zero, List.set_cons_succ, i64_w, i32_w]
            rfl
          refine one_ (i := 8) (N := some 26) #[true, true, true, true, true, true, true, true, true, true, true, false, true, true, false, false, true, false] rfl rfl (one_of HT_.out (by kernel_rfl)) (by decide) (fun K hK => ?_)
          refine goes_ Try.func16 (by kernel_rfl) rfl #[.string (a0.extract 12 14), .int .i64 2] (by rfl) rfl rfl (by (try simp only [List.map_toArray, List.map_cons, List.map_nil]); first | done | rfl | (simp only [List.length_drop, List.length_take]; rfl)) ?_
          with_reducible refine (impl_ReadHex.calls k (a0.extract 12 14) 2 t2 _ A2.out).mono ?_
          rintro e w_2_1 ⟨rfl, hb⟩
          refine ⟨_, rfl, ?_⟩
          have n0_ := Aside0.mk (blk_below (g := gr) (o := .cells #[.int .i64 0, .int .i64 0, .int .i64 0, .int .i64 0, .int .i64 0, .int .i64 0, .int .i64 0, .int .i64 0, .int .i64 0, .int .i64 0, .int .i64 0] 23 (0, 0)) (by (with_reducible repeat (first | refine blk_drewN ?_ _ | refine blk_drew ?_ | refine blk_alloc ?_ _)); exact BR.out) hb); have n1_ := Aside0.mk (blk_below (g := ga) (o := .cells #[.int .i64 0, .int .i64 0, .int .i64 0, .int .i64 0, .int .i64 0, .int .i64 0, .int .i64 0, .int .i64 0, .int .i64 0, .int .i64 0, .int .i64 0] 23 (0, 0)) (by (with_reducible repeat (first | refine blk_drewN ?_ _ | refine blk_drew ?_ | refine blk_alloc ?_ _)); exact BA.out) hb); have nb_ := Aside0.mk (below_step (by repeat (first | (with_reducible first | exact HB.out | apply below_alloc | apply pw_below_drewN | apply below_drew1 | refine below_set ?_ GR.out | refine below_set ?_ GA.out) | exact HB.out)) hb); clear BR BA HB; have BR := n0_; have BA := n1_; have HB := nb_; clear n0_ n1_ nb_; (try clear hb)
          refine hK.out _ _ trivial (fun hHeld => ?_)
          clear hK K
          refine norm_ (a' := ?_) ?_ ?_
          rotate_left
          · show Act.put _ (some 26) _ = _
            simp only [Act.put, List.setIfInBounds_toArray, List.set_cons_zero, List.set_cons_succ, i64_w, i32_w]
            rfl
          refine one_ (i := 11) (N := some 29) #[true, true, true, true, true, true, true, true, true, true, true, true, true, true, false, false, true, false] rfl rfl (one_of HT_.out (by kernel_rfl)) (by decide) (fun K hK => ?_)
          refine goes_ Try.func16 (by kernel_rfl) rfl #[.string (a0.extract 17 19), .int .i64 2] (by rfl) rfl rfl (by (try simp only [List.map_toArray, List.map_cons, List.map_nil]); first | done | rfl | (simp only [List.length_drop, List.length_take]; rfl)) ?_
          with_reducible refine (impl_ReadHex.calls k (a0.extract 17 19) 2 t3 _ A3.out).mono ?_
          rintro e w_3_1 ⟨rfl, hb⟩
          refine ⟨_, rfl, ?_⟩
          have n0_ := Aside0.mk (blk_below (g := gr) (o := .cells #[.int .i64 0, .int .i64 0, .int .i64 0, .int .i64 0, .int .i64 0, .int .i64 0, .int .i64 0, .int .i64 0, .int .i64 0, .int .i64 0, .int .i64 0] 23 (0, 0)) (by (with_reducible repeat (first | refine blk_drewN ?_ _ | refine blk_drew ?_ | refine blk_alloc ?_ _)); exact BR.out) hb); have n1_ := Aside0.mk (blk_below (g := ga) (o := .cells #[.int .i64 0, .int .i64 0, .int .i64 0, .int .i64 0, .int .i64 0, .int .i64 0, .int .i64 0, .int .i64 0, .int .i64 0, .int .i64 0, .int .i64 0] 23 (0, 0)) (by (with_reducible repeat (first | refine blk_drewN ?_ _ | refine blk_drew ?_ | refine blk_alloc ?_ _)); exact BA.out) hb); have nb_ := Aside0.mk (below_step (by repeat (first | (with_reducible first | exact HB.out | apply below_alloc | apply pw_below_drewN | apply below_drew1 | refine below_set ?_ GR.out | refine below_set ?_ GA.out) | exact HB.out)) hb); clear BR BA HB; have BR := n0_; have BA := n1_; have HB := nb_; clear n0_ n1_ nb_; (try clear hb)
          refine hK.out _ _ trivial (fun hHeld => ?_)
          clear hK K
          refine norm_ (a' := ?_) ?_ ?_
          rotate_left
          · show Act.put _ (some 29) _ = _
            simp only [Act.put, List.setIfInBounds_toArray, List.set_cons_zero, List.set_cons_succ, i64_w, i32_w]
            rfl
          refine one_ (i := 14) (N := some 32) #[true, true, true, true, true, true, true, true, true, true, true, true, true, true, true, false, true, false] rfl rfl (one_of HT_.out (by kernel_rfl)) (by decide) (fun K hK => ?_)
          refine goes_ Try.func16 (by kernel_rfl) rfl #[.string (a0.extract 23 27), .int .i64 4] (by rfl) rfl rfl (by (try simp only [List.map_toArray, List.map_cons, List.map_nil]); first | done | rfl | (simp only [List.length_drop, List.length_take]; rfl)) ?_
          with_reducible refine (impl_ReadHex.calls k (a0.extract 23 27) 4 t4 _ A4.out).mono ?_
          rintro e w_4_1 ⟨rfl, hb⟩
          refine ⟨_, rfl, ?_⟩
          have n0_ := Aside0.mk (blk_below (g := gr) (o := .cells #[.int .i64 0, .int .i64 0, .int .i64 0, .int .i64 0, .int .i64 0, .int .i64 0, .int .i64 0, .int .i64 0, .int .i64 0, .int .i64 0, .int .i64 0] 23 (0, 0)) (by (with_reducible repeat (first | refine blk_drewN ?_ _ | refine blk_drew ?_ | refine blk_alloc ?_ _)); exact BR.out) hb); have n1_ := Aside0.mk (blk_below (g := ga) (o := .cells #[.int .i64 0, .int .i64 0, .int .i64 0, .int .i64 0, .int .i64 0, .int .i64 0, .int .i64 0, .int .i64 0, .int .i64 0, .int .i64 0, .int .i64 0] 23 (0, 0)) (by (with_reducible repeat (first | refine blk_drewN ?_ _ | refine blk_drew ?_ | refine blk_alloc ?_ _)); exact BA.out) hb); have nb_ := Aside0.mk (below_step (by repeat (first | (with_reducible first | exact HB.out | apply below_alloc | apply pw_below_drewN | apply below_drew1 | refine below_set ?_ GR.out | refine below_set ?_ GA.out) | exact HB.out)) hb); clear BR BA HB; have BR := n0_; have BA := n1_; have HB := nb_; clear n0_ n1_ nb_; (try clear hb)
          refine hK.out _ _ trivial (fun hHeld => ?_)
          clear hK K
          refine norm_ (a' := ?_) ?_ ?_
          rotate_left
          · show Act.put _ (some 32) _ = _
            simp only [Act.put, List.setIfInBounds_toArray, List.set_cons_zero, List.set_cons_succ, i64_w, i32_w]
            rfl
          refine pure_ (i := 15) (N := some 33) (v := ?_) (a' := ?_) #[true, true, true, true, true, true, true, true, true, true, true, true, true, true, true, true, true, false] rfl rfl (any_of HT_.out (by kernel_rfl)) (fun _ _ _ h => h) (Or.inl ⟨by rfl, ?_⟩) ?_ ?_
          rotate_left
          · intro w'
            go_simp
            with_reducible rfl
          rotate_left
          · simp only [Act.put, List.setIfInBounds_toArray, List.set_cons_zero, List.set_cons_succ, i64_w, i32_w]
            rfl
          exact norm_ (by simp only [putAll, Act.put, List.setIfInBounds_toArray, List.set_cons_zero, List.set_cons_succ]) (hCont ga _ ⟨(by (with_reducible repeat (first | refine blk_drewN ?_ _ | refine blk_drew ?_ | refine blk_alloc ?_ _)); exact BR.out), (by (with_reducible repeat (first | refine blk_drewN ?_ _ | refine blk_drew ?_ | refine blk_alloc ?_ _)); exact BA.out), GA.out, NE_gr_ga.out, (by repeat (first | (with_reducible first | exact HB.out | apply below_alloc | apply pw_below_drewN | apply below_drew1 | refine below_set ?_ GR.out | refine below_set ?_ GA.out) | exact HB.out))⟩)
      · skip
        refine box_step ?hg (N := 5) ?hd (cs := #[.int .i64 0, .int .i64 0, .int .i64 0, .int .i64 0, .int .i64 0, .int .i64 0, .int .i64 0, .int .i64 0, .int .i64 0, .int .i64 0, .int .i64 0]) (t := 23) ?hr ?_; (case hd => rfl); (case hg => rfl); (case hr => first | (go_simp; done) | (go_simp; rfl)); intro ga hg wa_1 hbox hb; have n0_ := Aside0.mk (blk_below (g := gr) (o := .cells #[.int .i64 0, .int .i64 0, .int .i64 0, .int .i64 0, .int .i64 0, .int .i64 0, .int .i64 0, .int .i64 0, .int .i64 0, .int .i64 0, .int .i64 0] 23 (0, 0)) (by (with_reducible repeat (first | refine blk_drewN ?_ _ | refine blk_drew ?_ | refine blk_alloc ?_ _)); exact BR.out) hb); have nb_ := Aside0.mk (below_step (by repeat (first | (with_reducible first | exact HB.out | apply below_alloc | apply pw_below_drewN | apply below_drew1 | refine below_set ?_ GR.out) | exact HB.out)) hb); have nx_ := Aside0.mk hbox; have ng_ := Aside0.mk ((by rw [hg]; exact (below_size (by repeat (first | (with_reducible first | exact HB.out | apply below_alloc | apply pw_below_drewN | apply below_drew1 | refine below_set ?_ GR.out) | exact HB.out))) : w.heap.size ≤ ga)); have nn0_ := Aside0.mk (show gr ≠ ga by have := blk_lt BR.out; omega); clear HB BR; have HB := nb_; have BA := nx_; have GA := ng_; have BR := n0_; have NE_gr_ga := nn0_; clear nb_ nx_ ng_ n0_ nn0_; clear hb hbox hg
        refine hK.out _ _ trivial (fun hHeld => ?_)
        clear hK K
        refine norm_ (a' := ?_) ?_ ?_
        rotate_left
        · show Act.put _ (some 5) _ = _
          simp only [Act.put, List.setIfInBounds_toArray, List.set_cons_zero, List.set_cons_succ, i64_w, i32_w]
          rfl
        refine one_ (i := 5) (N := some 23) #[true, true, true, true, true, true, true, true, false, true, true, false, true, true, false, false, true, false] rfl rfl (one_of HT_.out (by kernel_rfl)) (by decide) (fun K hK => ?_)
        refine goes_ Try.func16 (by kernel_rfl) rfl #[.string (a0.extract 7 9), .int .i64 2] (by rfl) rfl rfl (by (try simp only [List.map_toArray, List.map_cons, List.map_nil]); first | done | rfl | (simp only [List.length_drop, List.length_take]; rfl)) ?_
        with_reducible refine (impl_ReadHex.calls k (a0.extract 7 9) 2 t1 _ A1.out).mono ?_
        rintro e w_1_1 ⟨rfl, hb⟩
        refine ⟨_, rfl, ?_⟩
        have n0_ := Aside0.mk (blk_below (g := gr) (o := .cells #[.int .i64 0, .int .i64 0, .int .i64 0, .int .i64 0, .int .i64 0, .int .i64 0, .int .i64 0, .int .i64 0, .int .i64 0, .int .i64 0, .int .i64 0] 23 (0, 0)) (by (with_reducible repeat (first | refine blk_drewN ?_ _ | refine blk_drew ?_ | refine blk_alloc ?_ _)); exact BR.out) hb); have n1_ := Aside0.mk (blk_below (g := ga) (o := .cells #[.int .i64 0, .int .i64 0, .int .i64 0, .int .i64 0, .int .i64 0, .int .i64 0, .int .i64 0, .int .i64 0, .int .i64 0, .int .i64 0, .int .i64 0] 23 (0, 0)) (by (with_reducible repeat (first | refine blk_drewN ?_ _ | refine blk_drew ?_ | refine blk_alloc ?_ _)); exact BA.out) hb); have nb_ := Aside0.mk (below_step (by repeat (first | (with_reducible first | exact HB.out | apply below_alloc | apply pw_below_drewN | apply below_drew1 | refine below_set ?_ GR.out | refine below_set ?_ GA.out) | exact HB.out)) hb); clear BR BA HB; have BR := n0_; have BA := n1_; have HB := nb_; clear n0_ n1_ nb_; (try clear hb)
        refine hK.out _ _ trivial (fun hHeld => ?_)
        clear hK K
        refine norm_ (a' := ?_) ?_ ?_
        rotate_left
        · show Act.put _ (some 23) _ = _
          simp only [Act.put, List.setIfInBounds_toArray, List.set_cons_zero, List.set_cons_succ, i64_w, i32_w]
          rfl
        refine one_ (i := 8) (N := some 26) #[true, true, true, true, true, true, true, true, true, true, true, false, true, true, false, false, true, false] rfl rfl (one_of HT_.out (by kernel_rfl)) (by decide) (fun K hK => ?_)
        refine goes_ Try.func16 (by kernel_rfl) rfl #[.string (a0.extract 12 14), .int .i64 2] (by rfl) rfl rfl (by (try simp only [List.map_toArray, List.map_cons, List.map_nil]); first | done | rfl | (simp only [List.length_drop, List.length_take]; rfl)) ?_
        with_reducible refine (impl_ReadHex.calls k (a0.extract 12 14) 2 t2 _ A2.out).mono ?_
        rintro e w_2_1 ⟨rfl, hb⟩
        refine ⟨_, rfl, ?_⟩
        have n0_ := Aside0.mk (blk_below (g := gr) (o := .cells #[.int .i64 0, .int .i64 0, .int .i64 0, .int .i64 0, .int .i64 0, .int .i64 0, .int .i64 0, .int .i64 0, .int .i64 0, .int .i64 0, .int .i64 0] 23 (0, 0)) (by (with_reducible repeat (first | refine blk_drewN ?_ _ | refine blk_drew ?_ | refine blk_alloc ?_ _)); exact BR.out) hb); have n1_ := Aside0.mk (blk_below (g := ga) (o := .cells #[.int .i64 0, .int .i64 0, .int .i64 0, .int .i64 0, .int .i64 0, .int .i64 0, .int .i64 0, .int .i64 0, .int .i64 0, .int .i64 0, .int .i64 0] 23 (0, 0)) (by (with_reducible repeat (first | refine blk_drewN ?_ _ | refine blk_drew ?_ | refine blk_alloc ?_ _)); exact BA.out) hb); have nb_ := Aside0.mk (below_step (by repeat (first | (with_reducible first | exact HB.out | apply below_alloc | apply pw_below_drewN | apply below_drew1 | refine below_set ?_ GR.out | refine below_set ?_ GA.out) | exact HB.out)) hb); clear BR BA HB; have BR := n0_; have BA := n1_; have HB := nb_; clear n0_ n1_ nb_; (try clear hb)
        refine hK.out _ _ trivial (fun hHeld => ?_)
        clear hK K
        refine norm_ (a' := ?_) ?_ ?_
        rotate_left
        · show Act.put _ (some 26) _ = _
          simp only [Act.put, List.setIfInBounds_toArray, List.set_cons_zero, List.set_cons_succ, i64_w, i32_w]
          rfl
        refine one_ (i := 11) (N := some 29) #[true, true, true, true, true, true, true, true, true, true, true, true, true, true, false, false, true, false] rfl rfl (one_of HT_.out (by kernel_rfl)) (by decide) (fun K hK => ?_)
        refine goes_ Try.func16 (by kernel_rfl) rfl #[.string (a0.extract 17 19), .int .i64 2] (by rfl) rfl rfl (by (try simp only [List.map_toArray, List.map_cons, List.map_nil]); first | done | rfl | (simp only [List.length_drop, List.length_take]; rfl)) ?_
        with_reducible refine (impl_ReadHex.calls k (a0.extract 17 19) 2 t3 _ A3.out).mono ?_
        rintro e w_3_1 ⟨rfl, hb⟩
        refine ⟨_, rfl, ?_⟩
        have n0_ := Aside0.mk (blk_below (g := gr) (o := .cells #[.int .i64 0, .int .i64 0, .int .i64 0, .int .i64 0, .int .i64 0, .int .i64 0, .int .i64 0, .int .i64 0, .int .i64 0, .int .i64 0, .int .i64 0] 23 (0, 0)) (by (with_reducible repeat (first | refine blk_drewN ?_ _ | refine blk_drew ?_ | refine blk_alloc ?_ _)); exact BR.out) hb); have n1_ := Aside0.mk (blk_below (g := ga) (o := .cells #[.int .i64 0, .int .i64 0, .int .i64 0, .int .i64 0, .int .i64 0, .int .i64 0, .int .i64 0, .int .i64 0, .int .i64 0, .int .i64 0, .int .i64 0] 23 (0, 0)) (by (with_reducible repeat (first | refine blk_drewN ?_ _ | refine blk_drew ?_ | refine blk_alloc ?_ _)); exact BA.out) hb); have nb_ := Aside0.mk (below_step (by repeat (first | (with_reducible first | exact HB.out | apply below_alloc | apply pw_below_drewN | apply below_drew1 | refine below_set ?_ GR.out | refine below_set ?_ GA.out) | exact HB.out)) hb); clear BR BA HB; have BR := n0_; have BA := n1_; have HB := nb_; clear n0_ n1_ nb_; (try clear hb)
        refine hK.out _ _ trivial (fun hHeld => ?_)
        clear hK K
        refine norm_ (a' := ?_) ?_ ?_
        rotate_left
        · show Act.put _ (some 29) _ = _
          simp only [Act.put, List.setIfInBounds_toArray, List.set_cons_zero, List.set_cons_succ, i64_w, i32_w]
          rfl
        refine one_ (i := 14) (N := some 32) #[true, true, true, true, true, true, true, true, true, true, true, true, true, true, true, false, true, false] rfl rfl (one_of HT_.out (by kernel_rfl)) (by decide) (fun K hK => ?_)
        refine goes_ Try.func16 (by kernel_rfl) rfl #[.string (a0.extract 23 27), .int .i64 4] (by rfl) rfl rfl (by (try simp only [List.map_toArray, List.map_cons, List.map_nil]); first | done | rfl | (simp only [List.length_drop, List.length_take]; rfl)) ?_
        with_reducible refine (impl_ReadHex.calls k (a0.extract 23 27) 4 t4 _ A4.out).mono ?_
        rintro e w_4_1 ⟨rfl, hb⟩
        refine ⟨_, rfl, ?_⟩
        have n0_ := Aside0.mk (blk_below (g := gr) (o := .cells #[.int .i64 0, .int .i64 0, .int .i64 0, .int .i64 0, .int .i64 0, .int .i64 0, .int .i64 0, .int .i64 0, .int .i64 0, .int .i64 0, .int .i64 0] 23 (0, 0)) (by (with_reducible repeat (first | refine blk_drewN ?_ _ | refine blk_drew ?_ | refine blk_alloc ?_ _)); exact BR.out) hb); have n1_ := Aside0.mk (blk_below (g := ga) (o := .cells #[.int .i64 0, .int .i64 0, .int .i64 0, .int .i64 0, .int .i64 0, .int .i64 0, .int .i64 0, .int .i64 0, .int .i64 0, .int .i64 0, .int .i64 0] 23 (0, 0)) (by (with_reducible repeat (first | refine blk_drewN ?_ _ | refine blk_drew ?_ | refine blk_alloc ?_ _)); exact BA.out) hb); have nb_ := Aside0.mk (below_step (by repeat (first | (with_reducible first | exact HB.out | apply below_alloc | apply pw_below_drewN | apply below_drew1 | refine below_set ?_ GR.out | refine below_set ?_ GA.out) | exact HB.out)) hb); clear BR BA HB; have BR := n0_; have BA := n1_; have HB := nb_; clear n0_ n1_ nb_; (try clear hb)
        refine hK.out _ _ trivial (fun hHeld => ?_)
        clear hK K
        refine norm_ (a' := ?_) ?_ ?_
        rotate_left
        · show Act.put _ (some 32) _ = _
          simp only [Act.put, List.setIfInBounds_toArray, List.set_cons_zero, List.set_cons_succ, i64_w, i32_w]
          rfl
        refine pure_ (i := 15) (N := some 33) (v := ?_) (a' := ?_) #[true, true, true, true, true, true, true, true, true, true, true, true, true, true, true, true, true, false] rfl rfl (any_of HT_.out (by kernel_rfl)) (fun _ _ _ h => h) (Or.inl ⟨by rfl, ?_⟩) ?_ ?_
        rotate_left
        · intro w'
          go_simp
          with_reducible rfl
        rotate_left
        · simp only [Act.put, List.setIfInBounds_toArray, List.set_cons_zero, List.set_cons_succ, i64_w, i32_w]
          rfl
        exact norm_ (by simp only [putAll, Act.put, List.setIfInBounds_toArray, List.set_cons_zero, List.set_cons_succ]) (hCont ga _ ⟨(by (with_reducible repeat (first | refine blk_drewN ?_ _ | refine blk_drew ?_ | refine blk_alloc ?_ _)); exact BR.out), (by (with_reducible repeat (first | refine blk_drewN ?_ _ | refine blk_drew ?_ | refine blk_alloc ?_ _)); exact BA.out), GA.out, NE_gr_ga.out, (by repeat (first | (with_reducible first | exact HB.out | apply below_alloc | apply pw_below_drewN | apply below_drew1 | refine below_set ?_ GR.out | refine below_set ?_ GA.out) | exact HB.out))⟩)
    · skip
      refine box_step ?hg (N := 5) ?hd (cs := #[.int .i64 0, .int .i64 0, .int .i64 0, .int .i64 0, .int .i64 0, .int .i64 0, .int .i64 0, .int .i64 0, .int .i64 0, .int .i64 0, .int .i64 0]) (t := 23) ?hr ?_; (case hd => rfl); (case hg => rfl); (case hr => first | (go_simp; done) | (go_simp; rfl)); intro ga hg wa_0 hbox hb; have n0_ := Aside0.mk (blk_below (g := gr) (o := .cells #[.int .i64 0, .int .i64 0, .int .i64 0, .int .i64 0, .int .i64 0, .int .i64 0, .int .i64 0, .int .i64 0, .int .i64 0, .int .i64 0, .int .i64 0] 23 (0, 0)) (by (with_reducible repeat (first | refine blk_drewN ?_ _ | refine blk_drew ?_ | refine blk_alloc ?_ _)); exact BR.out) hb); have nb_ := Aside0.mk (below_step (by repeat (first | (with_reducible first | exact HB.out | apply below_alloc | apply pw_below_drewN | apply below_drew1 | refine below_set ?_ GR.out) | exact HB.out)) hb); have nx_ := Aside0.mk hbox; have ng_ := Aside0.mk ((by rw [hg]; exact (below_size (by repeat (first | (with_reducible first | exact HB.out | apply below_alloc | apply pw_below_drewN | apply below_drew1 | refine below_set ?_ GR.out) | exact HB.out))) : w.heap.size ≤ ga)); have nn0_ := Aside0.mk (show gr ≠ ga by have := blk_lt BR.out; omega); clear HB BR; have HB := nb_; have BA := nx_; have GA := ng_; have BR := n0_; have NE_gr_ga := nn0_; clear nb_ nx_ ng_ n0_ nn0_; clear hb hbox hg
      refine hK.out _ _ trivial (fun hHeld => ?_)
      clear hK K
      refine norm_ (a' := ?_) ?_ ?_
      rotate_left
      · show Act.put _ (some 5) _ = _
        simp only [Act.put, List.setIfInBounds_toArray, List.set_cons_zero, List.set_cons_succ, i64_w, i32_w]
        rfl
      refine one_ (i := 2) (N := some 20) #[true, true, true, true, true, false, true, true, false, true, true, false, true, true, false, false, true, false] rfl rfl (one_of HT_.out (by kernel_rfl)) (by decide) (fun K hK => ?_)
      refine goes_ Try.func16 (by kernel_rfl) rfl #[.string (a0.extract 2 4), .int .i64 2] (by rfl) rfl rfl (by (try simp only [List.map_toArray, List.map_cons, List.map_nil]); first | done | rfl | (simp only [List.length_drop, List.length_take]; rfl)) ?_
      with_reducible refine (impl_ReadHex.calls k (a0.extract 2 4) 2 t0 _ A0.out).mono ?_
      rintro e w_0_1 ⟨rfl, hb⟩
      refine ⟨_, rfl, ?_⟩
      have n0_ := Aside0.mk (blk_below (g := gr) (o := .cells #[.int .i64 0, .int .i64 0, .int .i64 0, .int .i64 0, .int .i64 0, .int .i64 0, .int .i64 0, .int .i64 0, .int .i64 0, .int .i64 0, .int .i64 0] 23 (0, 0)) (by (with_reducible repeat (first | refine blk_drewN ?_ _ | refine blk_drew ?_ | refine blk_alloc ?_ _)); exact BR.out) hb); have n1_ := Aside0.mk (blk_below (g := ga) (o := .cells #[.int .i64 0, .int .i64 0, .int .i64 0, .int .i64 0, .int .i64 0, .int .i64 0, .int .i64 0, .int .i64 0, .int .i64 0, .int .i64 0, .int .i64 0] 23 (0, 0)) (by (with_reducible repeat (first | refine blk_drewN ?_ _ | refine blk_drew ?_ | refine blk_alloc ?_ _)); exact BA.out) hb); have nb_ := Aside0.mk (below_step (by repeat (first | (with_reducible first | exact HB.out | apply below_alloc | apply pw_below_drewN | apply below_drew1 | refine below_set ?_ GR.out | refine below_set ?_ GA.out) | exact HB.out)) hb); clear BR BA HB; have BR := n0_; have BA := n1_; have HB := nb_; clear n0_ n1_ nb_; (try clear hb)
      refine hK.out _ _ trivial (fun hHeld => ?_)
      clear hK K
      refine norm_ (a' := ?_) ?_ ?_
      rotate_left
      · show Act.put _ (some 20) _ = _
        simp only [Act.put, List.setIfInBounds_toArray, List.set_cons_zero, List.set_cons_succ, i64_w, i32_w]
        rfl
      refine one_ (i := 5) (N := some 23) #[true, true, true, true, true, true, true, true, false, true, true, false, true, true, false, false, true, false] rfl rfl (one_of HT_.out (by kernel_rfl)) (by decide) (fun K hK => ?_)
      refine goes_ Try.func16 (by kernel_rfl) rfl #[.string (a0.extract 7 9), .int .i64 2] (by rfl) rfl rfl (by (try simp only [List.map_toArray, List.map_cons, List.map_nil]); first | done | rfl | (simp only [List.length_drop, List.length_take]; rfl)) ?_
      with_reducible refine (impl_ReadHex.calls k (a0.extract 7 9) 2 t1 _ A1.out).mono ?_
      rintro e w_1_1 ⟨rfl, hb⟩
      refine ⟨_, rfl, ?_⟩
      have n0_ := Aside0.mk (blk_below (g := gr) (o := .cells #[.int .i64 0, .int .i64 0, .int .i64 0, .int .i64 0, .int .i64 0, .int .i64 0, .int .i64 0, .int .i64 0, .int .i64 0, .int .i64 0, .int .i64 0] 23 (0, 0)) (by (with_reducible repeat (first | refine blk_drewN ?_ _ | refine blk_drew ?_ | refine blk_alloc ?_ _)); exact BR.out) hb); have n1_ := Aside0.mk (blk_below (g := ga) (o := .cells #[.int .i64 0, .int .i64 0, .int .i64 0, .int .i64 0, .int .i64 0, .int .i64 0, .int .i64 0, .int .i64 0, .int .i64 0, .int .i64 0, .int .i64 0] 23 (0, 0)) (by (with_reducible repeat (first | refine blk_drewN ?_ _ | refine blk_drew ?_ | refine blk_alloc ?_ _)); exact BA.out) hb); have nb_ := Aside0.mk (below_step (by repeat (first | (with_reducible first | exact HB.out | apply below_alloc | apply pw_below_drewN | apply below_drew1 | refine below_set ?_ GR.out | refine below_set ?_ GA.out) | exact HB.out)) hb); clear BR BA HB; have BR := n0_; have BA := n1_; have HB := nb_; clear n0_ n1_ nb_; (try clear hb)
      refine hK.out _ _ trivial (fun hHeld => ?_)
      clear hK K
      refine norm_ (a' := ?_) ?_ ?_
      rotate_left
      · show Act.put _ (some 23) _ = _
        simp only [Act.put, List.setIfInBounds_toArray, List.set_cons_zero, List.set_cons_succ, i64_w, i32_w]
        rfl
      refine one_ (i := 8) (N := some 26) #[true, true, true, true, true, true, true, true, true, true, true, false, true, true, false, false, true, false] rfl rfl (one_of HT_.out (by kernel_rfl)) (by decide) (fun K hK => ?_)
      refine goes_ Try.func16 (by kernel_rfl) rfl #[.string (a0.extract 12 14), .int .i64 2] (by rfl) rfl rfl (by (try simp only [List.map_toArray, List.map_cons, List.map_nil]); first | done | rfl | (simp only [List.length_drop, List.length_take]; rfl)) ?_
      with_reducible refine (impl_ReadHex.calls k (a0.extract 12 14) 2 t2 _ A2.out).mono ?_
      rintro e w_2_1 ⟨rfl, hb⟩
      refine ⟨_, rfl, ?_⟩
      have n0_ := Aside0.mk (blk_below (g := gr) (o := .cells #[.int .i64 0, .int .i64 0, .int .i64 0, .int .i64 0, .int .i64 0, .int .i64 0, .int .i64 0, .int .i64 0, .int .i64 0, .int .i64 0, .int .i64 0] 23 (0, 0)) (by (with_reducible repeat (first | refine blk_drewN ?_ _ | refine blk_drew ?_ | refine blk_alloc ?_ _)); exact BR.out) hb); have n1_ := Aside0.mk (blk_below (g := ga) (o := .cells #[.int .i64 0, .int .i64 0, .int .i64 0, .int .i64 0, .int .i64 0, .int .i64 0, .int .i64 0, .int .i64 0, .int .i64 0, .int .i64 0, .int .i64 0] 23 (0, 0)) (by (with_reducible repeat (first | refine blk_drewN ?_ _ | refine blk_drew ?_ | refine blk_alloc ?_ _)); exact BA.out) hb); have nb_ := Aside0.mk (below_step (by repeat (first | (with_reducible first | exact HB.out | apply below_alloc | apply pw_below_drewN | apply below_drew1 | refine below_set ?_ GR.out | refine below_set ?_ GA.out) | exact HB.out)) hb); clear BR BA HB; have BR := n0_; have BA := n1_; have HB := nb_; clear n0_ n1_ nb_; (try clear hb)
      refine hK.out _ _ trivial (fun hHeld => ?_)
      clear hK K
      refine norm_ (a' := ?_) ?_ ?_
      rotate_left
      · show Act.put _ (some 26) _ = _
        simp only [Act.put, List.setIfInBounds_toArray, List.set_cons_zero, List.set_cons_succ, i64_w, i32_w]
        rfl
      refine one_ (i := 11) (N := some 29) #[true, true, true, true, true, true, true, true, true, true, true, true, true, true, false, false, true, false] rfl rfl (one_of HT_.out (by kernel_rfl)) (by decide) (fun K hK => ?_)
      refine goes_ Try.func16 (by kernel_rfl) rfl #[.string (a0.extract 17 19), .int .i64 2] (by rfl) rfl rfl (by (try simp only [List.map_toArray, List.map_cons, List.map_nil]); first | done | rfl | (simp only [List.length_drop, List.length_take]; rfl)) ?_
      with_reducible refine (impl_ReadHex.calls k (a0.extract 17 19) 2 t3 _ A3.out).mono ?_
      rintro e w_3_1 ⟨rfl, hb⟩
      refine ⟨_, rfl, ?_⟩
      have n0_ := Aside0.mk (blk_below (g := gr) (o := .cells #[.int .i64 0, .int .i64 0, .int .i64 0, .int .i64 0, .int .i64 0, .int .i64 0, .int .i64 0, .int .i64 0, .int .i64 0, .int .i64 0, .int .i64 0] 23 (0, 0)) (by (with_reducible repeat (first | refine blk_drewN ?_ _ | refine blk_drew ?_ | refine blk_alloc ?_ _)); exact BR.out) hb); have n1_ := Aside0.mk (blk_below (g := ga) (o := .cells #[.int .i64 0, .int .i64 0, .int .i64 0, .int .i64 0, .int .i64 0, .int .i64 0, .int .i64 0, .int .i64 0, .int .i64 0, .int .i64 0, .int .i64 0] 23 (0, 0)) (by (with_reducible repeat (first | refine blk_drewN ?_ _ | refine blk_drew ?_ | refine blk_alloc ?_ _)); exact BA.out) hb); have nb_ := Aside0.mk (below_step (by repeat (first | (with_reducible first | exact HB.out | apply below_alloc | apply pw_below_drewN | apply below_drew1 | refine below_set ?_ GR.out | refine below_set ?_ GA.out) | exact HB.out)) hb); clear BR BA HB; have BR := n0_; have BA := n1_; have HB := nb_; clear n0_ n1_ nb_; (try clear hb)
      refine hK.out _ _ trivial (fun hHeld => ?_)
      clear hK K
      refine norm_ (a' := ?_) ?_ ?_
      rotate_left
      · show Act.put _ (some 29) _ = _
        simp only [Act.put, List.setIfInBounds_toArray, List.set_cons_zero, List.set_cons_succ, i64_w, i32_w]
        rfl
      refine one_ (i := 14) (N := some 32) #[true, true, true, true, true, true, true, true, true, true, true, true, true, true, true, false, true, false] rfl rfl (one_of HT_.out (by kernel_rfl)) (by decide) (fun K hK => ?_)
      refine goes_ Try.func16 (by kernel_rfl) rfl #[.string (a0.extract 23 27), .int .i64 4] (by rfl) rfl rfl (by (try simp only [List.map_toArray, List.map_cons, List.map_nil]); first | done | rfl | (simp only [List.length_drop, List.length_take]; rfl)) ?_
      with_reducible refine (impl_ReadHex.calls k (a0.extract 23 27) 4 t4 _ A4.out).mono ?_
      rintro e w_4_1 ⟨rfl, hb⟩
      refine ⟨_, rfl, ?_⟩
      have n0_ := Aside0.mk (blk_below (g := gr) (o := .cells #[.int .i64 0, .int .i64 0, .int .i64 0, .int .i64 0, .int .i64 0, .int .i64 0, .int .i64 0, .int .i64 0, .int .i64 0, .int .i64 0, .int .i64 0] 23 (0, 0)) (by (with_reducible repeat (first | refine blk_drewN ?_ _ | refine blk_drew ?_ | refine blk_alloc ?_ _)); exact BR.out) hb); have n1_ := Aside0.mk (blk_below (g := ga) (o := .cells #[.int .i64 0, .int .i64 0, .int .i64 0, .int .i64 0, .int .i64 0, .int .i64 0, .int .i64 0, .int .i64 0, .int .i64 0, .int .i64 0, .int .i64 0] 23 (0, 0)) (by (with_reducible repeat (first | refine blk_drewN ?_ _ | refine blk_drew ?_ | refine blk_alloc ?_ _)); exact BA.out) hb); have nb_ := Aside0.mk (below_step (by repeat (first | (with_reducible first | exact HB.out | apply below_alloc | apply pw_below_drewN | apply below_drew1 | refine below_set ?_ GR.out | refine below_set ?_ GA.out) | exact HB.out)) hb); clear BR BA HB; have BR := n0_; have BA := n1_; have HB := nb_; clear n0_ n1_ nb_; (try clear hb)
      refine hK.out _ _ trivial (fun hHeld => ?_)
      clear hK K
      refine norm_ (a' := ?_) ?_ ?_
      rotate_left
      · show Act.put _ (some 32) _ = _
        simp only [Act.put, List.setIfInBounds_toArray, List.set_cons_zero, List.set_cons_succ, i64_w, i32_w]
        rfl
      refine pure_ (i := 15) (N := some 33) (v := ?_) (a' := ?_) #[true, true, true, true, true, true, true, true, true, true, true, true, true, true, true, true, true, false] rfl rfl (any_of HT_.out (by kernel_rfl)) (fun _ _ _ h => h) (Or.inl ⟨by rfl, ?_⟩) ?_ ?_
      rotate_left
      · intro w'
        go_simp
        with_reducible rfl
      rotate_left
      · simp only [Act.put, List.setIfInBounds_toArray, List.set_cons_zero, List.set_cons_succ, i64_w, i32_w]
        rfl
      exact norm_ (by simp only [putAll, Act.put, List.setIfInBounds_toArray, List.set_cons_zero, List.set_cons_succ]) (hCont ga _ ⟨(by (with_reducible repeat (first | refine blk_drewN ?_ _ | refine blk_drew ?_ | refine blk_alloc ?_ _)); exact BR.out), (by (with_reducible repeat (first | refine blk_drewN ?_ _ | refine blk_drew ?_ | refine blk_alloc ?_ _)); exact BA.out), GA.out, NE_gr_ga.out, (by repeat (first | (with_reducible first | exact HB.out | apply below_alloc | apply pw_below_drewN | apply below_drew1 | refine below_set ?_ GR.out | refine below_set ?_ GA.out) | exact HB.out))⟩)
  rintro ga w7 ⟨n0_, n1_, n2_, n3_, n4_⟩
  clear BR HB hHeld
  have BR := Aside0.mk n0_
  have BA := Aside0.mk n1_
  have GA := Aside0.mk n2_
  have NE_gr_ga := Aside0.mk n3_
  have HB := Aside0.mk n4_
  clear n0_ n1_ n2_ n3_ n4_
  refine norm_ (a' := ?_) ?_ ?_
  rotate_left
  · simp only [putAll, Act.put, List.setIfInBounds_toArray, List.set_cons_zero, List.set_cons_succ]
    rfl
  refine one_ (i := 17) (N := none) #[true, true, true, true, true, true, true, true, true, true, true, true, true, true, true, true, true, true] rfl rfl (one_of HT_.out (by kernel_rfl)) (by decide) (fun K hK => ?_)
  have hs_0 : w7.cell? ⟨ga, 0, none⟩ = some (.int .i64 0) := (blk_cell BA.out 0).trans rfl
  have hfs_0 := blk_frozen BA.out 0
  have hs_1 : w7.cell? ⟨ga, 1, none⟩ = some (.int .i64 0) := (blk_cell BA.out 1).trans rfl
  have hfs_1 := blk_frozen BA.out 1
  have hs_2 : w7.cell? ⟨ga, 2, none⟩ = some (.int .i64 0) := (blk_cell BA.out 2).trans rfl
  have hfs_2 := blk_frozen BA.out 2
  have hs_3 : w7.cell? ⟨ga, 3, none⟩ = some (.int .i64 0) := (blk_cell BA.out 3).trans rfl
  have hfs_3 := blk_frozen BA.out 3
  have hs_4 : w7.cell? ⟨ga, 4, none⟩ = some (.int .i64 0) := (blk_cell BA.out 4).trans rfl
  have hfs_4 := blk_frozen BA.out 4
  have hs_5 : w7.cell? ⟨ga, 5, none⟩ = some (.int .i64 0) := (blk_cell BA.out 5).trans rfl
  have hfs_5 := blk_frozen BA.out 5
  have hs_6 : w7.cell? ⟨ga, 6, none⟩ = some (.int .i64 0) := (blk_cell BA.out 6).trans rfl
  have hfs_6 := blk_frozen BA.out 6
  have hs_7 : w7.cell? ⟨ga, 7, none⟩ = some (.int .i64 0) := (blk_cell BA.out 7).trans rfl
  have hfs_7 := blk_frozen BA.out 7
  have hs_8 : w7.cell? ⟨ga, 8, none⟩ = some (.int .i64 0) := (blk_cell BA.out 8).trans rfl
  have hfs_8 := blk_frozen BA.out 8
  have hs_9 : w7.cell? ⟨ga, 9, none⟩ = some (.int .i64 0) := (blk_cell BA.out 9).trans rfl
  have hfs_9 := blk_frozen BA.out 9
  have hs_10 : w7.cell? ⟨ga, 10, none⟩ = some (.int .i64 0) := (blk_cell BA.out 10).trans rfl
  have hfs_10 := blk_frozen BA.out 10
  refine skip_ (w1 := ?_) (by rfl) rfl ?_ ?_
  rotate_left
  · go_simp
    rfl
  refine hK.out _ _ trivial (fun hHeld => ?_)
  clear hK K hHeld
  clear hs_0 hfs_0 hs_1 hfs_1 hs_2 hfs_2 hs_3 hfs_3 hs_4 hfs_4 hs_5 hfs_5 hs_6 hfs_6 hs_7 hfs_7 hs_8 hfs_8 hs_9 hfs_9 hs_10 hfs_10
  refine done_ (done_of HT_.out (by kernel_rfl)) ?_
  clear HT_ HW_ A0 s4b0 s4b1 s4b2 A1 s9b0 s9b1 s9b2 A2 s14b0 s14b1 s14b2 A3 s19b0 s19b1 s19b2 A4 s27b0 s27b1 s27b2
  go_upto_region 5 with (fail)
  refine KF.gen_ (fun w' => (w'.heap[gr]? = some (.cells #[.int .i64 0, .int .i64 0, .int .i64 0, .int .i64 0, .int .i64 0, .int .i64 0, .int .i64 0, .int .i64 0, .int .i64 0, .int .i64 0, .int .i64 0] 23 (0, 0))) ∧ (w'.heap[ga]? = some (.cells #[.int .i64 t0, .int .i64 t1, .int .i64 t2, .int .i64 t3, .int .i64 t4, .int .i64 0, .int .i64 0, .int .i64 0, .int .i64 0, .int .i64 0, .int .i64 0] 23 (0, 0))) ∧ (Below w.heap.size w w')) ⟨(by (with_reducible repeat (refine blk_far ?_ NE_gr_ga.out _)); exact BR.out), (by refine blk_put (cs := #[.int .i64 t0, .int .i64 t1, .int .i64 t2, .int .i64 t3, .int .i64 t4, .int .i64 0, .int .i64 0, .int .i64 0, .int .i64 0, .int .i64 0, .int .i64 0]) ?_ 10 _ rfl; refine blk_put (cs := #[.int .i64 t0, .int .i64 t1, .int .i64 t2, .int .i64 t3, .int .i64 t4, .int .i64 0, .int .i64 0, .int .i64 0, .int .i64 0, .int .i64 0, .int .i64 0]) ?_ 9 _ rfl; refine blk_put (cs := #[.int .i64 t0, .int .i64 t1, .int .i64 t2, .int .i64 t3, .int .i64 t4, .int .i64 0, .int .i64 0, .int .i64 0, .int .i64 0, .int .i64 0, .int .i64 0]) ?_ 8 _ rfl; refine blk_put (cs := #[.int .i64 t0, .int .i64 t1, .int .i64 t2, .int .i64 t3, .int .i64 t4, .int .i64 0, .int .i64 0, .int .i64 0, .int .i64 0, .int .i64 0, .int .i64 0]) ?_ 7 _ rfl; refine blk_put (cs := #[.int .i64 t0, .int .i64 t1, .int .i64 t2, .int .i64 t3, .int .i64 t4, .int .i64 0, .int .i64 0, .int .i64 0, .int .i64 0, .int .i64 0, .int .i64 0]) ?_ 6 _ rfl; refine blk_put (cs := #[.int .i64 t0, .int .i64 t1, .int .i64 t2, .int .i64 t3, .int .i64 t4, .int .i64 0, .int .i64 0, .int .i64 0, .int .i64 0, .int .i64 0, .int .i64 0]) ?_ 5 _ rfl; refine blk_put (cs := #[.int .i64 t0, .int .i64 t1, .int .i64 t2, .int .i64 t3, .int .i64 0, .int .i64 0, .int .i64 0, .int .i64 0, .int .i64 0, .int .i64 0, .int .i64 0]) ?_ 4 _ rfl; refine blk_put (cs := #[.int .i64 t0, .int .i64 t1, .int .i64 t2, .int .i64 0, .int .i64 0, .int .i64 0, .int .i64 0, .int .i64 0, .int .i64 0, .int .i64 0, .int .i64 0]) ?_ 3 _ rfl; refine blk_put (cs := #[.int .i64 t0, .int .i64 t1, .int .i64 0, .int .i64 0, .int .i64 0, .int .i64 0, .int .i64 0, .int .i64 0, .int .i64 0, .int .i64 0, .int .i64 0]) ?_ 2 _ rfl; refine blk_put (cs := #[.int .i64 t0, .int .i64 0, .int .i64 0, .int .i64 0, .int .i64 0, .int .i64 0, .int .i64 0, .int .i64 0, .int .i64 0, .int .i64 0, .int .i64 0]) ?_ 1 _ rfl; refine blk_put (cs := #[.int .i64 0, .int .i64 0, .int .i64 0, .int .i64 0, .int .i64 0, .int .i64 0, .int .i64 0, .int .i64 0, .int .i64 0, .int .i64 0, .int .i64 0]) ?_ 0 _ rfl; exact BA.out), (by repeat (first | (with_reducible first | exact HB.out | apply below_alloc | apply pw_below_drewN | apply below_drew1 | refine below_set ?_ GR.out | refine below_set ?_ GA.out) | exact HB.out))⟩ ?_
  rintro w8 ⟨n0_, n1_, n2_⟩
  clear BR BA HB
  have BR := Aside0.mk n0_
  have BA := Aside0.mk n1_
  have HB := Aside0.mk n2_
  clear n0_ n1_ n2_
  go_upto_region 6 with (first | (go_at_call 17; (with_reducible refine (KF.fields_lit ga _).mono ?_); rintro e w9 ⟨rfl, hb⟩; have n0_ := Aside0.mk (blk_below (g := gr) (o := .cells #[.int .i64 0, .int .i64 0, .int .i64 0, .int .i64 0, .int .i64 0, .int .i64 0, .int .i64 0, .int .i64 0, .int .i64 0, .int .i64 0, .int .i64 0] 23 (0, 0)) (by (with_reducible repeat (first | refine blk_drewN ?_ _ | refine blk_drew ?_ | refine blk_alloc ?_ _)); exact BR.out) hb); have n1_ := Aside0.mk (blk_below (g := ga) (o := .cells #[.int .i64 t0, .int .i64 t1, .int .i64 t2, .int .i64 t3, .int .i64 t4, .int .i64 0, .int .i64 0, .int .i64 0, .int .i64 0, .int .i64 0, .int .i64 0] 23 (0, 0)) (by (with_reducible repeat (first | refine blk_drewN ?_ _ | refine blk_drew ?_ | refine blk_alloc ?_ _)); exact BA.out) hb); have nb_ := Aside0.mk (below_step (by repeat (first | (with_reducible first | exact HB.out | apply below_alloc | apply pw_below_drewN | apply below_drew1 | refine below_set ?_ GR.out | refine below_set ?_ GA.out) | exact HB.out)) hb); clear BR BA HB; have BR := n0_; have BA := n1_; have HB := nb_; clear n0_ n1_ nb_; (try clear hb)) | ((with_reducible refine gate_dst (N := 6) rfl ?_); refine box_event ?hg (N := 6) ?hd (cs := #[.pointer none, .pointer none, .pointer none, .pointer none, .pointer none, .pointer none, .pointer none, .pointer none, .pointer none, .pointer none, .pointer none]) (t := 42) ?hr ?_; (case hd => rfl); (case hg => rfl); (case hr => first | (go_simp; done) | (go_simp; rfl)); intro gc hg w10 hbox hb; have n0_ := Aside0.mk (blk_below (g := gr) (o := .cells #[.int .i64 0, .int .i64 0, .int .i64 0, .int .i64 0, .int .i64 0, .int .i64 0, .int .i64 0, .int .i64 0, .int .i64 0, .int .i64 0, .int .i64 0] 23 (0, 0)) (by (with_reducible repeat (first | refine blk_drewN ?_ _ | refine blk_drew ?_ | refine blk_alloc ?_ _)); exact BR.out) hb); have n1_ := Aside0.mk (blk_below (g := ga) (o := .cells #[.int .i64 t0, .int .i64 t1, .int .i64 t2, .int .i64 t3, .int .i64 t4, .int .i64 0, .int .i64 0, .int .i64 0, .int .i64 0, .int .i64 0, .int .i64 0] 23 (0, 0)) (by (with_reducible repeat (first | refine blk_drewN ?_ _ | refine blk_drew ?_ | refine blk_alloc ?_ _)); exact BA.out) hb); have nb_ := Aside0.mk (below_step (by repeat (first | (with_reducible first | exact HB.out | apply below_alloc | apply pw_below_drewN | apply below_drew1 | refine below_set ?_ GR.out | refine below_set ?_ GA.out) | exact HB.out)) hb); have nx_ := Aside0.mk hbox; have ng_ := Aside0.mk ((by rw [hg]; exact (below_size (by repeat (first | (with_reducible first | exact HB.out | apply below_alloc | apply pw_below_drewN | apply below_drew1 | refine below_set ?_ GR.out | refine below_set ?_ GA.out) | exact HB.out))) : w.heap.size ≤ gc)); have nn0_ := Aside0.mk (show gr ≠ gc by have := blk_lt BR.out; omega); have nn1_ := Aside0.mk (show ga ≠ gc by have := blk_lt BA.out; omega); clear HB BR BA; have HB := nb_; have BC := nx_; have GC := ng_; have BR := n0_; have NE_gr_gc := nn0_; have BA := n1_; have NE_ga_gc := nn1_; clear nb_ nx_ ng_ n0_ n1_ nn0_ nn1_; clear hb hbox hg; have hs_0 : w10.cell? ⟨gc, 0, none⟩ = some (.pointer none) := (blk_cell BC.out 0).trans rfl; have hfs_0 := blk_frozen BC.out 0; have hs_1 : w10.cell? ⟨gc, 1, none⟩ = some (.pointer none) := (blk_cell BC.out 1).trans rfl; have hfs_1 := blk_frozen BC.out 1; have hs_2 : w10.cell? ⟨gc, 2, none⟩ = some (.pointer none) := (blk_cell BC.out 2).trans rfl; have hfs_2 := blk_frozen BC.out 2; have hs_3 : w10.cell? ⟨gc, 3, none⟩ = some (.pointer none) := (blk_cell BC.out 3).trans rfl; have hfs_3 := blk_frozen BC.out 3; have hs_4 : w10.cell? ⟨gc, 4, none⟩ = some (.pointer none) := (blk_cell BC.out 4).trans rfl; have hfs_4 := blk_frozen BC.out 4; have hs_5 : w10.cell? ⟨gc, 5, none⟩ = some (.pointer none) := (blk_cell BC.out 5).trans rfl; have hfs_5 := blk_frozen BC.out 5; have hs_6 : w10.cell? ⟨gc, 6, none⟩ = some (.pointer none) := (blk_cell BC.out 6).trans rfl; have hfs_6 := blk_frozen BC.out 6; have hs_7 : w10.cell? ⟨gc, 7, none⟩ = some (.pointer none) := (blk_cell BC.out 7).trans rfl; have hfs_7 := blk_frozen BC.out 7; have hs_8 : w10.cell? ⟨gc, 8, none⟩ = some (.pointer none) := (blk_cell BC.out 8).trans rfl; have hfs_8 := blk_frozen BC.out 8; have hs_9 : w10.cell? ⟨gc, 9, none⟩ = some (.pointer none) := (blk_cell BC.out 9).trans rfl; have hfs_9 := blk_frozen BC.out 9; have hs_10 : w10.cell? ⟨gc, 10, none⟩ = some (.pointer none) := (blk_cell BC.out 10).trans rfl; have hfs_10 := blk_frozen BC.out 10))
  clear hs_0 hfs_0 hs_1 hfs_1 hs_2 hfs_2 hs_3 hfs_3 hs_4 hfs_4 hs_5 hfs_5 hs_6 hfs_6 hs_7 hfs_7 hs_8 hfs_8 hs_9 hfs_9 hs_10 hfs_10
  refine KF.gen_ (fun w' => (w'.heap[gr]? = some (.cells #[.int .i64 0, .int .i64 0, .int .i64 0, .int .i64 0, .int .i64 0, .int .i64 0, .int .i64 0, .int .i64 0, .int .i64 0, .int .i64 0, .int .i64 0] 23 (0, 0))) ∧ (w'.heap[ga]? = some (.cells #[.int .i64 t0, .int .i64 t1, .int .i64 t2, .int .i64 t3, .int .i64 t4, .int .i64 (impl_ReadKnow.fv a0 0 0), .int .i64 (impl_ReadKnow.fv a0 0 1), .int .i64 (impl_ReadKnow.fv a0 0 2), .int .i64 (impl_ReadKnow.fv a0 0 3), .int .i64 (impl_ReadKnow.fv a0 0 4), .int .i64 (impl_ReadKnow.fv a0 0 5)] 23 (0, 0))) ∧ (w'.heap[gc]? = some (.cells (KF.ptrs ga) 42 (0, 0))) ∧ (Below w.heap.size w w')) ⟨(by (with_reducible repeat (refine blk_far ?_ NE_gr_gc.out _)); exact BR.out), (by (with_reducible repeat (refine blk_far ?_ NE_ga_gc.out _)); exact BA.out), (by refine blk_put (cs := #[.pointer (some ⟨ga, 0, none⟩), .pointer (some ⟨ga, 1, none⟩), .pointer (some ⟨ga, 2, none⟩), .pointer (some ⟨ga, 3, none⟩), .pointer (some ⟨ga, 4, none⟩), .pointer (some ⟨ga, 5, none⟩), .pointer (some ⟨ga, 6, none⟩), .pointer (some ⟨ga, 7, none⟩), .pointer (some ⟨ga, 8, none⟩), .pointer (some ⟨ga, 9, none⟩), .pointer none]) ?_ 10 _ rfl; refine blk_put (cs := #[.pointer (some ⟨ga, 0, none⟩), .pointer (some ⟨ga, 1, none⟩), .pointer (some ⟨ga, 2, none⟩), .pointer (some ⟨ga, 3, none⟩), .pointer (some ⟨ga, 4, none⟩), .pointer (some ⟨ga, 5, none⟩), .pointer (some ⟨ga, 6, none⟩), .pointer (some ⟨ga, 7, none⟩), .pointer (some ⟨ga, 8, none⟩), .pointer none, .pointer none]) ?_ 9 _ rfl; refine blk_put (cs := #[.pointer (some ⟨ga, 0, none⟩), .pointer (some ⟨ga, 1, none⟩), .pointer (some ⟨ga, 2, none⟩), .pointer (some ⟨ga, 3, none⟩), .pointer (some ⟨ga, 4, none⟩), .pointer (some ⟨ga, 5, none⟩), .pointer (some ⟨ga, 6, none⟩), .pointer (some ⟨ga, 7, none⟩), .pointer none, .pointer none, .pointer none]) ?_ 8 _ rfl; refine blk_put (cs := #[.pointer (some ⟨ga, 0, none⟩), .pointer (some ⟨ga, 1, none⟩), .pointer (some ⟨ga, 2, none⟩), .pointer (some ⟨ga, 3, none⟩), .pointer (some ⟨ga, 4, none⟩), .pointer (some ⟨ga, 5, none⟩), .pointer (some ⟨ga, 6, none⟩), .pointer none, .pointer none, .pointer none, .pointer none]) ?_ 7 _ rfl; refine blk_put (cs := #[.pointer (some ⟨ga, 0, none⟩), .pointer (some ⟨ga, 1, none⟩), .pointer (some ⟨ga, 2, none⟩), .pointer (some ⟨ga, 3, none⟩), .pointer (some ⟨ga, 4, none⟩), .pointer (some ⟨ga, 5, none⟩), .pointer none, .pointer none, .pointer none, .pointer none, .pointer none]) ?_ 6 _ rfl; refine blk_put (cs := #[.pointer (some ⟨ga, 0, none⟩), .pointer (some ⟨ga, 1, none⟩), .pointer (some ⟨ga, 2, none⟩), .pointer (some ⟨ga, 3, none⟩), .pointer (some ⟨ga, 4, none⟩), .pointer none, .pointer none, .pointer none, .pointer none, .pointer none, .pointer none]) ?_ 5 _ rfl; refine blk_put (cs := #[.pointer (some ⟨ga, 0, none⟩), .pointer (some ⟨ga, 1, none⟩), .pointer (some ⟨ga, 2, none⟩), .pointer (some ⟨ga, 3, none⟩), .pointer none, .pointer none, .pointer none, .pointer none, .pointer none, .pointer none, .pointer none]) ?_ 4 _ rfl; refine blk_put (cs := #[.pointer (some ⟨ga, 0, none⟩), .pointer (some ⟨ga, 1, none⟩), .pointer (some ⟨ga, 2, none⟩), .pointer none, .pointer none, .pointer none, .pointer none, .pointer none, .pointer none, .pointer none, .pointer none]) ?_ 3 _ rfl; refine blk_put (cs := #[.pointer (some ⟨ga, 0, none⟩), .pointer (some ⟨ga, 1, none⟩), .pointer none, .pointer none, .pointer none, .pointer none, .pointer none, .pointer none, .pointer none, .pointer none, .pointer none]) ?_ 2 _ rfl; refine blk_put (cs := #[.pointer (some ⟨ga, 0, none⟩), .pointer none, .pointer none, .pointer none, .pointer none, .pointer none, .pointer none, .pointer none, .pointer none, .pointer none, .pointer none]) ?_ 1 _ rfl; refine blk_put (cs := #[.pointer none, .pointer none, .pointer none, .pointer none, .pointer none, .pointer none, .pointer none, .pointer none, .pointer none, .pointer none, .pointer none]) ?_ 0 _ rfl; exact BC.out), (by repeat (first | (with_reducible first | exact HB.out | apply below_alloc | apply pw_below_drewN | apply below_drew1 | refine below_set ?_ GR.out | refine below_set ?_ GA.out | refine below_set ?_ GC.out) | exact HB.out))⟩ ?_
  rintro w11 ⟨n0_, n1_, n2_, n3_⟩
  clear BR BA BC HB
  have BR := Aside0.mk n0_
  have BA := Aside0.mk n1_
  have BC := Aside0.mk n2_
  have HB := Aside0.mk n3_
  clear n0_ n1_ n2_ n3_
  try go_wp2
  go_loopg [37] 7 (fun kq v37 w' => ∃ (i : Nat), v37 = .int .i64 (i : Int) ∧ Aside0 (kq + i = 7 ∧ i ≤ 6) ∧ Aside0 (w'.heap[gr]? = some (.cells #[.int .i64 0, .int .i64 0, .int .i64 0, .int .i64 0, .int .i64 0, .int .i64 0, .int .i64 0, .int .i64 0, .int .i64 0, .int .i64 0, .int .i64 0] 23 (0, 0))) ∧ Aside0 (w'.heap[ga]? = some (.cells #[.int .i64 t0, .int .i64 t1, .int .i64 t2, .int .i64 t3, .int .i64 t4, .int .i64 (impl_ReadKnow.fv a0 i 0), .int .i64 (impl_ReadKnow.fv a0 i 1), .int .i64 (impl_ReadKnow.fv a0 i 2), .int .i64 (impl_ReadKnow.fv a0 i 3), .int .i64 (impl_ReadKnow.fv a0 i 4), .int .i64 (impl_ReadKnow.fv a0 i 5)] 23 (0, 0))) ∧ Aside0 (w'.heap[gc]? = some (.cells (KF.ptrs ga) 42 (0, 0))) ∧ Aside0 (Below w.heap.size w w'))
  case atStart => exact ⟨0, (by first | rfl | (simp; done) | (simp [*]; done)), ⟨rfl, by omega⟩, BR, BA, BC, HB⟩
  case round =>
    have HS := Aside0.mk hs
    clear hs
    clear BR BA BC HB
    obtain ⟨i, rfl, HA, BR, BA, BC, HB⟩ := hrel
    obtain ⟨hk, hi⟩ := HA.out
    clear HA
    by_cases c : i < 6
    · have c0 : decide ((i : Int) < 6) = true := decide_eq_true (by omega)
      obtain ⟨hx, hput⟩ := impl_ReadKnow.cell a0 t0 t1 t2 t3 t4 i c
      cases gk with
      | zero => omega
      | succ k1 =>
        have hw1 : wrap64 ((i : Int) + 1) = ((i + 1 : Nat) : Int) := by unfold wrap64; omega
        have hcell : wr.cell? ⟨ga, 5 + i, none⟩ = some (.int .i64 0) := (blk_cell BA.out (5 + i)).trans hx
        have hcf := blk_frozen BA.out (5 + i)
        have hpt : wr.cell? ⟨gc, 5 + i, none⟩ = some (.pointer (some ⟨ga, 5 + i, none⟩)) := (blk_cell BC.out (5 + i)).trans (impl_KnowText.ptr ga i c)
        clear hx
        have i0 : (0 ≤ (i : Int)) = True := eq_true (by omega)
        have i1 : ((i : Int) < 6) = True := eq_true (by omega)
        have i2 : (i < 6) = True := eq_true c
        obtain ⟨J, hJ⟩ : ∃ J : Int, wrap64 (28 + (i : Int)) = J := ⟨_, rfl⟩
        have hJe : J = ((28 + i : Nat) : Int) := by rw [← hJ]; unfold wrap64; omega
        have hJw : IntKind.i64.wrap (28 + (i : Int)) = J := (i64_w _).trans hJ
        have pJ : (0 ≤ J) = True := eq_true (by omega)
        have qJ : (J < (a0.size : Int)) = True := eq_true (by have := HS.out; omega)
        have qJ2 : (J.toNat < a0.size) = True := eq_true (by have := HS.out; omega)
        have hxJ := bt_at a0 J
        have hflag : Aside0 (impl_ReadKnow.flag a0 i = if bt a0 J = 63 then -1 else if bt a0 J = bt (⟨#[78, 86, 68, 73, 90, 67]⟩ : ByteArray) (i : Int) then 1 else 0) := ⟨by rw [hJe]; rfl⟩
        have HP := Aside0.mk hput
        have HJ := Aside0.mk hJe
        clear hput hJe
        by_cases h0 : bt a0 J = 63
        · have b0 : (bt a0 J == 63) = true := beq_iff_eq.mpr h0
          have hfl : Aside0 (impl_ReadKnow.flag a0 i = -1) := ⟨by rw [hflag.out, if_pos h0]⟩
          clear hflag h0
          go_wp2
          repeat (go_quiet (fail); try go_wp2)
          go_roundg k1
          case measure => omega
          case rel => exact ⟨i + 1, (by first | rfl | (simp only [hw1]; done) | (simp [hw1]; done)), ⟨by omega, by omega⟩, ⟨by refine blk_far ?_ NE_gr_ga.out _; exact BR.out⟩, ⟨blk_put BA.out (5 + i) _ (HP.out _ hfl.out)⟩, ⟨by refine blk_far ?_ NE_ga_gc.out.symm _; exact BC.out⟩, ⟨by repeat (first | (with_reducible first | exact HB.out | apply below_alloc | apply pw_below_drewN | apply below_drew1 | refine below_set ?_ GR.out | refine below_set ?_ GA.out | refine below_set ?_ GC.out) | exact HB.out)⟩⟩
        have b0 : (bt a0 J == 63) = false := beq_eq_false_iff_ne.mpr h0
        have hxN : ∀ h : i < (⟨#[78, 86, 68, 73, 90, 67]⟩ : ByteArray).size, (((⟨#[78, 86, 68, 73, 90, 67]⟩ : ByteArray)[i]'h).toNat : Int) = bt (⟨#[78, 86, 68, 73, 90, 67]⟩ : ByteArray) (i : Int) := bt_at (⟨#[78, 86, 68, 73, 90, 67]⟩ : ByteArray) (i : Int)
        by_cases h1 : bt a0 J = bt (⟨#[78, 86, 68, 73, 90, 67]⟩ : ByteArray) (i : Int)
        · have b1 : (bt a0 J == bt (⟨#[78, 86, 68, 73, 90, 67]⟩ : ByteArray) (i : Int)) = true := beq_iff_eq.mpr h1
          have hfl : Aside0 (impl_ReadKnow.flag a0 i = 1) := ⟨by rw [hflag.out, if_neg h0, if_pos h1]⟩
          clear hflag h0 h1
          go_wp2
          repeat (go_quiet (fail); try go_wp2)
          go_roundg k1
          case measure => omega
          case rel => exact ⟨i + 1, (by first | rfl | (simp only [hw1]; done) | (simp [hw1]; done)), ⟨by omega, by omega⟩, ⟨by refine blk_far ?_ NE_gr_ga.out _; exact BR.out⟩, ⟨blk_put BA.out (5 + i) _ (HP.out _ hfl.out)⟩, ⟨by refine blk_far ?_ NE_ga_gc.out.symm _; exact BC.out⟩, ⟨by repeat (first | (with_reducible first | exact HB.out | apply below_alloc | apply pw_below_drewN | apply below_drew1 | refine below_set ?_ GR.out | refine below_set ?_ GA.out | refine below_set ?_ GC.out) | exact HB.out)⟩⟩
        have b1 : (bt a0 J == bt (⟨#[78, 86, 68, 73, 90, 67]⟩ : ByteArray) (i : Int)) = false := beq_eq_false_iff_ne.mpr h1
        have hfl : Aside0 (impl_ReadKnow.flag a0 i = 0) := ⟨by rw [hflag.out, if_neg h0, if_neg h1]⟩
        clear hflag h0 h1
        go_wp2
        repeat (go_quiet (fail); try go_wp2)
        go_roundg k1
        case measure => omega
        case rel => exact ⟨i + 1, (by first | rfl | (simp only [hw1]; done) | (simp [hw1]; done)), ⟨by omega, by omega⟩, BR, ⟨by rw [← impl_ReadKnow.same a0 t0 t1 t2 t3 t4 i c hfl.out]; exact BA.out⟩, BC, ⟨by repeat (first | (with_reducible first | exact HB.out | apply below_alloc | apply pw_below_drewN | apply below_drew1 | refine below_set ?_ GR.out | refine below_set ?_ GA.out | refine below_set ?_ GC.out) | exact HB.out)⟩⟩
    · have c0 : decide ((i : Int) < 6) = false := decide_eq_false (by omega)
      obtain rfl : i = 6 := by omega
      have n0_ : Aside0 (wr.heap[ga]? = some (.cells #[.int .i64 t0, .int .i64 t1, .int .i64 t2, .int .i64 t3, .int .i64 t4, .int .i64 (impl_ReadKnow.flag a0 0), .int .i64 (impl_ReadKnow.flag a0 1), .int .i64 (impl_ReadKnow.flag a0 2), .int .i64 (impl_ReadKnow.flag a0 3), .int .i64 (impl_ReadKnow.flag a0 4), .int .i64 (impl_ReadKnow.flag a0 5)] 23 (0, 0))) := ⟨BA.out⟩
      clear BA
      have BA := n0_
      clear n0_
      have hz_0 : wr.cell? ⟨ga, 0, none⟩ = some (.int .i64 t0) := (blk_cell BA.out 0).trans rfl
      have hz_1 : wr.cell? ⟨ga, 1, none⟩ = some (.int .i64 t1) := (blk_cell BA.out 1).trans rfl
      have hz_2 : wr.cell? ⟨ga, 2, none⟩ = some (.int .i64 t2) := (blk_cell BA.out 2).trans rfl
      have hz_3 : wr.cell? ⟨ga, 3, none⟩ = some (.int .i64 t3) := (blk_cell BA.out 3).trans rfl
      have hz_4 : wr.cell? ⟨ga, 4, none⟩ = some (.int .i64 t4) := (blk_cell BA.out 4).trans rfl
      have hz_5 : wr.cell? ⟨ga, 5, none⟩ = some (.int .i64 (impl_ReadKnow.flag a0 0)) := (blk_cell BA.out 5).trans rfl
      have hz_6 : wr.cell? ⟨ga, 6, none⟩ = some (.int .i64 (impl_ReadKnow.flag a0 1)) := (blk_cell BA.out 6).trans rfl
      have hz_7 : wr.cell? ⟨ga, 7, none⟩ = some (.int .i64 (impl_ReadKnow.flag a0 2)) := (blk_cell BA.out 7).trans rfl
      have hz_8 : wr.cell? ⟨ga, 8, none⟩ = some (.int .i64 (impl_ReadKnow.flag a0 3)) := (blk_cell BA.out 8).trans rfl
      have hz_9 : wr.cell? ⟨ga, 9, none⟩ = some (.int .i64 (impl_ReadKnow.flag a0 4)) := (blk_cell BA.out 9).trans rfl
      have hz_10 : wr.cell? ⟨ga, 10, none⟩ = some (.int .i64 (impl_ReadKnow.flag a0 5)) := (blk_cell BA.out 10).trans rfl
      by_cases c9 : tx.toList = a0.toList
      · have h := H.out
        rw [if_pos c9] at h
        simp only [Option.some.injEq, Prod.mk.injEq] at h
        obtain ⟨rfl, rfl, rfl, rfl, rfl, rfl, rfl, rfl, rfl, rfl, rfl, rfl⟩ := h
        have c9b0 : (tx.toList == a0.toList) = true := beq_iff_eq.mpr c9
        have c9b1 : (tx.toList != a0.toList) = false := bne_eq_false_iff_eq.mpr c9
        clear c9 H
        go_wp2_with (first | (go_at_call 14; (with_reducible refine (impl_KnowText.calls k t0 t1 t2 t3 t4 (impl_ReadKnow.flag a0 0) (impl_ReadKnow.flag a0 1) (impl_ReadKnow.flag a0 2) (impl_ReadKnow.flag a0 3) (impl_ReadKnow.flag a0 4) (impl_ReadKnow.flag a0 5) tx _ AX.out).mono ?_); rintro e w12 ⟨rfl, hb⟩; have n0_ := Aside0.mk (blk_below (g := gr) (o := .cells #[.int .i64 0, .int .i64 0, .int .i64 0, .int .i64 0, .int .i64 0, .int .i64 0, .int .i64 0, .int .i64 0, .int .i64 0, .int .i64 0, .int .i64 0] 23 (0, 0)) (by (with_reducible repeat (first | refine blk_drewN ?_ _ | refine blk_drew ?_ | refine blk_alloc ?_ _)); exact BR.out) hb); have n1_ := Aside0.mk (blk_below (g := ga) (o := .cells #[.int .i64 t0, .int .i64 t1, .int .i64 t2, .int .i64 t3, .int .i64 t4, .int .i64 (impl_ReadKnow.flag a0 0), .int .i64 (impl_ReadKnow.flag a0 1), .int .i64 (impl_ReadKnow.flag a0 2), .int .i64 (impl_ReadKnow.flag a0 3), .int .i64 (impl_ReadKnow.flag a0 4), .int .i64 (impl_ReadKnow.flag a0 5)] 23 (0, 0)) (by (with_reducible repeat (first | refine blk_drewN ?_ _ | refine blk_drew ?_ | refine blk_alloc ?_ _)); exact BA.out) hb); have nb_ := Aside0.mk (below_step (by repeat (first | (with_reducible first | exact HB.out | apply below_alloc | apply pw_below_drewN | apply below_drew1 | refine below_set ?_ GR.out | refine below_set ?_ GA.out | refine below_set ?_ GC.out) | exact HB.out)) hb); clear BR BA HB; have BR := n0_; have BA := n1_; have HB := nb_; clear n0_ n1_ nb_; (try clear hb); clear hz_0 hz_1 hz_2 hz_3 hz_4 hz_5 hz_6 hz_7 hz_8 hz_9 hz_10; have hy_0 : w12.cell? ⟨ga, 0, none⟩ = some (.int .i64 t0) := (blk_cell BA.out 0).trans rfl; have hyf_0 := blk_frozen BA.out 0; have hy_1 : w12.cell? ⟨ga, 1, none⟩ = some (.int .i64 t1) := (blk_cell BA.out 1).trans rfl; have hyf_1 := blk_frozen BA.out 1; have hy_2 : w12.cell? ⟨ga, 2, none⟩ = some (.int .i64 t2) := (blk_cell BA.out 2).trans rfl; have hyf_2 := blk_frozen BA.out 2; have hy_3 : w12.cell? ⟨ga, 3, none⟩ = some (.int .i64 t3) := (blk_cell BA.out 3).trans rfl; have hyf_3 := blk_frozen BA.out 3; have hy_4 : w12.cell? ⟨ga, 4, none⟩ = some (.int .i64 t4) := (blk_cell BA.out 4).trans rfl; have hyf_4 := blk_frozen BA.out 4; have hy_5 : w12.cell? ⟨ga, 5, none⟩ = some (.int .i64 (impl_ReadKnow.flag a0 0)) := (blk_cell BA.out 5).trans rfl; have hyf_5 := blk_frozen BA.out 5; have hy_6 : w12.cell? ⟨ga, 6, none⟩ = some (.int .i64 (impl_ReadKnow.flag a0 1)) := (blk_cell BA.out 6).trans rfl; have hyf_6 := blk_frozen BA.out 6; have hy_7 : w12.cell? ⟨ga, 7, none⟩ = some (.int .i64 (impl_ReadKnow.flag a0 2)) := (blk_cell BA.out 7).trans rfl; have hyf_7 := blk_frozen BA.out 7; have hy_8 : w12.cell? ⟨ga, 8, none⟩ = some (.int .i64 (impl_ReadKnow.flag a0 3)) := (blk_cell BA.out 8).trans rfl; have hyf_8 := blk_frozen BA.out 8; have hy_9 : w12.cell? ⟨ga, 9, none⟩ = some (.int .i64 (impl_ReadKnow.flag a0 4)) := (blk_cell BA.out 9).trans rfl; have hyf_9 := blk_frozen BA.out 9; have hy_10 : w12.cell? ⟨ga, 10, none⟩ = some (.int .i64 (impl_ReadKnow.flag a0 5)) := (blk_cell BA.out 10).trans rfl; have hyf_10 := blk_frozen BA.out 10; have hq_0 : w12.cell? ⟨gr, 0, none⟩ = some (.int .i64 0) := (blk_cell BR.out 0).trans rfl; have hqf_0 := blk_frozen BR.out 0; have hq_1 : w12.cell? ⟨gr, 1, none⟩ = some (.int .i64 0) := (blk_cell BR.out 1).trans rfl; have hqf_1 := blk_frozen BR.out 1; have hq_2 : w12.cell? ⟨gr, 2, none⟩ = some (.int .i64 0) := (blk_cell BR.out 2).trans rfl; have hqf_2 := blk_frozen BR.out 2; have hq_3 : w12.cell? ⟨gr, 3, none⟩ = some (.int .i64 0) := (blk_cell BR.out 3).trans rfl; have hqf_3 := blk_frozen BR.out 3; have hq_4 : w12.cell? ⟨gr, 4, none⟩ = some (.int .i64 0) := (blk_cell BR.out 4).trans rfl; have hqf_4 := blk_frozen BR.out 4; have hq_5 : w12.cell? ⟨gr, 5, none⟩ = some (.int .i64 0) := (blk_cell BR.out 5).trans rfl; have hqf_5 := blk_frozen BR.out 5; have hq_6 : w12.cell? ⟨gr, 6, none⟩ = some (.int .i64 0) := (blk_cell BR.out 6).trans rfl; have hqf_6 := blk_frozen BR.out 6; have hq_7 : w12.cell? ⟨gr, 7, none⟩ = some (.int .i64 0) := (blk_cell BR.out 7).trans rfl; have hqf_7 := blk_frozen BR.out 7; have hq_8 : w12.cell? ⟨gr, 8, none⟩ = some (.int .i64 0) := (blk_cell BR.out 8).trans rfl; have hqf_8 := blk_frozen BR.out 8; have hq_9 : w12.cell? ⟨gr, 9, none⟩ = some (.int .i64 0) := (blk_cell BR.out 9).trans rfl; have hqf_9 := blk_frozen BR.out 9; have hq_10 : w12.cell? ⟨gr, 10, none⟩ = some (.int .i64 0) := (blk_cell BR.out 10).trans rfl; have hqf_10 := blk_frozen BR.out 10; have hne := NE_gr_ga.out; have hnf := NE_gr_ga.out.symm))
        refine bodyPost_ret (results_ct rfl _ _ gr 23 #[.int .i64 t0, .int .i64 t1, .int .i64 t2, .int .i64 t3, .int .i64 t4, .int .i64 (impl_ReadKnow.flag a0 0), .int .i64 (impl_ReadKnow.flag a0 1), .int .i64 (impl_ReadKnow.flag a0 2), .int .i64 (impl_ReadKnow.flag a0 3), .int .i64 (impl_ReadKnow.flag a0 4), .int .i64 (impl_ReadKnow.flag a0 5)] (0, 0) _ rfl (by (with_reducible repeat (first | refine blk_drewN ?_ _ | refine blk_drew ?_ | refine blk_alloc ?_ _)); refine blk_put (cs := #[.int .i64 t0, .int .i64 t1, .int .i64 t2, .int .i64 t3, .int .i64 t4, .int .i64 (impl_ReadKnow.flag a0 0), .int .i64 (impl_ReadKnow.flag a0 1), .int .i64 (impl_ReadKnow.flag a0 2), .int .i64 (impl_ReadKnow.flag a0 3), .int .i64 (impl_ReadKnow.flag a0 4), .int .i64 0]) ?_ 10 _ rfl; (with_reducible repeat (first | refine blk_drewN ?_ _ | refine blk_drew ?_ | refine blk_alloc ?_ _)); refine blk_put (cs := #[.int .i64 t0, .int .i64 t1, .int .i64 t2, .int .i64 t3, .int .i64 t4, .int .i64 (impl_ReadKnow.flag a0 0), .int .i64 (impl_ReadKnow.flag a0 1), .int .i64 (impl_ReadKnow.flag a0 2), .int .i64 (impl_ReadKnow.flag a0 3), .int .i64 0, .int .i64 0]) ?_ 9 _ rfl; (with_reducible repeat (first | refine blk_drewN ?_ _ | refine blk_drew ?_ | refine blk_alloc ?_ _)); refine blk_put (cs := #[.int .i64 t0, .int .i64 t1, .int .i64 t2, .int .i64 t3, .int .i64 t4, .int .i64 (impl_ReadKnow.flag a0 0), .int .i64 (impl_ReadKnow.flag a0 1), .int .i64 (impl_ReadKnow.flag a0 2), .int .i64 0, .int .i64 0, .int .i64 0]) ?_ 8 _ rfl; (with_reducible repeat (first | refine blk_drewN ?_ _ | refine blk_drew ?_ | refine blk_alloc ?_ _)); refine blk_put (cs := #[.int .i64 t0, .int .i64 t1, .int .i64 t2, .int .i64 t3, .int .i64 t4, .int .i64 (impl_ReadKnow.flag a0 0), .int .i64 (impl_ReadKnow.flag a0 1), .int .i64 0, .int .i64 0, .int .i64 0, .int .i64 0]) ?_ 7 _ rfl; (with_reducible repeat (first | refine blk_drewN ?_ _ | refine blk_drew ?_ | refine blk_alloc ?_ _)); refine blk_put (cs := #[.int .i64 t0, .int .i64 t1, .int .i64 t2, .int .i64 t3, .int .i64 t4, .int .i64 (impl_ReadKnow.flag a0 0), .int .i64 0, .int .i64 0, .int .i64 0, .int .i64 0, .int .i64 0]) ?_ 6 _ rfl; (with_reducible repeat (first | refine blk_drewN ?_ _ | refine blk_drew ?_ | refine blk_alloc ?_ _)); refine blk_put (cs := #[.int .i64 t0, .int .i64 t1, .int .i64 t2, .int .i64 t3, .int .i64 t4, .int .i64 0, .int .i64 0, .int .i64 0, .int .i64 0, .int .i64 0, .int .i64 0]) ?_ 5 _ rfl; (with_reducible repeat (first | refine blk_drewN ?_ _ | refine blk_drew ?_ | refine blk_alloc ?_ _)); refine blk_put (cs := #[.int .i64 t0, .int .i64 t1, .int .i64 t2, .int .i64 t3, .int .i64 0, .int .i64 0, .int .i64 0, .int .i64 0, .int .i64 0, .int .i64 0, .int .i64 0]) ?_ 4 _ rfl; (with_reducible repeat (first | refine blk_drewN ?_ _ | refine blk_drew ?_ | refine blk_alloc ?_ _)); refine blk_put (cs := #[.int .i64 t0, .int .i64 t1, .int .i64 t2, .int .i64 0, .int .i64 0, .int .i64 0, .int .i64 0, .int .i64 0, .int .i64 0, .int .i64 0, .int .i64 0]) ?_ 3 _ rfl; (with_reducible repeat (first | refine blk_drewN ?_ _ | refine blk_drew ?_ | refine blk_alloc ?_ _)); refine blk_put (cs := #[.int .i64 t0, .int .i64 t1, .int .i64 0, .int .i64 0, .int .i64 0, .int .i64 0, .int .i64 0, .int .i64 0, .int .i64 0, .int .i64 0, .int .i64 0]) ?_ 2 _ rfl; (with_reducible repeat (first | refine blk_drewN ?_ _ | refine blk_drew ?_ | refine blk_alloc ?_ _)); refine blk_put (cs := #[.int .i64 t0, .int .i64 0, .int .i64 0, .int .i64 0, .int .i64 0, .int .i64 0, .int .i64 0, .int .i64 0, .int .i64 0, .int .i64 0, .int .i64 0]) ?_ 1 _ rfl; (with_reducible repeat (first | refine blk_drewN ?_ _ | refine blk_drew ?_ | refine blk_alloc ?_ _)); refine blk_put (cs := #[.int .i64 0, .int .i64 0, .int .i64 0, .int .i64 0, .int .i64 0, .int .i64 0, .int .i64 0, .int .i64 0, .int .i64 0, .int .i64 0, .int .i64 0]) ?_ 0 _ rfl; (with_reducible repeat (first | refine blk_drewN ?_ _ | refine blk_drew ?_ | refine blk_alloc ?_ _)); exact BR.out) Try.underlying23 rfl (by kernel_rfl)) rfl ?_
        exact ⟨by first | rfl | (simp [*] <;> rfl), by repeat (first | (with_reducible first | exact HB.out | apply below_alloc | apply pw_below_drewN | apply below_drew1 | refine below_set ?_ GR.out | refine below_set ?_ GA.out | refine below_set ?_ GC.out) | exact HB.out)⟩
      · have h := H.out
        rw [if_neg c9] at h
        simp only [Option.some.injEq, Prod.mk.injEq] at h
        obtain ⟨rfl, rfl, rfl, rfl, rfl, rfl, rfl, rfl, rfl, rfl, rfl, rfl⟩ := h
        have c9b0 : (tx.toList == a0.toList) = false := beq_eq_false_iff_ne.mpr c9
        have c9b1 : (tx.toList != a0.toList) = true := bne_iff_ne.mpr c9
        clear c9 H
        go_wp2_with (first | (go_at_call 14; (with_reducible refine (impl_KnowText.calls k t0 t1 t2 t3 t4 (impl_ReadKnow.flag a0 0) (impl_ReadKnow.flag a0 1) (impl_ReadKnow.flag a0 2) (impl_ReadKnow.flag a0 3) (impl_ReadKnow.flag a0 4) (impl_ReadKnow.flag a0 5) tx _ AX.out).mono ?_); rintro e w12 ⟨rfl, hb⟩; have n0_ := Aside0.mk (blk_below (g := gr) (o := .cells #[.int .i64 0, .int .i64 0, .int .i64 0, .int .i64 0, .int .i64 0, .int .i64 0, .int .i64 0, .int .i64 0, .int .i64 0, .int .i64 0, .int .i64 0] 23 (0, 0)) (by (with_reducible repeat (first | refine blk_drewN ?_ _ | refine blk_drew ?_ | refine blk_alloc ?_ _)); exact BR.out) hb); have n1_ := Aside0.mk (blk_below (g := ga) (o := .cells #[.int .i64 t0, .int .i64 t1, .int .i64 t2, .int .i64 t3, .int .i64 t4, .int .i64 (impl_ReadKnow.flag a0 0), .int .i64 (impl_ReadKnow.flag a0 1), .int .i64 (impl_ReadKnow.flag a0 2), .int .i64 (impl_ReadKnow.flag a0 3), .int .i64 (impl_ReadKnow.flag a0 4), .int .i64 (impl_ReadKnow.flag a0 5)] 23 (0, 0)) (by (with_reducible repeat (first | refine blk_drewN ?_ _ | refine blk_drew ?_ | refine blk_alloc ?_ _)); exact BA.out) hb); have nb_ := Aside0.mk (below_step (by repeat (first | (with_reducible first | exact HB.out | apply below_alloc | apply pw_below_drewN | apply below_drew1 | refine below_set ?_ GR.out | refine below_set ?_ GA.out | refine below_set ?_ GC.out) | exact HB.out)) hb); clear BR BA HB; have BR := n0_; have BA := n1_; have HB := nb_; clear n0_ n1_ nb_; (try clear hb); clear hz_0 hz_1 hz_2 hz_3 hz_4 hz_5 hz_6 hz_7 hz_8 hz_9 hz_10; have hy_0 : w12.cell? ⟨ga, 0, none⟩ = some (.int .i64 t0) := (blk_cell BA.out 0).trans rfl; have hyf_0 := blk_frozen BA.out 0; have hy_1 : w12.cell? ⟨ga, 1, none⟩ = some (.int .i64 t1) := (blk_cell BA.out 1).trans rfl; have hyf_1 := blk_frozen BA.out 1; have hy_2 : w12.cell? ⟨ga, 2, none⟩ = some (.int .i64 t2) := (blk_cell BA.out 2).trans rfl; have hyf_2 := blk_frozen BA.out 2; have hy_3 : w12.cell? ⟨ga, 3, none⟩ = some (.int .i64 t3) := (blk_cell BA.out 3).trans rfl; have hyf_3 := blk_frozen BA.out 3; have hy_4 : w12.cell? ⟨ga, 4, none⟩ = some (.int .i64 t4) := (blk_cell BA.out 4).trans rfl; have hyf_4 := blk_frozen BA.out 4; have hy_5 : w12.cell? ⟨ga, 5, none⟩ = some (.int .i64 (impl_ReadKnow.flag a0 0)) := (blk_cell BA.out 5).trans rfl; have hyf_5 := blk_frozen BA.out 5; have hy_6 : w12.cell? ⟨ga, 6, none⟩ = some (.int .i64 (impl_ReadKnow.flag a0 1)) := (blk_cell BA.out 6).trans rfl; have hyf_6 := blk_frozen BA.out 6; have hy_7 : w12.cell? ⟨ga, 7, none⟩ = some (.int .i64 (impl_ReadKnow.flag a0 2)) := (blk_cell BA.out 7).trans rfl; have hyf_7 := blk_frozen BA.out 7; have hy_8 : w12.cell? ⟨ga, 8, none⟩ = some (.int .i64 (impl_ReadKnow.flag a0 3)) := (blk_cell BA.out 8).trans rfl; have hyf_8 := blk_frozen BA.out 8; have hy_9 : w12.cell? ⟨ga, 9, none⟩ = some (.int .i64 (impl_ReadKnow.flag a0 4)) := (blk_cell BA.out 9).trans rfl; have hyf_9 := blk_frozen BA.out 9; have hy_10 : w12.cell? ⟨ga, 10, none⟩ = some (.int .i64 (impl_ReadKnow.flag a0 5)) := (blk_cell BA.out 10).trans rfl; have hyf_10 := blk_frozen BA.out 10; have hq_0 : w12.cell? ⟨gr, 0, none⟩ = some (.int .i64 0) := (blk_cell BR.out 0).trans rfl; have hqf_0 := blk_frozen BR.out 0; have hq_1 : w12.cell? ⟨gr, 1, none⟩ = some (.int .i64 0) := (blk_cell BR.out 1).trans rfl; have hqf_1 := blk_frozen BR.out 1; have hq_2 : w12.cell? ⟨gr, 2, none⟩ = some (.int .i64 0) := (blk_cell BR.out 2).trans rfl; have hqf_2 := blk_frozen BR.out 2; have hq_3 : w12.cell? ⟨gr, 3, none⟩ = some (.int .i64 0) := (blk_cell BR.out 3).trans rfl; have hqf_3 := blk_frozen BR.out 3; have hq_4 : w12.cell? ⟨gr, 4, none⟩ = some (.int .i64 0) := (blk_cell BR.out 4).trans rfl; have hqf_4 := blk_frozen BR.out 4; have hq_5 : w12.cell? ⟨gr, 5, none⟩ = some (.int .i64 0) := (blk_cell BR.out 5).trans rfl; have hqf_5 := blk_frozen BR.out 5; have hq_6 : w12.cell? ⟨gr, 6, none⟩ = some (.int .i64 0) := (blk_cell BR.out 6).trans rfl; have hqf_6 := blk_frozen BR.out 6; have hq_7 : w12.cell? ⟨gr, 7, none⟩ = some (.int .i64 0) := (blk_cell BR.out 7).trans rfl; have hqf_7 := blk_frozen BR.out 7; have hq_8 : w12.cell? ⟨gr, 8, none⟩ = some (.int .i64 0) := (blk_cell BR.out 8).trans rfl; have hqf_8 := blk_frozen BR.out 8; have hq_9 : w12.cell? ⟨gr, 9, none⟩ = some (.int .i64 0) := (blk_cell BR.out 9).trans rfl; have hqf_9 := blk_frozen BR.out 9; have hq_10 : w12.cell? ⟨gr, 10, none⟩ = some (.int .i64 0) := (blk_cell BR.out 10).trans rfl; have hqf_10 := blk_frozen BR.out 10; have hne := NE_gr_ga.out; have hnf := NE_gr_ga.out.symm))
        refine bodyPost_ret (results_ct rfl _ _ gr 23 #[.int .i64 0, .int .i64 0, .int .i64 0, .int .i64 0, .int .i64 0, .int .i64 0, .int .i64 0, .int .i64 0, .int .i64 0, .int .i64 0, .int .i64 0] (0, 0) _ rfl (by (with_reducible repeat (first | refine blk_drewN ?_ _ | refine blk_drew ?_ | refine blk_alloc ?_ _)); refine blk_put (cs := #[.int .i64 0, .int .i64 0, .int .i64 0, .int .i64 0, .int .i64 0, .int .i64 0, .int .i64 0, .int .i64 0, .int .i64 0, .int .i64 0, .int .i64 0]) ?_ 10 _ rfl; (with_reducible repeat (first | refine blk_drewN ?_ _ | refine blk_drew ?_ | refine blk_alloc ?_ _)); refine blk_put (cs := #[.int .i64 0, .int .i64 0, .int .i64 0, .int .i64 0, .int .i64 0, .int .i64 0, .int .i64 0, .int .i64 0, .int .i64 0, .int .i64 0, .int .i64 0]) ?_ 9 _ rfl; (with_reducible repeat (first | refine blk_drewN ?_ _ | refine blk_drew ?_ | refine blk_alloc ?_ _)); refine blk_put (cs := #[.int .i64 0, .int .i64 0, .int .i64 0, .int .i64 0, .int .i64 0, .int .i64 0, .int .i64 0, .int .i64 0, .int .i64 0, .int .i64 0, .int .i64 0]) ?_ 8 _ rfl; (with_reducible repeat (first | refine blk_drewN ?_ _ | refine blk_drew ?_ | refine blk_alloc ?_ _)); refine blk_put (cs := #[.int .i64 0, .int .i64 0, .int .i64 0, .int .i64 0, .int .i64 0, .int .i64 0, .int .i64 0, .int .i64 0, .int .i64 0, .int .i64 0, .int .i64 0]) ?_ 7 _ rfl; (with_reducible repeat (first | refine blk_drewN ?_ _ | refine blk_drew ?_ | refine blk_alloc ?_ _)); refine blk_put (cs := #[.int .i64 0, .int .i64 0, .int .i64 0, .int .i64 0, .int .i64 0, .int .i64 0, .int .i64 0, .int .i64 0, .int .i64 0, .int .i64 0, .int .i64 0]) ?_ 6 _ rfl; (with_reducible repeat (first | refine blk_drewN ?_ _ | refine blk_drew ?_ | refine blk_alloc ?_ _)); refine blk_put (cs := #[.int .i64 0, .int .i64 0, .int .i64 0, .int .i64 0, .int .i64 0, .int .i64 0, .int .i64 0, .int .i64 0, .int .i64 0, .int .i64 0, .int .i64 0]) ?_ 5 _ rfl; (with_reducible repeat (first | refine blk_drewN ?_ _ | refine blk_drew ?_ | refine blk_alloc ?_ _)); refine blk_put (cs := #[.int .i64 0, .int .i64 0, .int .i64 0, .int .i64 0, .int .i64 0, .int .i64 0, .int .i64 0, .int .i64 0, .int .i64 0, .int .i64 0, .int .i64 0]) ?_ 4 _ rfl; (with_reducible repeat (first | refine blk_drewN ?_ _ | refine blk_drew ?_ | refine blk_alloc ?_ _)); refine blk_put (cs := #[.int .i64 0, .int .i64 0, .int .i64 0, .int .i64 0, .int .i64 0, .int .i64 0, .int .i64 0, .int .i64 0, .int .i64 0, .int .i64 0, .int .i64 0]) ?_ 3 _ rfl; (with_reducible repeat (first | refine blk_drewN ?_ _ | refine blk_drew ?_ | refine blk_alloc ?_ _)); refine blk_put (cs := #[.int .i64 0, .int .i64 0, .int .i64 0, .int .i64 0, .int .i64 0, .int .i64 0, .int .i64 0, .int .i64 0, .int .i64 0, .int .i64 0, .int .i64 0]) ?_ 2 _ rfl; (with_reducible repeat (first | refine blk_drewN ?_ _ | refine blk_drew ?_ | refine blk_alloc ?_ _)); refine blk_put (cs := #[.int .i64 0, .int .i64 0, .int .i64 0, .int .i64 0, .int .i64 0, .int .i64 0, .int .i64 0, .int .i64 0, .int .i64 0, .int .i64 0, .int .i64 0]) ?_ 1 _ rfl; (with_reducible repeat (first | refine blk_drewN ?_ _ | refine blk_drew ?_ | refine blk_alloc ?_ _)); refine blk_put (cs := #[.int .i64 0, .int .i64 0, .int .i64 0, .int .i64 0, .int .i64 0, .int .i64 0, .int .i64 0, .int .i64 0, .int .i64 0, .int .i64 0, .int .i64 0]) ?_ 0 _ rfl; (with_reducible repeat (first | refine blk_drewN ?_ _ | refine blk_drew ?_ | refine blk_alloc ?_ _)); exact BR.out) Try.underlying23 rfl (by kernel_rfl)) rfl ?_
        exact ⟨by first | rfl | (simp [*] <;> rfl), by repeat (first | (with_reducible first | exact HB.out | apply below_alloc | apply pw_below_drewN | apply below_drew1 | refine below_set ?_ GR.out | refine below_set ?_ GA.out | refine below_set ?_ GC.out) | exact HB.out)⟩

/-! ### impl_flagsText: function 33 -/
def impl_flagsText.f (a0_0 : Bool) (a0_1 : Bool) (a0_2 : Bool) (a0_3 : Bool) (a0_4 : Bool) (a0_5 : Bool) : Option (ByteArray) := some ⟨#[FK.fb a0_0 78, FK.fb a0_1 86, FK.fb a0_2 68, FK.fb a0_3 73, FK.fb a0_4 90, FK.fb a0_5 67]⟩
set_option maxHeartbeats 8000000 in
set_option maxRecDepth 100000 in
theorem impl_flagsText.calls (a0_0 : Bool) (a0_1 : Bool) (a0_2 : Bool) (a0_3 : Bool) (a0_4 : Bool) (a0_5 : Bool) (r : ByteArray) (w : World) (h : impl_flagsText.f a0_0 a0_1 a0_2 a0_3 a0_4 a0_5 = some r) :
    Calls Try.prog 33 #[.agg #[.bool a0_0, .bool a0_1, .bool a0_2, .bool a0_3, .bool a0_4, .bool a0_5]] w fun e w' => e = .returned (.string r) ∧ Below w.heap.size w w' := by
  have hu30 := Try.underlying30
  have HB := Aside0.mk (Below.refl w.heap.size w)
  have H := Aside0.mk (Option.some.inj h)
  clear h
  have kc := fun (w : World) (C : Array Value) (n c : Nat) => Lib.run_convert_bytes_const (P := Try.prog) w 56 5 C n c Try.underlying56 Try.underlying5
  go_enter Try.func33, Try.ntmps33
  go_upto_region 2 with (first | ((with_reducible refine gate_dst (N := 1) rfl ?_); refine box_event ?hg (N := 1) ?hd (cs := #[.bool a0_0, .bool a0_1, .bool a0_2, .bool a0_3, .bool a0_4, .bool a0_5]) (t := 30) ?hr ?_; (case hd => rfl); (case hg => rfl); (case hr => first | (go_simp; done) | (go_simp; rfl)); intro gb hg w3 hbox hb; have n0_ := Aside0.mk (below_step (by repeat (first | (with_reducible first | exact HB.out | apply below_alloc | apply pw_below_drewN | apply below_drew1) | exact HB.out)) hb); have n1_ := Aside0.mk (hbox); have n3_ := Aside0.mk ((by rw [hg]; exact (below_size (by repeat (first | (with_reducible first | exact HB.out | apply below_alloc | apply pw_below_drewN | apply below_drew1) | exact HB.out))) : w.heap.size ≤ gb)); clear HB; have HB := n0_; have BK := n1_; have GE := n3_; clear n0_ n1_ n3_; clear hb hbox hg))
  clear kc
  obtain ⟨gr, hgr⟩ : ∃ g : Nat, g = w3.heap.size := ⟨_, rfl⟩
  have NE := Aside0.mk (show gb ≠ gr by have := blk_lt BK.out; omega)
  have GR := Aside0.mk (show w.heap.size ≤ gr by have := HB.out.size; omega)
  refine FK.gen_ (fun w' => w'.heap[gb]? = some (.cells #[.bool a0_0, .bool a0_1, .bool a0_2, .bool a0_3, .bool a0_4, .bool a0_5] 30 (0, 0)) ∧ w'.heap[w3.heap.size]? = some (.cells (FK.cells a0_0 a0_1 a0_2 a0_3 a0_4 a0_5 0) 5 (6, 7)) ∧ Below w.heap.size w w') ⟨(by (with_reducible repeat (first | refine blk_drewN ?_ _ | refine blk_drew ?_ | refine blk_alloc ?_ _)); exact BK.out), blk_new w3 _, (by repeat (first | (with_reducible first | exact HB.out | apply below_alloc | apply pw_below_drewN | apply below_drew1) | exact HB.out))⟩ ?_
  rintro w4 ⟨n0_, n1_, n2_⟩
  rw [← hgr] at n1_ ⊢
  clear BK HB hgr
  have BK := Aside0.mk n0_
  have BR := Aside0.mk n1_
  have HB := Aside0.mk n2_
  clear n0_ n1_ n2_
  have hc0 : w4.cell? ⟨gb, 0, none⟩ = some (.bool a0_0) := (blk_cell BK.out 0).trans rfl
  have hc1 : w4.cell? ⟨gb, 1, none⟩ = some (.bool a0_1) := (blk_cell BK.out 1).trans rfl
  have hc2 : w4.cell? ⟨gb, 2, none⟩ = some (.bool a0_2) := (blk_cell BK.out 2).trans rfl
  have hc3 : w4.cell? ⟨gb, 3, none⟩ = some (.bool a0_3) := (blk_cell BK.out 3).trans rfl
  have hc4 : w4.cell? ⟨gb, 4, none⟩ = some (.bool a0_4) := (blk_cell BK.out 4).trans rfl
  have hc5 : w4.cell? ⟨gb, 5, none⟩ = some (.bool a0_5) := (blk_cell BK.out 5).trans rfl
  go_wp2
  clear hc0 hc1 hc2 hc3 hc4 hc5
  obtain ⟨gs, hgs⟩ : ∃ g : Nat, g = w4.heap.size := ⟨_, rfl⟩
  have NS := Aside0.mk (show gs ≠ gr by have := blk_lt BR.out; omega)
  refine FK.gen_ (fun w' => w'.heap[gb]? = some (.cells #[.bool a0_0, .bool a0_1, .bool a0_2, .bool a0_3, .bool a0_4, .bool a0_5] 30 (0, 0)) ∧ w'.heap[gr]? = some (.cells (FK.cells a0_0 a0_1 a0_2 a0_3 a0_4 a0_5 0) 5 (6, 7)) ∧ w'.heap[w4.heap.size]? = some (.cells #[.bool a0_0, .bool a0_1, .bool a0_2, .bool a0_3, .bool a0_4, .bool a0_5] 4 (0, 0)) ∧ Below w.heap.size w w') ⟨(by (with_reducible repeat (first | refine blk_drewN ?_ _ | refine blk_drew ?_ | refine blk_alloc ?_ _)); exact BK.out), (by (with_reducible repeat (first | refine blk_drewN ?_ _ | refine blk_drew ?_ | refine blk_alloc ?_ _)); exact BR.out), blk_new w4 _, (by repeat (first | (with_reducible first | exact HB.out | apply below_alloc | apply pw_below_drewN | apply below_drew1) | exact HB.out))⟩ ?_
  rintro w5 ⟨n0_, n1_, n2_, n3_⟩
  rw [← hgs] at n2_ ⊢
  clear BK BR HB hgs
  have BK := Aside0.mk n0_
  have BR := Aside0.mk n1_
  have BS := Aside0.mk n2_
  have HB := Aside0.mk n3_
  clear n0_ n1_ n2_ n3_
  go_loopg [22] 7 (fun kq v22 w' => ∃ (i : Nat), v22 = .int .i64 (i : Int) ∧ Aside0 (kq + i = 7 ∧ i ≤ 6) ∧ Aside0 (w'.heap[gs]? = some (.cells #[.bool a0_0, .bool a0_1, .bool a0_2, .bool a0_3, .bool a0_4, .bool a0_5] 4 (0, 0))) ∧ Aside0 (w'.heap[gb]? = some (.cells #[.bool a0_0, .bool a0_1, .bool a0_2, .bool a0_3, .bool a0_4, .bool a0_5] 30 (0, 0))) ∧ Aside0 (w'.heap[gr]? = some (.cells (FK.cells a0_0 a0_1 a0_2 a0_3 a0_4 a0_5 i) 5 (6, 7))) ∧ Aside0 (Below w.heap.size w w'))
  case atStart => exact ⟨0, (by first | rfl | (simp; done) | (simp [*]; done)), ⟨rfl, by omega⟩, ⟨by (with_reducible repeat (first | refine blk_drewN ?_ _ | refine blk_drew ?_ | refine blk_alloc ?_ _)); exact BS.out⟩, ⟨by (with_reducible repeat (first | refine blk_drewN ?_ _ | refine blk_drew ?_ | refine blk_alloc ?_ _)); exact BK.out⟩, ⟨by (with_reducible repeat (first | refine blk_drewN ?_ _ | refine blk_drew ?_ | refine blk_alloc ?_ _)); exact BR.out⟩, ⟨by repeat (first | (with_reducible first | exact HB.out | apply below_alloc | apply pw_below_drewN | apply below_drew1) | exact HB.out)⟩⟩
  case round =>
    clear BS BK BR HB
    obtain ⟨i, rfl, HA, BS, BK, BR, HB⟩ := hrel
    obtain ⟨hk, hi⟩ := HA.out
    clear HA
    by_cases c : i < 6
    · have c0 : decide ((i : Int) < 6) = true := decide_eq_true (by omega)
      obtain ⟨b, cc, hb0, hc0, hT, hF⟩ := FK.cells_at a0_0 a0_1 a0_2 a0_3 a0_4 a0_5 i c
      cases gk with
      | zero => omega
      | succ k1 =>
        have hw1 : wrap64 ((i : Int) + 1) = ((i + 1 : Nat) : Int) := by unfold wrap64; omega
        have hx_ : wr.cell? ⟨gs, i, none⟩ = some (.bool b) := (blk_cell BS.out i).trans hb0
        clear hb0
        have i0 : (0 ≤ (i : Int)) = True := eq_true (by omega)
        have i1 : ((i : Int) < 6) = True := eq_true (by omega)
        have i2 : (i < 6) = True := eq_true c
        cases b with
        | true =>
          have e1 := hT rfl
          clear hT hF hc0
          go_wp2
          repeat (go_quiet (fail); try go_wp2)
          go_roundg k1
          case measure => omega
          case rel => exact ⟨i + 1, (by first | rfl | (simp only [hw1]; done) | (simp [hw1]; done)), ⟨by omega, by omega⟩, ⟨by (with_reducible repeat (first | refine blk_drewN ?_ _ | refine blk_drew ?_ | refine blk_alloc ?_ _)); exact BS.out⟩, ⟨by (with_reducible repeat (first | refine blk_drewN ?_ _ | refine blk_drew ?_ | refine blk_alloc ?_ _)); exact BK.out⟩, ⟨by rw [← e1]; (with_reducible repeat (first | refine blk_drewN ?_ _ | refine blk_drew ?_ | refine blk_alloc ?_ _)); exact BR.out⟩, ⟨by repeat (first | (with_reducible first | exact HB.out | apply below_alloc | apply pw_below_drewN | apply below_drew1) | exact HB.out)⟩⟩
        | false =>
          have e1 := hF rfl
          clear hT hF
          have hcell : wr.cell? ⟨gr, i, none⟩ = some (.int .u8 cc) := (FK.m_cell BR.out i).trans hc0
          have hfro := FK.m_frozen BR.out i c
          clear hc0
          go_wp2
          repeat (go_quiet (fail); try go_wp2)
          go_roundg k1
          case measure => omega
          case rel => exact ⟨i + 1, (by first | rfl | (simp only [hw1]; done) | (simp [hw1]; done)), ⟨by omega, by omega⟩, ⟨FK.m_far BS.out NS.out _⟩, ⟨FK.m_far BK.out NE.out _⟩, ⟨FK.m_set BR.out i _ e1⟩, ⟨by repeat (first | (with_reducible first | exact HB.out | apply below_alloc | apply pw_below_drewN | apply below_drew1 | refine below_set ?_ GR.out) | exact HB.out)⟩⟩
    · have c0 : decide ((i : Int) < 6) = false := decide_eq_false (by omega)
      obtain rfl : i = 6 := by omega
      have hcv := FK.back (P := Try.prog) BR.out 56 9 5 6 Try.underlying56 Try.underlying5 Try.underlying9
      go_wp2
      repeat (go_quiet (fail); try go_wp2)
      go_ret
      exact ⟨by first | (rw [← H.out]; done) | (rw [← H.out]; rfl) | (simp [← H.out]; done), by repeat (first | (with_reducible first | exact HB.out | apply below_alloc | apply pw_below_drewN | apply below_drew1) | exact HB.out)⟩

/-! ### strings_Join: function 34 -/
def strings_Join.f (l0 : List ByteArray) (a1 : ByteArray) : Option (ByteArray) := Giv.joinG l0 a1
theorem strings_Join.calls (A0 : Option Addr) (c0 : Nat) (l0 : List ByteArray) (a1 : ByteArray) (r : ByteArray) (w : World) (hr0 : Kd.C Kd.string w A0 l0.length l0) (hc0 : l0.length ≤ c0) (h : strings_Join.f l0 a1 = some r) :
    Calls Try.prog 34 #[.slice A0 l0.length c0, .string a1] w fun e w' => e = .returned (.string r) ∧ Below w.heap.size w w' :=
  Giv.joinG_calls A0 c0 l0 a1 r w hr0 hc0 h

end Go.Proofs.Ytidencofapcliaa.MC
