-- Written by this session's own program (wip/myprint.py) over the kit's print of the translation. Lean checks it.
import Derived.Test.YtidencofapcliaaMCx0
import Derived.Test.YtidencofapcliaaMCx4
namespace Go.Proofs.Ytidencofapcliaa.MC
open Go.RowKit Go.Proofs.YtidencofapcliaaW.PrintWords Go.Proofs.YtidencofapcliaaW.PrintLast Go.Proofs.YtidencofapcliaaW.PrintMore
attribute [local go_sem] max2_int min2_int max_two min_two max_three min_three max_four min_four   -- for this text's walks alone
set_option linter.unusedVariables false
set_option linter.unusedSimpArgs false

/-! ### impl_KnowText: function 14 -/
def impl_KnowText.sign (x : Int) (i : Nat) : ByteArray := if x = -1 then (⟨#[63]⟩ : ByteArray) else if x = 0 then (⟨#[45]⟩ : ByteArray) else (⟨#[78, 86, 68, 73, 90, 67]⟩ : ByteArray).extract i (i + 1)
def impl_KnowText.signs : List Int → Nat → ByteArray → ByteArray
  | [], _, acc => acc
  | x :: l, i, acc => impl_KnowText.signs l (i + 1) (acc ++ impl_KnowText.sign x i)
def impl_KnowText.head (t0 t1 t2 t3 t4 : ByteArray) : ByteArray := (((((((((((⟨#[65, 61]⟩ : ByteArray) ++ t0) ++ (⟨#[32, 88, 61]⟩ : ByteArray)) ++ t1) ++ (⟨#[32, 89, 61]⟩ : ByteArray)) ++ t2) ++ (⟨#[32, 83, 61]⟩ : ByteArray)) ++ t3) ++ (⟨#[32, 80, 67, 61]⟩ : ByteArray)) ++ t4) ++ (⟨#[32]⟩ : ByteArray))
def impl_KnowText.f (k : Nat) (a0_0 : Int) (a0_1 : Int) (a0_2 : Int) (a0_3 : Int) (a0_4 : Int) (a0_5 : Int) (a0_6 : Int) (a0_7 : Int) (a0_8 : Int) (a0_9 : Int) (a0_10 : Int) : Option (ByteArray) := if impl_KnowOk.rest ([a0_0, a0_1, a0_2, a0_3, a0_4, a0_5, a0_6, a0_7, a0_8, a0_9, a0_10] : List Int) 0 = true then ((impl_digitsOf.f k a0_0 2).bind fun t0 => (impl_digitsOf.f k a0_1 2).bind fun t1 => (impl_digitsOf.f k a0_2 2).bind fun t2 => (impl_digitsOf.f k a0_3 2).bind fun t3 => (impl_digitsOf.f k a0_4 4).bind fun t4 => (if t0.size ≤ 1000 ∧ t1.size ≤ 1000 ∧ t2.size ≤ 1000 ∧ t3.size ≤ 1000 ∧ t4.size ≤ 1000 then some (impl_KnowText.signs [a0_5, a0_6, a0_7, a0_8, a0_9, a0_10] 0 (impl_KnowText.head t0 t1 t2 t3 t4)) else none)) else some (⟨#[]⟩ : ByteArray)
theorem impl_KnowText.mono : ∀ a0 a1 a2 a3 a4 a5 a6 a7 a8 a9 a10 k, LeO (impl_KnowText.f k a0 a1 a2 a3 a4 a5 a6 a7 a8 a9 a10) (impl_KnowText.f (k + 1) a0 a1 a2 a3 a4 a5 a6 a7 a8 a9 a10) := by
  intro a0 a1 a2 a3 a4 a5 a6 a7 a8 a9 a10 k
  unfold impl_KnowText.f
  refine LeO.ite ?_ (LeO.refl _)
  refine LeO.bind (impl_digitsOf.mono _ _ _) (fun _ => ?_)
  refine LeO.bind (impl_digitsOf.mono _ _ _) (fun _ => ?_)
  refine LeO.bind (impl_digitsOf.mono _ _ _) (fun _ => ?_)
  refine LeO.bind (impl_digitsOf.mono _ _ _) (fun _ => ?_)
  refine LeO.bind (impl_digitsOf.mono _ _ _) (fun _ => ?_)
  exact LeO.refl _
theorem impl_KnowText.part (a0_0 : Int) (a0_1 : Int) (a0_2 : Int) (a0_3 : Int) (a0_4 : Int) (a0_5 : Int) (a0_6 : Int) (a0_7 : Int) (a0_8 : Int) (a0_9 : Int) (a0_10 : Int) (i : Nat) (h : i < 6) : ∃ x : Int, (#[.int .i64 a0_0, .int .i64 a0_1, .int .i64 a0_2, .int .i64 a0_3, .int .i64 a0_4, .int .i64 a0_5, .int .i64 a0_6, .int .i64 a0_7, .int .i64 a0_8, .int .i64 a0_9, .int .i64 a0_10] : Array Value)[5 + i]? = some (.int .i64 x) ∧ ∀ acc, impl_KnowText.signs (([a0_5, a0_6, a0_7, a0_8, a0_9, a0_10] : List Int).drop i) i acc = impl_KnowText.signs (([a0_5, a0_6, a0_7, a0_8, a0_9, a0_10] : List Int).drop (i + 1)) (i + 1) (acc ++ impl_KnowText.sign x i) := by
  match i, h with
  | 0, _ => exact ⟨a0_5, rfl, fun _ => rfl⟩
  | 1, _ => exact ⟨a0_6, rfl, fun _ => rfl⟩
  | 2, _ => exact ⟨a0_7, rfl, fun _ => rfl⟩
  | 3, _ => exact ⟨a0_8, rfl, fun _ => rfl⟩
  | 4, _ => exact ⟨a0_9, rfl, fun _ => rfl⟩
  | 5, _ => exact ⟨a0_10, rfl, fun _ => rfl⟩
  | n + 6, h => omega
theorem impl_KnowText.ptr (g i : Nat) (h : i < 6) : (KF.ptrs g)[5 + i]? = some (.pointer (some ⟨g, 5 + i, none⟩)) := by
  match i, h with
  | 0, _ => rfl
  | 1, _ => rfl
  | 2, _ => rfl
  | 3, _ => rfl
  | 4, _ => rfl
  | 5, _ => rfl
  | n + 6, h => omega
def impl_KnowText.T3 : Bool × List (List Nat × List Nat) := (true, [([], []), ([0], [0]), ([1], [1]), ([2], [2]), ([3], [3]), ([], []), ([5], [5]), ([6, 2], [6]), ([4, 7], [4, 7]), ([8], [8]), ([], []), ([10], [10]), ([11, 7], [11]), ([9, 12], [9, 12]), ([13], [13]), ([], []), ([15], [15]), ([16, 12], [16]), ([14, 17], [14, 17]), ([18], [18]), ([], []), ([20], [20]), ([21, 17], [21]), ([19, 22], [19, 22]), ([23], [23]), ([24, 22, 0, 1, 2, 3, 4, 5, 6, 7, 8, 9, 10, 11, 12, 13, 14, 15, 16, 17, 18, 19, 20, 21, 22, 23, 24], [24])])
def impl_KnowText.B3 : List Nat := [0, 1, 3, 7, 15, 0, 32, 103, 255, 511, 0, 1024, 3303, 8191, 16383, 0, 32768, 105703, 262143, 524287, 0, 1048576, 3382503, 8388607, 16777215, 33554431]
theorem impl_KnowText.tab3 : rtab .any (opsOf Try.f14 3) = impl_KnowText.T3 := by kernel_rfl
theorem impl_KnowText.bits3 : waitsOk impl_KnowText.T3.2 impl_KnowText.B3 = true := by kernel_rfl
set_option maxHeartbeats 8000000 in
set_option maxRecDepth 100000 in
theorem impl_KnowText.calls (k : Nat) (a0_0 : Int) (a0_1 : Int) (a0_2 : Int) (a0_3 : Int) (a0_4 : Int) (a0_5 : Int) (a0_6 : Int) (a0_7 : Int) (a0_8 : Int) (a0_9 : Int) (a0_10 : Int) (r : ByteArray) (w : World) (h : impl_KnowText.f k a0_0 a0_1 a0_2 a0_3 a0_4 a0_5 a0_6 a0_7 a0_8 a0_9 a0_10 = some r) :
    Calls Try.prog 14 #[.agg #[.int .i64 a0_0, .int .i64 a0_1, .int .i64 a0_2, .int .i64 a0_3, .int .i64 a0_4, .int .i64 a0_5, .int .i64 a0_6, .int .i64 a0_7, .int .i64 a0_8, .int .i64 a0_9, .int .i64 a0_10]] w fun e w' => e = .returned (.string r) ∧ Below w.heap.size w w' := by
  have hu23 := Try.underlying23
  have hu42 := Try.underlying42
  have HB := Aside0.mk (Below.refl w.heap.size w)
  unfold impl_KnowText.f at h
  cases ht : impl_KnowOk.rest ([a0_0, a0_1, a0_2, a0_3, a0_4, a0_5, a0_6, a0_7, a0_8, a0_9, a0_10] : List Int) 0 with
  | false =>
    have AT : Aside0 (impl_KnowOk.f k a0_0 a0_1 a0_2 a0_3 a0_4 a0_5 a0_6 a0_7 a0_8 a0_9 a0_10 = some false) := ⟨congrArg some ht⟩
    rw [ht, if_neg (by decide)] at h
    obtain rfl := Option.some.inj h
    go_enter Try.func14, Try.ntmps14
    go_wp2_with (first | ((with_reducible refine gate_dst (N := 1) rfl ?_); refine box_event ?hg (N := 1) ?hd (cs := #[.int .i64 a0_0, .int .i64 a0_1, .int .i64 a0_2, .int .i64 a0_3, .int .i64 a0_4, .int .i64 a0_5, .int .i64 a0_6, .int .i64 a0_7, .int .i64 a0_8, .int .i64 a0_9, .int .i64 a0_10]) (t := 23) ?hr ?_; (case hd => rfl); (case hg => rfl); (case hr => first | (go_simp; done) | (go_simp; rfl)); intro gb hg w3 hbox hb; have n0_ := Aside0.mk (below_step (by repeat (first | (with_reducible first | exact HB.out | apply below_alloc | apply pw_below_drewN | apply below_drew1) | exact HB.out)) hb); have n1_ := Aside0.mk (hbox); have n3_ := Aside0.mk ((by rw [hg]; exact (below_size (by repeat (first | (with_reducible first | exact HB.out | apply below_alloc | apply pw_below_drewN | apply below_drew1) | exact HB.out))) : w.heap.size ≤ gb)); clear HB; have HB := n0_; have BK := n1_; have GE := n3_; clear n0_ n1_ n3_; clear hb hbox hg; have hz_0 : w3.cell? ⟨gb, 0, none⟩ = some (.int .i64 a0_0) := (blk_cell BK.out 0).trans rfl; have hz_1 : w3.cell? ⟨gb, 1, none⟩ = some (.int .i64 a0_1) := (blk_cell BK.out 1).trans rfl; have hz_2 : w3.cell? ⟨gb, 2, none⟩ = some (.int .i64 a0_2) := (blk_cell BK.out 2).trans rfl; have hz_3 : w3.cell? ⟨gb, 3, none⟩ = some (.int .i64 a0_3) := (blk_cell BK.out 3).trans rfl; have hz_4 : w3.cell? ⟨gb, 4, none⟩ = some (.int .i64 a0_4) := (blk_cell BK.out 4).trans rfl; have hz_5 : w3.cell? ⟨gb, 5, none⟩ = some (.int .i64 a0_5) := (blk_cell BK.out 5).trans rfl; have hz_6 : w3.cell? ⟨gb, 6, none⟩ = some (.int .i64 a0_6) := (blk_cell BK.out 6).trans rfl; have hz_7 : w3.cell? ⟨gb, 7, none⟩ = some (.int .i64 a0_7) := (blk_cell BK.out 7).trans rfl; have hz_8 : w3.cell? ⟨gb, 8, none⟩ = some (.int .i64 a0_8) := (blk_cell BK.out 8).trans rfl; have hz_9 : w3.cell? ⟨gb, 9, none⟩ = some (.int .i64 a0_9) := (blk_cell BK.out 9).trans rfl; have hz_10 : w3.cell? ⟨gb, 10, none⟩ = some (.int .i64 a0_10) := (blk_cell BK.out 10).trans rfl) | (go_at_call 26; (with_reducible refine (impl_KnowOk.calls k a0_0 a0_1 a0_2 a0_3 a0_4 a0_5 a0_6 a0_7 a0_8 a0_9 a0_10 false _ AT.out).mono ?_); rintro e w4 ⟨rfl, hb⟩; have n0_ := Aside0.mk (blk_below (g := gb) (o := .cells #[.int .i64 a0_0, .int .i64 a0_1, .int .i64 a0_2, .int .i64 a0_3, .int .i64 a0_4, .int .i64 a0_5, .int .i64 a0_6, .int .i64 a0_7, .int .i64 a0_8, .int .i64 a0_9, .int .i64 a0_10] 23 (0, 0)) (by (with_reducible repeat (first | refine blk_drewN ?_ _ | refine blk_drew ?_ | refine blk_alloc ?_ _)); exact BK.out) hb); have n1_ := Aside0.mk (below_step (by repeat (first | (with_reducible first | exact HB.out | apply below_alloc | apply pw_below_drewN | apply below_drew1 | refine below_set ?_ GE.out) | exact HB.out)) hb); clear BK HB; have BK := n0_; have HB := n1_; clear n0_ n1_; (try clear hb); clear hz_0 hz_1 hz_2 hz_3 hz_4 hz_5 hz_6 hz_7 hz_8 hz_9 hz_10))
    repeat (go_quiet (first | ((with_reducible refine gate_dst (N := 1) rfl ?_); refine box_event ?hg (N := 1) ?hd (cs := #[.int .i64 a0_0, .int .i64 a0_1, .int .i64 a0_2, .int .i64 a0_3, .int .i64 a0_4, .int .i64 a0_5, .int .i64 a0_6, .int .i64 a0_7, .int .i64 a0_8, .int .i64 a0_9, .int .i64 a0_10]) (t := 23) ?hr ?_; (case hd => rfl); (case hg => rfl); (case hr => first | (go_simp; done) | (go_simp; rfl)); intro gb hg w3 hbox hb; have n0_ := Aside0.mk (below_step (by repeat (first | (with_reducible first | exact HB.out | apply below_alloc | apply pw_below_drewN | apply below_drew1) | exact HB.out)) hb); have n1_ := Aside0.mk (hbox); have n3_ := Aside0.mk ((by rw [hg]; exact (below_size (by repeat (first | (with_reducible first | exact HB.out | apply below_alloc | apply pw_below_drewN | apply below_drew1) | exact HB.out))) : w.heap.size ≤ gb)); clear HB; have HB := n0_; have BK := n1_; have GE := n3_; clear n0_ n1_ n3_; clear hb hbox hg; have hz_0 : w3.cell? ⟨gb, 0, none⟩ = some (.int .i64 a0_0) := (blk_cell BK.out 0).trans rfl; have hz_1 : w3.cell? ⟨gb, 1, none⟩ = some (.int .i64 a0_1) := (blk_cell BK.out 1).trans rfl; have hz_2 : w3.cell? ⟨gb, 2, none⟩ = some (.int .i64 a0_2) := (blk_cell BK.out 2).trans rfl; have hz_3 : w3.cell? ⟨gb, 3, none⟩ = some (.int .i64 a0_3) := (blk_cell BK.out 3).trans rfl; have hz_4 : w3.cell? ⟨gb, 4, none⟩ = some (.int .i64 a0_4) := (blk_cell BK.out 4).trans rfl; have hz_5 : w3.cell? ⟨gb, 5, none⟩ = some (.int .i64 a0_5) := (blk_cell BK.out 5).trans rfl; have hz_6 : w3.cell? ⟨gb, 6, none⟩ = some (.int .i64 a0_6) := (blk_cell BK.out 6).trans rfl; have hz_7 : w3.cell? ⟨gb, 7, none⟩ = some (.int .i64 a0_7) := (blk_cell BK.out 7).trans rfl; have hz_8 : w3.cell? ⟨gb, 8, none⟩ = some (.int .i64 a0_8) := (blk_cell BK.out 8).trans rfl; have hz_9 : w3.cell? ⟨gb, 9, none⟩ = some (.int .i64 a0_9) := (blk_cell BK.out 9).trans rfl; have hz_10 : w3.cell? ⟨gb, 10, none⟩ = some (.int .i64 a0_10) := (blk_cell BK.out 10).trans rfl) | (go_at_call 26; (with_reducible refine (impl_KnowOk.calls k a0_0 a0_1 a0_2 a0_3 a0_4 a0_5 a0_6 a0_7 a0_8 a0_9 a0_10 false _ AT.out).mono ?_); rintro e w4 ⟨rfl, hb⟩; have n0_ := Aside0.mk (blk_below (g := gb) (o := .cells #[.int .i64 a0_0, .int .i64 a0_1, .int .i64 a0_2, .int .i64 a0_3, .int .i64 a0_4, .int .i64 a0_5, .int .i64 a0_6, .int .i64 a0_7, .int .i64 a0_8, .int .i64 a0_9, .int .i64 a0_10] 23 (0, 0)) (by (with_reducible repeat (first | refine blk_drewN ?_ _ | refine blk_drew ?_ | refine blk_alloc ?_ _)); exact BK.out) hb); have n1_ := Aside0.mk (below_step (by repeat (first | (with_reducible first | exact HB.out | apply below_alloc | apply pw_below_drewN | apply below_drew1 | refine below_set ?_ GE.out) | exact HB.out)) hb); clear BK HB; have BK := n0_; have HB := n1_; clear n0_ n1_; (try clear hb); clear hz_0 hz_1 hz_2 hz_3 hz_4 hz_5 hz_6 hz_7 hz_8 hz_9 hz_10)); try go_wp2_with (first | ((with_reducible refine gate_dst (N := 1) rfl ?_); refine box_event ?hg (N := 1) ?hd (cs := #[.int .i64 a0_0, .int .i64 a0_1, .int .i64 a0_2, .int .i64 a0_3, .int .i64 a0_4, .int .i64 a0_5, .int .i64 a0_6, .int .i64 a0_7, .int .i64 a0_8, .int .i64 a0_9, .int .i64 a0_10]) (t := 23) ?hr ?_; (case hd => rfl); (case hg => rfl); (case hr => first | (go_simp; done) | (go_simp; rfl)); intro gb hg w3 hbox hb; have n0_ := Aside0.mk (below_step (by repeat (first | (with_reducible first | exact HB.out | apply below_alloc | apply pw_below_drewN | apply below_drew1) | exact HB.out)) hb); have n1_ := Aside0.mk (hbox); have n3_ := Aside0.mk ((by rw [hg]; exact (below_size (by repeat (first | (with_reducible first | exact HB.out | apply below_alloc | apply pw_below_drewN | apply below_drew1) | exact HB.out))) : w.heap.size ≤ gb)); clear HB; have HB := n0_; have BK := n1_; have GE := n3_; clear n0_ n1_ n3_; clear hb hbox hg; have hz_0 : w3.cell? ⟨gb, 0, none⟩ = some (.int .i64 a0_0) := (blk_cell BK.out 0).trans rfl; have hz_1 : w3.cell? ⟨gb, 1, none⟩ = some (.int .i64 a0_1) := (blk_cell BK.out 1).trans rfl; have hz_2 : w3.cell? ⟨gb, 2, none⟩ = some (.int .i64 a0_2) := (blk_cell BK.out 2).trans rfl; have hz_3 : w3.cell? ⟨gb, 3, none⟩ = some (.int .i64 a0_3) := (blk_cell BK.out 3).trans rfl; have hz_4 : w3.cell? ⟨gb, 4, none⟩ = some (.int .i64 a0_4) := (blk_cell BK.out 4).trans rfl; have hz_5 : w3.cell? ⟨gb, 5, none⟩ = some (.int .i64 a0_5) := (blk_cell BK.out 5).trans rfl; have hz_6 : w3.cell? ⟨gb, 6, none⟩ = some (.int .i64 a0_6) := (blk_cell BK.out 6).trans rfl; have hz_7 : w3.cell? ⟨gb, 7, none⟩ = some (.int .i64 a0_7) := (blk_cell BK.out 7).trans rfl; have hz_8 : w3.cell? ⟨gb, 8, none⟩ = some (.int .i64 a0_8) := (blk_cell BK.out 8).trans rfl; have hz_9 : w3.cell? ⟨gb, 9, none⟩ = some (.int .i64 a0_9) := (blk_cell BK.out 9).trans rfl; have hz_10 : w3.cell? ⟨gb, 10, none⟩ = some (.int .i64 a0_10) := (blk_cell BK.out 10).trans rfl) | (go_at_call 26; (with_reducible refine (impl_KnowOk.calls k a0_0 a0_1 a0_2 a0_3 a0_4 a0_5 a0_6 a0_7 a0_8 a0_9 a0_10 false _ AT.out).mono ?_); rintro e w4 ⟨rfl, hb⟩; have n0_ := Aside0.mk (blk_below (g := gb) (o := .cells #[.int .i64 a0_0, .int .i64 a0_1, .int .i64 a0_2, .int .i64 a0_3, .int .i64 a0_4, .int .i64 a0_5, .int .i64 a0_6, .int .i64 a0_7, .int .i64 a0_8, .int .i64 a0_9, .int .i64 a0_10] 23 (0, 0)) (by (with_reducible repeat (first | refine blk_drewN ?_ _ | refine blk_drew ?_ | refine blk_alloc ?_ _)); exact BK.out) hb); have n1_ := Aside0.mk (below_step (by repeat (first | (with_reducible first | exact HB.out | apply below_alloc | apply pw_below_drewN | apply below_drew1 | refine below_set ?_ GE.out) | exact HB.out)) hb); clear BK HB; have BK := n0_; have HB := n1_; clear n0_ n1_; (try clear hb); clear hz_0 hz_1 hz_2 hz_3 hz_4 hz_5 hz_6 hz_7 hz_8 hz_9 hz_10)))
    go_ret
    exact ⟨rfl, by repeat (first | (with_reducible first | exact HB.out | apply below_alloc | apply pw_below_drewN | apply below_drew1 | refine below_set ?_ GE.out) | exact HB.out)⟩
  | true =>
    have AT : Aside0 (impl_KnowOk.f k a0_0 a0_1 a0_2 a0_3 a0_4 a0_5 a0_6 a0_7 a0_8 a0_9 a0_10 = some true) := ⟨congrArg some ht⟩
    rw [ht, if_pos rfl] at h
    obtain ⟨t0, A00, h⟩ := Option.bind_eq_some_iff.mp h
    have A0 := Aside0.mk A00
    clear A00
    obtain ⟨t1, A10, h⟩ := Option.bind_eq_some_iff.mp h
    have A1 := Aside0.mk A10
    clear A10
    obtain ⟨t2, A20, h⟩ := Option.bind_eq_some_iff.mp h
    have A2 := Aside0.mk A20
    clear A20
    obtain ⟨t3, A30, h⟩ := Option.bind_eq_some_iff.mp h
    have A3 := Aside0.mk A30
    clear A30
    obtain ⟨t4, A40, h⟩ := Option.bind_eq_some_iff.mp h
    have A4 := Aside0.mk A40
    clear A40
    by_cases c8 : t0.size ≤ 1000 ∧ t1.size ≤ 1000 ∧ t2.size ≤ 1000 ∧ t3.size ≤ 1000 ∧ t4.size ≤ 1000
    rotate_left
    · rw [if_neg c8] at h
      exact absurd h (by simp)
    rw [if_pos c8] at h
    have C8 := Aside0.mk c8
    have H := Aside0.mk (Option.some.inj h)
    clear h c8
    go_enter Try.func14, Try.ntmps14
    go_upto_region 3 with (first | ((with_reducible refine gate_dst (N := 1) rfl ?_); refine box_event ?hg (N := 1) ?hd (cs := #[.int .i64 a0_0, .int .i64 a0_1, .int .i64 a0_2, .int .i64 a0_3, .int .i64 a0_4, .int .i64 a0_5, .int .i64 a0_6, .int .i64 a0_7, .int .i64 a0_8, .int .i64 a0_9, .int .i64 a0_10]) (t := 23) ?hr ?_; (case hd => rfl); (case hg => rfl); (case hr => first | (go_simp; done) | (go_simp; rfl)); intro gb hg w3 hbox hb; have n0_ := Aside0.mk (below_step (by repeat (first | (with_reducible first | exact HB.out | apply below_alloc | apply pw_below_drewN | apply below_drew1) | exact HB.out)) hb); have n1_ := Aside0.mk (hbox); have n3_ := Aside0.mk ((by rw [hg]; exact (below_size (by repeat (first | (with_reducible first | exact HB.out | apply below_alloc | apply pw_below_drewN | apply below_drew1) | exact HB.out))) : w.heap.size ≤ gb)); clear HB; have HB := n0_; have BK := n1_; have GE := n3_; clear n0_ n1_ n3_; clear hb hbox hg; have hz_0 : w3.cell? ⟨gb, 0, none⟩ = some (.int .i64 a0_0) := (blk_cell BK.out 0).trans rfl; have hz_1 : w3.cell? ⟨gb, 1, none⟩ = some (.int .i64 a0_1) := (blk_cell BK.out 1).trans rfl; have hz_2 : w3.cell? ⟨gb, 2, none⟩ = some (.int .i64 a0_2) := (blk_cell BK.out 2).trans rfl; have hz_3 : w3.cell? ⟨gb, 3, none⟩ = some (.int .i64 a0_3) := (blk_cell BK.out 3).trans rfl; have hz_4 : w3.cell? ⟨gb, 4, none⟩ = some (.int .i64 a0_4) := (blk_cell BK.out 4).trans rfl; have hz_5 : w3.cell? ⟨gb, 5, none⟩ = some (.int .i64 a0_5) := (blk_cell BK.out 5).trans rfl; have hz_6 : w3.cell? ⟨gb, 6, none⟩ = some (.int .i64 a0_6) := (blk_cell BK.out 6).trans rfl; have hz_7 : w3.cell? ⟨gb, 7, none⟩ = some (.int .i64 a0_7) := (blk_cell BK.out 7).trans rfl; have hz_8 : w3.cell? ⟨gb, 8, none⟩ = some (.int .i64 a0_8) := (blk_cell BK.out 8).trans rfl; have hz_9 : w3.cell? ⟨gb, 9, none⟩ = some (.int .i64 a0_9) := (blk_cell BK.out 9).trans rfl; have hz_10 : w3.cell? ⟨gb, 10, none⟩ = some (.int .i64 a0_10) := (blk_cell BK.out 10).trans rfl) | (go_at_call 26; (with_reducible refine (impl_KnowOk.calls k a0_0 a0_1 a0_2 a0_3 a0_4 a0_5 a0_6 a0_7 a0_8 a0_9 a0_10 true _ AT.out).mono ?_); rintro e w4 ⟨rfl, hb⟩; have n0_ := Aside0.mk (blk_below (g := gb) (o := .cells #[.int .i64 a0_0, .int .i64 a0_1, .int .i64 a0_2, .int .i64 a0_3, .int .i64 a0_4, .int .i64 a0_5, .int .i64 a0_6, .int .i64 a0_7, .int .i64 a0_8, .int .i64 a0_9, .int .i64 a0_10] 23 (0, 0)) (by (with_reducible repeat (first | refine blk_drewN ?_ _ | refine blk_drew ?_ | refine blk_alloc ?_ _)); exact BK.out) hb); have n1_ := Aside0.mk (below_step (by repeat (first | (with_reducible first | exact HB.out | apply below_alloc | apply pw_below_drewN | apply below_drew1 | refine below_set ?_ GE.out) | exact HB.out)) hb); clear BK HB; have BK := n0_; have HB := n1_; clear n0_ n1_; (try clear hb); clear hz_0 hz_1 hz_2 hz_3 hz_4 hz_5 hz_6 hz_7 hz_8 hz_9 hz_10))
    obtain ⟨y0, y1, y2, y3, y4⟩ := C8.out
    have z0 : (⟨#[65, 61]⟩ : ByteArray).size = 2 := rfl
    have z1 : (⟨#[32, 88, 61]⟩ : ByteArray).size = 3 := rfl
    have z2 : (⟨#[32, 89, 61]⟩ : ByteArray).size = 3 := rfl
    have z3 : (⟨#[32, 83, 61]⟩ : ByteArray).size = 3 := rfl
    have z4 : (⟨#[32, 80, 67, 61]⟩ : ByteArray).size = 4 := rfl
    have z5 : (⟨#[32]⟩ : ByteArray).size = 1 := rfl
    have e0 : (⟨#[65, 61]⟩ : ByteArray).size + t0.size ≤ 9223372036854775807 := by simp only [ByteArray.size_append, z0, z1, z2, z3, z4, z5]; omega
    have e0b0 := eq_true e0
    have e0b1 := decide_eq_true e0
    have e0b2 : (9223372036854775807 < (⟨#[65, 61]⟩ : ByteArray).size + t0.size) = False := eq_false (Nat.not_lt.2 e0)
    have e0b7 : 2 + t0.size ≤ 9223372036854775807 := by have h_ := e0; (try simp only [ByteArray.size_append] at h_); exact h_
    have e0b8 := eq_false (Nat.not_lt.2 e0b7)
    have e0bA := decide_eq_true e0b7
    replace e0b7 := eq_true e0b7
    clear e0
    have e1 : ((⟨#[65, 61]⟩ : ByteArray) ++ t0).size + 3 ≤ 9223372036854775807 := by simp only [ByteArray.size_append, z0, z1, z2, z3, z4, z5]; omega
    have e1b0 := eq_true e1
    have e1b1 := decide_eq_true e1
    have e1b2 : (9223372036854775807 < ((⟨#[65, 61]⟩ : ByteArray) ++ t0).size + 3) = False := eq_false (Nat.not_lt.2 e1)
    have e1b7 : 2 + t0.size + 3 ≤ 9223372036854775807 := by have h_ := e1; (try simp only [ByteArray.size_append] at h_); exact h_
    have e1b8 := eq_false (Nat.not_lt.2 e1b7)
    have e1bA := decide_eq_true e1b7
    replace e1b7 := eq_true e1b7
    clear e1
    have e2 : (((⟨#[65, 61]⟩ : ByteArray) ++ t0) ++ (⟨#[32, 88, 61]⟩ : ByteArray)).size + t1.size ≤ 9223372036854775807 := by simp only [ByteArray.size_append, z0, z1, z2, z3, z4, z5]; omega
    have e2b0 := eq_true e2
    have e2b1 := decide_eq_true e2
    have e2b2 : (9223372036854775807 < (((⟨#[65, 61]⟩ : ByteArray) ++ t0) ++ (⟨#[32, 88, 61]⟩ : ByteArray)).size + t1.size) = False := eq_false (Nat.not_lt.2 e2)
    have e2b7 : 2 + t0.size + 3 + t1.size ≤ 9223372036854775807 := by have h_ := e2; (try simp only [ByteArray.size_append] at h_); exact h_
    have e2b8 := eq_false (Nat.not_lt.2 e2b7)
    have e2bA := decide_eq_true e2b7
    replace e2b7 := eq_true e2b7
    clear e2
    have e3 : ((((⟨#[65, 61]⟩ : ByteArray) ++ t0) ++ (⟨#[32, 88, 61]⟩ : ByteArray)) ++ t1).size + 3 ≤ 9223372036854775807 := by simp only [ByteArray.size_append, z0, z1, z2, z3, z4, z5]; omega
    have e3b0 := eq_true e3
    have e3b1 := decide_eq_true e3
    have e3b2 : (9223372036854775807 < ((((⟨#[65, 61]⟩ : ByteArray) ++ t0) ++ (⟨#[32, 88, 61]⟩ : ByteArray)) ++ t1).size + 3) = False := eq_false (Nat.not_lt.2 e3)
    have e3b7 : 2 + t0.size + 3 + t1.size + 3 ≤ 9223372036854775807 := by have h_ := e3; (try simp only [ByteArray.size_append] at h_); exact h_
    have e3b8 := eq_false (Nat.not_lt.2 e3b7)
    have e3bA := decide_eq_true e3b7
    replace e3b7 := eq_true e3b7
    clear e3
    have e4 : (((((⟨#[65, 61]⟩ : ByteArray) ++ t0) ++ (⟨#[32, 88, 61]⟩ : ByteArray)) ++ t1) ++ (⟨#[32, 89, 61]⟩ : ByteArray)).size + t2.size ≤ 9223372036854775807 := by simp only [ByteArray.size_append, z0, z1, z2, z3, z4, z5]; omega
    have e4b0 := eq_true e4
    have e4b1 := decide_eq_true e4
    have e4b2 : (9223372036854775807 < (((((⟨#[65, 61]⟩ : ByteArray) ++ t0) ++ (⟨#[32, 88, 61]⟩ : ByteArray)) ++ t1) ++ (⟨#[32, 89, 61]⟩ : ByteArray)).size + t2.size) = False := eq_false (Nat.not_lt.2 e4)
    have e4b7 : 2 + t0.size + 3 + t1.size + 3 + t2.size ≤ 9223372036854775807 := by have h_ := e4; (try simp only [ByteArray.size_append] at h_); exact h_
    have e4b8 := eq_false (Nat.not_lt.2 e4b7)
    have e4bA := decide_eq_true e4b7
    replace e4b7 := eq_true e4b7
    clear e4
    have e5 : ((((((⟨#[65, 61]⟩ : ByteArray) ++ t0) ++ (⟨#[32, 88, 61]⟩ : ByteArray)) ++ t1) ++ (⟨#[32, 89, 61]⟩ : ByteArray)) ++ t2).size + 3 ≤ 9223372036854775807 := by simp only [ByteArray.size_append, z0, z1, z2, z3, z4, z5]; omega
    have e5b0 := eq_true e5
    have e5b1 := decide_eq_true e5
    have e5b2 : (9223372036854775807 < ((((((⟨#[65, 61]⟩ : ByteArray) ++ t0) ++ (⟨#[32, 88, 61]⟩ : ByteArray)) ++ t1) ++ (⟨#[32, 89, 61]⟩ : ByteArray)) ++ t2).size + 3) = False := eq_false (Nat.not_lt.2 e5)
    have e5b7 : 2 + t0.size + 3 + t1.size + 3 + t2.size + 3 ≤ 9223372036854775807 := by have h_ := e5; (try simp only [ByteArray.size_append] at h_); exact h_
    have e5b8 := eq_false (Nat.not_lt.2 e5b7)
    have e5bA := decide_eq_true e5b7
    replace e5b7 := eq_true e5b7
    clear e5
    have e6 : (((((((⟨#[65, 61]⟩ : ByteArray) ++ t0) ++ (⟨#[32, 88, 61]⟩ : ByteArray)) ++ t1) ++ (⟨#[32, 89, 61]⟩ : ByteArray)) ++ t2) ++ (⟨#[32, 83, 61]⟩ : ByteArray)).size + t3.size ≤ 9223372036854775807 := by simp only [ByteArray.size_append, z0, z1, z2, z3, z4, z5]; omega
    have e6b0 := eq_true e6
    have e6b1 := decide_eq_true e6
    have e6b2 : (9223372036854775807 < (((((((⟨#[65, 61]⟩ : ByteArray) ++ t0) ++ (⟨#[32, 88, 61]⟩ : ByteArray)) ++ t1) ++ (⟨#[32, 89, 61]⟩ : ByteArray)) ++ t2) ++ (⟨#[32, 83, 61]⟩ : ByteArray)).size + t3.size) = False := eq_false (Nat.not_lt.2 e6)
    have e6b7 : 2 + t0.size + 3 + t1.size + 3 + t2.size + 3 + t3.size ≤ 9223372036854775807 := by have h_ := e6; (try simp only [ByteArray.size_append] at h_); exact h_
    have e6b8 := eq_false (Nat.not_lt.2 e6b7)
    have e6bA := decide_eq_true e6b7
    replace e6b7 := eq_true e6b7
    clear e6
    have e7 : ((((((((⟨#[65, 61]⟩ : ByteArray) ++ t0) ++ (⟨#[32, 88, 61]⟩ : ByteArray)) ++ t1) ++ (⟨#[32, 89, 61]⟩ : ByteArray)) ++ t2) ++ (⟨#[32, 83, 61]⟩ : ByteArray)) ++ t3).size + 4 ≤ 9223372036854775807 := by simp only [ByteArray.size_append, z0, z1, z2, z3, z4, z5]; omega
    have e7b0 := eq_true e7
    have e7b1 := decide_eq_true e7
    have e7b2 : (9223372036854775807 < ((((((((⟨#[65, 61]⟩ : ByteArray) ++ t0) ++ (⟨#[32, 88, 61]⟩ : ByteArray)) ++ t1) ++ (⟨#[32, 89, 61]⟩ : ByteArray)) ++ t2) ++ (⟨#[32, 83, 61]⟩ : ByteArray)) ++ t3).size + 4) = False := eq_false (Nat.not_lt.2 e7)
    have e7b7 : 2 + t0.size + 3 + t1.size + 3 + t2.size + 3 + t3.size + 4 ≤ 9223372036854775807 := by have h_ := e7; (try simp only [ByteArray.size_append] at h_); exact h_
    have e7b8 := eq_false (Nat.not_lt.2 e7b7)
    have e7bA := decide_eq_true e7b7
    replace e7b7 := eq_true e7b7
    clear e7
    have e8 : (((((((((⟨#[65, 61]⟩ : ByteArray) ++ t0) ++ (⟨#[32, 88, 61]⟩ : ByteArray)) ++ t1) ++ (⟨#[32, 89, 61]⟩ : ByteArray)) ++ t2) ++ (⟨#[32, 83, 61]⟩ : ByteArray)) ++ t3) ++ (⟨#[32, 80, 67, 61]⟩ : ByteArray)).size + t4.size ≤ 9223372036854775807 := by simp only [ByteArray.size_append, z0, z1, z2, z3, z4, z5]; omega
    have e8b0 := eq_true e8
    have e8b1 := decide_eq_true e8
    have e8b2 : (9223372036854775807 < (((((((((⟨#[65, 61]⟩ : ByteArray) ++ t0) ++ (⟨#[32, 88, 61]⟩ : ByteArray)) ++ t1) ++ (⟨#[32, 89, 61]⟩ : ByteArray)) ++ t2) ++ (⟨#[32, 83, 61]⟩ : ByteArray)) ++ t3) ++ (⟨#[32, 80, 67, 61]⟩ : ByteArray)).size + t4.size) = False := eq_false (Nat.not_lt.2 e8)
    have e8b7 : 2 + t0.size + 3 + t1.size + 3 + t2.size + 3 + t3.size + 4 + t4.size ≤ 9223372036854775807 := by have h_ := e8; (try simp only [ByteArray.size_append] at h_); exact h_
    have e8b8 := eq_false (Nat.not_lt.2 e8b7)
    have e8bA := decide_eq_true e8b7
    replace e8b7 := eq_true e8b7
    clear e8
    have e9 : ((((((((((⟨#[65, 61]⟩ : ByteArray) ++ t0) ++ (⟨#[32, 88, 61]⟩ : ByteArray)) ++ t1) ++ (⟨#[32, 89, 61]⟩ : ByteArray)) ++ t2) ++ (⟨#[32, 83, 61]⟩ : ByteArray)) ++ t3) ++ (⟨#[32, 80, 67, 61]⟩ : ByteArray)) ++ t4).size + 1 ≤ 9223372036854775807 := by simp only [ByteArray.size_append, z0, z1, z2, z3, z4, z5]; omega
    have e9b0 := eq_true e9
    have e9b1 := decide_eq_true e9
    have e9b2 : (9223372036854775807 < ((((((((((⟨#[65, 61]⟩ : ByteArray) ++ t0) ++ (⟨#[32, 88, 61]⟩ : ByteArray)) ++ t1) ++ (⟨#[32, 89, 61]⟩ : ByteArray)) ++ t2) ++ (⟨#[32, 83, 61]⟩ : ByteArray)) ++ t3) ++ (⟨#[32, 80, 67, 61]⟩ : ByteArray)) ++ t4).size + 1) = False := eq_false (Nat.not_lt.2 e9)
    have e9b7 : 2 + t0.size + 3 + t1.size + 3 + t2.size + 3 + t3.size + 4 + t4.size + 1 ≤ 9223372036854775807 := by have h_ := e9; (try simp only [ByteArray.size_append] at h_); exact h_
    have e9b8 := eq_false (Nat.not_lt.2 e9b7)
    have e9bA := decide_eq_true e9b7
    replace e9b7 := eq_true e9b7
    clear e9
    clear z0 z1 z2 z3 z4 z5 y0 y1 y2 y3 y4
    have hS : Aside0 (∀ w' : World, Below w4.heap.size w4 w' → w'.cell? ⟨gb, 0, none⟩ = some (.int .i64 a0_0) ∧ w'.cell? ⟨gb, 1, none⟩ = some (.int .i64 a0_1) ∧ w'.cell? ⟨gb, 2, none⟩ = some (.int .i64 a0_2) ∧ w'.cell? ⟨gb, 3, none⟩ = some (.int .i64 a0_3) ∧ w'.cell? ⟨gb, 4, none⟩ = some (.int .i64 a0_4)) := ⟨fun w' hb => ⟨(blk_cell (blk_below BK.out hb) 0).trans rfl, (blk_cell (blk_below BK.out hb) 1).trans rfl, (blk_cell (blk_below BK.out hb) 2).trans rfl, (blk_cell (blk_below BK.out hb) 3).trans rfl, (blk_cell (blk_below BK.out hb) 4).trans rfl⟩⟩
    have HC := Aside0.mk (below_drew1 (Below.refl w4.heap.size w4))
    try go_wp2
    refine start_ (n := 26) (S := fun w' => w'.cell? ⟨gb, 0, none⟩ = some (.int .i64 a0_0) ∧ w'.cell? ⟨gb, 1, none⟩ = some (.int .i64 a0_1) ∧ w'.cell? ⟨gb, 2, none⟩ = some (.int .i64 a0_2) ∧ w'.cell? ⟨gb, 3, none⟩ = some (.int .i64 a0_3) ∧ w'.cell? ⟨gb, 4, none⟩ = some (.int .i64 a0_4)) (ds := []) #[false, false, false, false, false, false, false, false, false, false, false, false, false, false, false, false, false, false, false, false, false, false, false, false, false, false] (by kernel_rfl) rfl rfl (hS.out _ HC.out) (fun hHeld => ?_); refine with_tabW impl_KnowText.tab3 impl_KnowText.bits3 (fun HT_ HW_ => ?_)
    generalize w4.drew = w18 at HC hHeld ⊢
    refine pure_ (i := 0) (N := some 10) (v := ?_) (a' := ?_) #[true, false, false, false, false, false, false, false, false, false, false, false, false, false, false, false, false, false, false, false, false, false, false, false, false, false] rfl rfl (any_of HT_.out (by kernel_rfl)) (fun _ _ _ h => h) (Or.inl ⟨by rfl, ?_⟩) ?_ ?_
    rotate_left
    · intro w'
      go_simp
      with_reducible rfl
    rotate_left
    · simp only [Act.put, List.setIfInBounds_toArray, List.set_cons_zero, List.set_cons_succ, i64_w, i32_w]
      rfl
    refine pure_ (i := 5) (N := some 15) (v := ?_) (a' := ?_) #[true, false, false, false, false, true, false, false, false, false, false, false, false, false, false, false, false, false, false, false, false, false, false, false, false, false] rfl rfl (any_of HT_.out (by kernel_rfl)) (fun _ _ _ h => h) (Or.inl ⟨by rfl, ?_⟩) ?_ ?_
    rotate_left
    · intro w'
      go_simp
      with_reducible rfl
    rotate_left
    · simp only [Act.put, List.setIfInBounds_toArray, List.set_cons_zero, List.set_cons_succ, i64_w, i32_w]
      rfl
    refine pure_ (i := 10) (N := some 20) (v := ?_) (a' := ?_) #[true, false, false, false, false, true, false, false, false, false, true, false, false, false, false, false, false, false, false, false, false, false, false, false, false, false] rfl rfl (any_of HT_.out (by kernel_rfl)) (fun _ _ _ h => h) (Or.inl ⟨by rfl, ?_⟩) ?_ ?_
    rotate_left
    · intro w'
      go_simp
      with_reducible rfl
    rotate_left
    · simp only [Act.put, List.setIfInBounds_toArray, List.set_cons_zero, List.set_cons_succ, i64_w, i32_w]
      rfl
    refine pure_ (i := 15) (N := some 25) (v := ?_) (a' := ?_) #[true, false, false, false, false, true, false, false, false, false, true, false, false, false, false, true, false, false, false, false, false, false, false, false, false, false] rfl rfl (any_of HT_.out (by kernel_rfl)) (fun _ _ _ h => h) (Or.inl ⟨by rfl, ?_⟩) ?_ ?_
    rotate_left
    · intro w'
      go_simp
      with_reducible rfl
    rotate_left
    · simp only [Act.put, List.setIfInBounds_toArray, List.set_cons_zero, List.set_cons_succ, i64_w, i32_w]
      rfl
    refine pure_ (i := 20) (N := some 30) (v := ?_) (a' := ?_) #[true, false, false, false, false, true, false, false, false, false, true, false, false, false, false, true, false, false, false, false, true, false, false, false, false, false] rfl rfl (any_of HT_.out (by kernel_rfl)) (fun _ _ _ h => h) (Or.inl ⟨by rfl, ?_⟩) ?_ ?_
    rotate_left
    · intro w'
      go_simp
      with_reducible rfl
    rotate_left
    · simp only [Act.put, List.setIfInBounds_toArray, List.set_cons_zero, List.set_cons_succ, i64_w, i32_w]
      rfl
    refine take_ (i := 1) (N := some 11) (v := ?_) (a' := ?_) #[true, true, false, false, false, true, false, false, false, false, true, false, false, false, false, true, false, false, false, false, true, false, false, false, false, false] rfl rfl (take_ofW HT_.out HW_.out (by kernel_rfl)) (fun _ _ _ h => h) (Or.inl ⟨by rfl, ?_⟩) hHeld ?_ ?_
    rotate_left
    · rintro w' ⟨s0, s1, s2, s3, s4⟩
      go_simp
      with_reducible rfl
    rotate_left
    · simp only [Act.put, List.setIfInBounds_toArray, List.set_cons_zero, List.set_cons_succ, i64_w, i32_w]
      rfl
    refine take_ (i := 6) (N := some 16) (v := ?_) (a' := ?_) #[true, true, false, false, false, true, true, false, false, false, true, false, false, false, false, true, false, false, false, false, true, false, false, false, false, false] rfl rfl (take_ofW HT_.out HW_.out (by kernel_rfl)) (fun _ _ _ h => h) (Or.inl ⟨by rfl, ?_⟩) hHeld ?_ ?_
    rotate_left
    · rintro w' ⟨s0, s1, s2, s3, s4⟩
      go_simp
      with_reducible rfl
    rotate_left
    · simp only [Act.put, List.setIfInBounds_toArray, List.set_cons_zero, List.set_cons_succ, i64_w, i32_w]
      rfl
    refine take_ (i := 11) (N := some 21) (v := ?_) (a' := ?_) #[true, true, false, false, false, true, true, false, false, false, true, true, false, false, false, true, false, false, false, false, true, false, false, false, false, false] rfl rfl (take_ofW HT_.out HW_.out (by kernel_rfl)) (fun _ _ _ h => h) (Or.inl ⟨by rfl, ?_⟩) hHeld ?_ ?_
    rotate_left
    · rintro w' ⟨s0, s1, s2, s3, s4⟩
      go_simp
      with_reducible rfl
    rotate_left
    · simp only [Act.put, List.setIfInBounds_toArray, List.set_cons_zero, List.set_cons_succ, i64_w, i32_w]
      rfl
    refine take_ (i := 16) (N := some 26) (v := ?_) (a' := ?_) #[true, true, false, false, false, true, true, false, false, false, true, true, false, false, false, true, true, false, false, false, true, false, false, false, false, false] rfl rfl (take_ofW HT_.out HW_.out (by kernel_rfl)) (fun _ _ _ h => h) (Or.inl ⟨by rfl, ?_⟩) hHeld ?_ ?_
    rotate_left
    · rintro w' ⟨s0, s1, s2, s3, s4⟩
      go_simp
      with_reducible rfl
    rotate_left
    · simp only [Act.put, List.setIfInBounds_toArray, List.set_cons_zero, List.set_cons_succ, i64_w, i32_w]
      rfl
    refine take_ (i := 21) (N := some 31) (v := ?_) (a' := ?_) #[true, true, false, false, false, true, true, false, false, false, true, true, false, false, false, true, true, false, false, false, true, true, false, false, false, false] rfl rfl (take_ofW HT_.out HW_.out (by kernel_rfl)) (fun _ _ _ h => h) (Or.inl ⟨by rfl, ?_⟩) hHeld ?_ ?_
    rotate_left
    · rintro w' ⟨s0, s1, s2, s3, s4⟩
      go_simp
      with_reducible rfl
    rotate_left
    · simp only [Act.put, List.setIfInBounds_toArray, List.set_cons_zero, List.set_cons_succ, i64_w, i32_w]
      rfl
    refine one_ (i := 2) (N := some 12) #[true, true, true, false, false, true, true, false, false, false, true, true, false, false, false, true, true, false, false, false, true, true, false, false, false, false] rfl rfl (one_of HT_.out (by kernel_rfl)) (by decide) (fun K hK => ?_)
    refine goes_ Try.func27 (by kernel_rfl) rfl #[.int .i64 a0_0, .int .i64 2] (by rfl) rfl rfl (by (try simp only [List.map_toArray, List.map_cons, List.map_nil]); first | done | rfl | (simp only [List.length_drop, List.length_take]; rfl)) ?_
    with_reducible refine (impl_digitsOf.calls k a0_0 2 t0 _ A0.out).mono ?_
    rintro e w19 ⟨rfl, hb⟩
    refine ⟨_, rfl, ?_⟩
    replace HC := Aside0.mk (below_step HC.out hb)
    clear hb
    refine hK.out _ _ (hS.out _ HC.out) (fun hHeld => ?_)
    clear hK K
    refine norm_ (a' := ?_) ?_ ?_
    rotate_left
    · show Act.put _ (some 12) _ = _
      simp only [Act.put, List.setIfInBounds_toArray, List.set_cons_zero, List.set_cons_succ, i64_w, i32_w]
      rfl
    refine pure_ (i := 3) (N := some 13) (v := ?_) (a' := ?_) #[true, true, true, true, false, true, true, false, false, false, true, true, false, false, false, true, true, false, false, false, true, true, false, false, false, false] rfl rfl (any_of HT_.out (by kernel_rfl)) (fun _ _ _ h => h) (Or.inl ⟨by rfl, ?_⟩) ?_ ?_
    rotate_left
    · intro w'
      go_simp
      with_reducible rfl
    rotate_left
    · simp only [Act.put, List.setIfInBounds_toArray, List.set_cons_zero, List.set_cons_succ, i64_w, i32_w]
      rfl
    refine pure_ (i := 4) (N := some 14) (v := ?_) (a' := ?_) #[true, true, true, true, true, true, true, false, false, false, true, true, false, false, false, true, true, false, false, false, true, true, false, false, false, false] rfl rfl (any_of HT_.out (by kernel_rfl)) (fun _ _ _ h => h) (Or.inl ⟨by rfl, ?_⟩) ?_ ?_
    rotate_left
    · intro w'
      go_simp
      with_reducible rfl
    rotate_left
    · simp only [Act.put, List.setIfInBounds_toArray, List.set_cons_zero, List.set_cons_succ, i64_w, i32_w]
      rfl
    refine one_ (i := 7) (N := some 17) #[true, true, true, true, true, true, true, true, false, false, true, true, false, false, false, true, true, false, false, false, true, true, false, false, false, false] rfl rfl (one_of HT_.out (by kernel_rfl)) (by decide) (fun K hK => ?_)
    refine goes_ Try.func27 (by kernel_rfl) rfl #[.int .i64 a0_1, .int .i64 2] (by rfl) rfl rfl (by (try simp only [List.map_toArray, List.map_cons, List.map_nil]); first | done | rfl | (simp only [List.length_drop, List.length_take]; rfl)) ?_
    with_reducible refine (impl_digitsOf.calls k a0_1 2 t1 _ A1.out).mono ?_
    rintro e w19 ⟨rfl, hb⟩
    refine ⟨_, rfl, ?_⟩
    replace HC := Aside0.mk (below_step HC.out hb)
    clear hb
    refine hK.out _ _ (hS.out _ HC.out) (fun hHeld => ?_)
    clear hK K
    refine norm_ (a' := ?_) ?_ ?_
    rotate_left
    · show Act.put _ (some 17) _ = _
      simp only [Act.put, List.setIfInBounds_toArray, List.set_cons_zero, List.set_cons_succ, i64_w, i32_w]
      rfl
    refine pure_ (i := 8) (N := some 18) (v := ?_) (a' := ?_) #[true, true, true, true, true, true, true, true, true, false, true, true, false, false, false, true, true, false, false, false, true, true, false, false, false, false] rfl rfl (any_of HT_.out (by kernel_rfl)) (fun _ _ _ h => h) (Or.inl ⟨by rfl, ?_⟩) ?_ ?_
    rotate_left
    · intro w'
      go_simp
      with_reducible rfl
    rotate_left
    · simp only [Act.put, List.setIfInBounds_toArray, List.set_cons_zero, List.set_cons_succ, i64_w, i32_w]
      rfl
    refine pure_ (i := 9) (N := some 19) (v := ?_) (a' := ?_) #[true, true, true, true, true, true, true, true, true, true, true, true, false, false, false, true, true, false, false, false, true, true, false, false, false, false] rfl rfl (any_of HT_.out (by kernel_rfl)) (fun _ _ _ h => h) (Or.inl ⟨by rfl, ?_⟩) ?_ ?_
    rotate_left
    · intro w'
      go_simp
      with_reducible rfl
    rotate_left
    · simp only [Act.put, List.setIfInBounds_toArray, List.set_cons_zero, List.set_cons_succ, i64_w, i32_w]
      rfl
    refine one_ (i := 12) (N := some 22) #[true, true, true, true, true, true, true, true, true, true, true, true, true, false, false, true, true, false, false, false, true, true, false, false, false, false] rfl rfl (one_of HT_.out (by kernel_rfl)) (by decide) (fun K hK => ?_)
    refine goes_ Try.func27 (by kernel_rfl) rfl #[.int .i64 a0_2, .int .i64 2] (by rfl) rfl rfl (by (try simp only [List.map_toArray, List.map_cons, List.map_nil]); first | done | rfl | (simp only [List.length_drop, List.length_take]; rfl)) ?_
    with_reducible refine (impl_digitsOf.calls k a0_2 2 t2 _ A2.out).mono ?_
    rintro e w19 ⟨rfl, hb⟩
    refine ⟨_, rfl, ?_⟩
    replace HC := Aside0.mk (below_step HC.out hb)
    clear hb
    refine hK.out _ _ (hS.out _ HC.out) (fun hHeld => ?_)
    clear hK K
    refine norm_ (a' := ?_) ?_ ?_
    rotate_left
    · show Act.put _ (some 22) _ = _
      simp only [Act.put, List.setIfInBounds_toArray, List.set_cons_zero, List.set_cons_succ, i64_w, i32_w]
      rfl
    refine pure_ (i := 13) (N := some 23) (v := ?_) (a' := ?_) #[true, true, true, true, true, true, true, true, true, true, true, true, true, true, false, true, true, false, false, false, true, true, false, false, false, false] rfl rfl (any_of HT_.out (by kernel_rfl)) (fun _ _ _ h => h) (Or.inl ⟨by rfl, ?_⟩) ?_ ?_
    rotate_left
    · intro w'
      go_simp
      with_reducible rfl
    rotate_left
    · simp only [Act.put, List.setIfInBounds_toArray, List.set_cons_zero, List.set_cons_succ, i64_w, i32_w]
      rfl
    refine pure_ (i := 14) (N := some 24) (v := ?_) (a' := ?_) #[true, true, true, true, true, true, true, true, true, true, true, true, true, true, true, true, true, false, false, false, true, true, false, false, false, false] rfl rfl (any_of HT_.out (by kernel_rfl)) (fun _ _ _ h => h) (Or.inl ⟨by rfl, ?_⟩) ?_ ?_
    rotate_left
    · intro w'
      go_simp
      with_reducible rfl
    rotate_left
    · simp only [Act.put, List.setIfInBounds_toArray, List.set_cons_zero, List.set_cons_succ, i64_w, i32_w]
      rfl
    refine one_ (i := 17) (N := some 27) #[true, true, true, true, true, true, true, true, true, true, true, true, true, true, true, true, true, true, false, false, true, true, false, false, false, false] rfl rfl (one_of HT_.out (by kernel_rfl)) (by decide) (fun K hK => ?_)
    refine goes_ Try.func27 (by kernel_rfl) rfl #[.int .i64 a0_3, .int .i64 2] (by rfl) rfl rfl (by (try simp only [List.map_toArray, List.map_cons, List.map_nil]); first | done | rfl | (simp only [List.length_drop, List.length_take]; rfl)) ?_
    with_reducible refine (impl_digitsOf.calls k a0_3 2 t3 _ A3.out).mono ?_
    rintro e w19 ⟨rfl, hb⟩
    refine ⟨_, rfl, ?_⟩
    replace HC := Aside0.mk (below_step HC.out hb)
    clear hb
    refine hK.out _ _ (hS.out _ HC.out) (fun hHeld => ?_)
    clear hK K
    refine norm_ (a' := ?_) ?_ ?_
    rotate_left
    · show Act.put _ (some 27) _ = _
      simp only [Act.put, List.setIfInBounds_toArray, List.set_cons_zero, List.set_cons_succ, i64_w, i32_w]
      rfl
    refine pure_ (i := 18) (N := some 28) (v := ?_) (a' := ?_) #[true, true, true, true, true, true, true, true, true, true, true, true, true, true, true, true, true, true, true, false, true, true, false, false, false, false] rfl rfl (any_of HT_.out (by kernel_rfl)) (fun _ _ _ h => h) (Or.inl ⟨by rfl, ?_⟩) ?_ ?_
    rotate_left
    · intro w'
      go_simp
      with_reducible rfl
    rotate_left
    · simp only [Act.put, List.setIfInBounds_toArray, List.set_cons_zero, List.set_cons_succ, i64_w, i32_w]
      rfl
    refine pure_ (i := 19) (N := some 29) (v := ?_) (a' := ?_) #[true, true, true, true, true, true, true, true, true, true, true, true, true, true, true, true, true, true, true, true, true, true, false, false, false, false] rfl rfl (any_of HT_.out (by kernel_rfl)) (fun _ _ _ h => h) (Or.inl ⟨by rfl, ?_⟩) ?_ ?_
    rotate_left
    · intro w'
      go_simp
      with_reducible rfl
    rotate_left
    · simp only [Act.put, List.setIfInBounds_toArray, List.set_cons_zero, List.set_cons_succ, i64_w, i32_w]
      rfl
    refine one_ (i := 22) (N := some 32) #[true, true, true, true, true, true, true, true, true, true, true, true, true, true, true, true, true, true, true, true, true, true, true, false, false, false] rfl rfl (one_of HT_.out (by kernel_rfl)) (by decide) (fun K hK => ?_)
    refine goes_ Try.func27 (by kernel_rfl) rfl #[.int .i64 a0_4, .int .i64 4] (by rfl) rfl rfl (by (try simp only [List.map_toArray, List.map_cons, List.map_nil]); first | done | rfl | (simp only [List.length_drop, List.length_take]; rfl)) ?_
    with_reducible refine (impl_digitsOf.calls k a0_4 4 t4 _ A4.out).mono ?_
    rintro e w19 ⟨rfl, hb⟩
    refine ⟨_, rfl, ?_⟩
    replace HC := Aside0.mk (below_step HC.out hb)
    clear hb
    refine hK.out _ _ (hS.out _ HC.out) (fun hHeld => ?_)
    clear hK K
    refine norm_ (a' := ?_) ?_ ?_
    rotate_left
    · show Act.put _ (some 32) _ = _
      simp only [Act.put, List.setIfInBounds_toArray, List.set_cons_zero, List.set_cons_succ, i64_w, i32_w]
      rfl
    refine pure_ (i := 23) (N := some 33) (v := ?_) (a' := ?_) #[true, true, true, true, true, true, true, true, true, true, true, true, true, true, true, true, true, true, true, true, true, true, true, true, false, false] rfl rfl (any_of HT_.out (by kernel_rfl)) (fun _ _ _ h => h) (Or.inl ⟨by rfl, ?_⟩) ?_ ?_
    rotate_left
    · intro w'
      go_simp
      with_reducible rfl
    rotate_left
    · simp only [Act.put, List.setIfInBounds_toArray, List.set_cons_zero, List.set_cons_succ, i64_w, i32_w]
      rfl
    refine pure_ (i := 24) (N := some 34) (v := ?_) (a' := ?_) #[true, true, true, true, true, true, true, true, true, true, true, true, true, true, true, true, true, true, true, true, true, true, true, true, true, false] rfl rfl (any_of HT_.out (by kernel_rfl)) (fun _ _ _ h => h) (Or.inl ⟨by rfl, ?_⟩) ?_ ?_
    rotate_left
    · intro w'
      go_simp
      with_reducible rfl
    rotate_left
    · simp only [Act.put, List.setIfInBounds_toArray, List.set_cons_zero, List.set_cons_succ, i64_w, i32_w]
      rfl
    refine pure_ (i := 25) (N := some 3) (v := ?_) (a' := ?_) #[true, true, true, true, true, true, true, true, true, true, true, true, true, true, true, true, true, true, true, true, true, true, true, true, true, true] rfl rfl (any_of HT_.out (by kernel_rfl)) (fun _ _ _ h => h) (Or.inl ⟨by rfl, ?_⟩) ?_ ?_
    rotate_left
    · intro w'
      go_simp
      with_reducible rfl
    rotate_left
    · simp only [Act.put, List.setIfInBounds_toArray, List.set_cons_zero, List.set_cons_succ, i64_w, i32_w]
      rfl
    refine done_ (done_of HT_.out (by kernel_rfl)) ?_
    replace BK := Aside0.mk (blk_below BK.out HC.out)
    replace HB := Aside0.mk (below_step HB.out HC.out)
    clear hHeld HC hS HT_ HW_ A0 A1 A2 A3 A4
    clear e0b0 e0b1 e0b2 e0b7 e0b8 e0bA e1b0 e1b1 e1b2 e1b7 e1b8 e1bA e2b0 e2b1 e2b2 e2b7 e2b8 e2bA e3b0 e3b1 e3b2 e3b7 e3b8 e3bA e4b0 e4b1 e4b2 e4b7 e4b8 e4bA e5b0 e5b1 e5b2 e5b7 e5b8 e5bA e6b0 e6b1 e6b2 e6b7 e6b8 e6bA e7b0 e7b1 e7b2 e7b7 e7b8 e7bA e8b0 e8b1 e8b2 e8b7 e8b8 e8bA e9b0 e9b1 e9b2 e9b7 e9b8 e9bA AT ht
    go_upto_region 5 with (first | (go_at_call 17; (with_reducible refine (KF.fields_lit gb _).mono ?_); rintro e w20 ⟨rfl, hb⟩; have n0_ := Aside0.mk (blk_below (g := gb) (o := .cells #[.int .i64 a0_0, .int .i64 a0_1, .int .i64 a0_2, .int .i64 a0_3, .int .i64 a0_4, .int .i64 a0_5, .int .i64 a0_6, .int .i64 a0_7, .int .i64 a0_8, .int .i64 a0_9, .int .i64 a0_10] 23 (0, 0)) (by (with_reducible repeat (first | refine blk_drewN ?_ _ | refine blk_drew ?_ | refine blk_alloc ?_ _)); exact BK.out) hb); have n1_ := Aside0.mk (below_step (by repeat (first | (with_reducible first | exact HB.out | apply below_alloc | apply pw_below_drewN | apply below_drew1 | refine below_set ?_ GE.out) | exact HB.out)) hb); clear BK HB; have BK := n0_; have HB := n1_; clear n0_ n1_; (try clear hb)) | ((with_reducible refine gate_dst (N := 4) rfl ?_); refine box_event ?hg (N := 4) ?hd (cs := #[.pointer none, .pointer none, .pointer none, .pointer none, .pointer none, .pointer none, .pointer none, .pointer none, .pointer none, .pointer none, .pointer none]) (t := 42) ?hr ?_; (case hd => rfl); (case hg => rfl); (case hr => first | (go_simp; done) | (go_simp; rfl)); intro ga hg w21 hbox hb; have n0_ := Aside0.mk (below_step (by repeat (first | (with_reducible first | exact HB.out | apply below_alloc | apply pw_below_drewN | apply below_drew1 | refine below_set ?_ GE.out) | exact HB.out)) hb); have n1_ := Aside0.mk (hbox); have n2_ := Aside0.mk (blk_below (g := gb) (o := .cells #[.int .i64 a0_0, .int .i64 a0_1, .int .i64 a0_2, .int .i64 a0_3, .int .i64 a0_4, .int .i64 a0_5, .int .i64 a0_6, .int .i64 a0_7, .int .i64 a0_8, .int .i64 a0_9, .int .i64 a0_10] 23 (0, 0)) (by (with_reducible repeat (first | refine blk_drewN ?_ _ | refine blk_drew ?_ | refine blk_alloc ?_ _)); exact BK.out) hb); have n3_ := Aside0.mk ((by rw [hg]; exact (below_size (by repeat (first | (with_reducible first | exact HB.out | apply below_alloc | apply pw_below_drewN | apply below_drew1 | refine below_set ?_ GE.out) | exact HB.out))) : w.heap.size ≤ ga)); have n4_ := Aside0.mk (show gb ≠ ga by have := blk_lt BK.out; omega); clear HB BK; have HB := n0_; have BKA := n1_; have BK := n2_; have GA := n3_; have NE := n4_; clear n0_ n1_ n2_ n3_ n4_; clear hb hbox hg; have hs_0 : w21.cell? ⟨ga, 0, none⟩ = some (.pointer none) := (blk_cell BKA.out 0).trans rfl; have hfs_0 := blk_frozen BKA.out 0; have hs_1 : w21.cell? ⟨ga, 1, none⟩ = some (.pointer none) := (blk_cell BKA.out 1).trans rfl; have hfs_1 := blk_frozen BKA.out 1; have hs_2 : w21.cell? ⟨ga, 2, none⟩ = some (.pointer none) := (blk_cell BKA.out 2).trans rfl; have hfs_2 := blk_frozen BKA.out 2; have hs_3 : w21.cell? ⟨ga, 3, none⟩ = some (.pointer none) := (blk_cell BKA.out 3).trans rfl; have hfs_3 := blk_frozen BKA.out 3; have hs_4 : w21.cell? ⟨ga, 4, none⟩ = some (.pointer none) := (blk_cell BKA.out 4).trans rfl; have hfs_4 := blk_frozen BKA.out 4; have hs_5 : w21.cell? ⟨ga, 5, none⟩ = some (.pointer none) := (blk_cell BKA.out 5).trans rfl; have hfs_5 := blk_frozen BKA.out 5; have hs_6 : w21.cell? ⟨ga, 6, none⟩ = some (.pointer none) := (blk_cell BKA.out 6).trans rfl; have hfs_6 := blk_frozen BKA.out 6; have hs_7 : w21.cell? ⟨ga, 7, none⟩ = some (.pointer none) := (blk_cell BKA.out 7).trans rfl; have hfs_7 := blk_frozen BKA.out 7; have hs_8 : w21.cell? ⟨ga, 8, none⟩ = some (.pointer none) := (blk_cell BKA.out 8).trans rfl; have hfs_8 := blk_frozen BKA.out 8; have hs_9 : w21.cell? ⟨ga, 9, none⟩ = some (.pointer none) := (blk_cell BKA.out 9).trans rfl; have hfs_9 := blk_frozen BKA.out 9; have hs_10 : w21.cell? ⟨ga, 10, none⟩ = some (.pointer none) := (blk_cell BKA.out 10).trans rfl; have hfs_10 := blk_frozen BKA.out 10))
    try go_wp2
    clear hs_0 hfs_0 hs_1 hfs_1 hs_2 hfs_2 hs_3 hfs_3 hs_4 hfs_4 hs_5 hfs_5 hs_6 hfs_6 hs_7 hfs_7 hs_8 hfs_8 hs_9 hfs_9 hs_10 hfs_10
    have hhd : Aside0 ((impl_KnowText.head t0 t1 t2 t3 t4).size + 6 ≤ 10000 + 0) := by
      have hz := C8.out
      have z0 : (⟨#[65, 61]⟩ : ByteArray).size = 2 := rfl
      have z1 : (⟨#[32, 88, 61]⟩ : ByteArray).size = 3 := rfl
      have z2 : (⟨#[32, 89, 61]⟩ : ByteArray).size = 3 := rfl
      have z3 : (⟨#[32, 83, 61]⟩ : ByteArray).size = 3 := rfl
      have z4 : (⟨#[32, 80, 67, 61]⟩ : ByteArray).size = 4 := rfl
      have z5 : (⟨#[32]⟩ : ByteArray).size = 1 := rfl
      refine ⟨?_⟩
      unfold impl_KnowText.head
      simp only [ByteArray.size_append, z0, z1, z2, z3, z4, z5]
      omega
    go_loopg [3, 38] 7 (fun kq v3 v38 w' => ∃ (acc : ByteArray) (i : Nat), v3 = .string acc ∧ v38 = .int .i64 (i : Int) ∧ Aside0 (kq + i = 7 ∧ i ≤ 6 ∧ acc.size + 6 ≤ 10000 + i ∧ impl_KnowText.signs (([a0_5, a0_6, a0_7, a0_8, a0_9, a0_10] : List Int).drop i) i acc = r) ∧ Aside0 (w'.heap[gb]? = some (.cells #[.int .i64 a0_0, .int .i64 a0_1, .int .i64 a0_2, .int .i64 a0_3, .int .i64 a0_4, .int .i64 a0_5, .int .i64 a0_6, .int .i64 a0_7, .int .i64 a0_8, .int .i64 a0_9, .int .i64 a0_10] 23 (0, 0))) ∧ Aside0 (w'.heap[ga]? = some (.cells (KF.ptrs gb) 42 (0, 0))) ∧ Aside0 (Below w.heap.size w w'))
    case atStart => exact ⟨impl_KnowText.head t0 t1 t2 t3 t4, 0, rfl, (by first | rfl | (simp; done) | (simp [*]; done)), ⟨rfl, by omega, hhd.out, H.out⟩, ⟨by (with_reducible repeat (refine blk_far ?_ NE.out _)); exact BK.out⟩, ⟨by refine blk_put (cs := #[.pointer (some ⟨gb, 0, none⟩), .pointer (some ⟨gb, 1, none⟩), .pointer (some ⟨gb, 2, none⟩), .pointer (some ⟨gb, 3, none⟩), .pointer (some ⟨gb, 4, none⟩), .pointer (some ⟨gb, 5, none⟩), .pointer (some ⟨gb, 6, none⟩), .pointer (some ⟨gb, 7, none⟩), .pointer (some ⟨gb, 8, none⟩), .pointer (some ⟨gb, 9, none⟩), .pointer none]) ?_ 10 _ rfl; refine blk_put (cs := #[.pointer (some ⟨gb, 0, none⟩), .pointer (some ⟨gb, 1, none⟩), .pointer (some ⟨gb, 2, none⟩), .pointer (some ⟨gb, 3, none⟩), .pointer (some ⟨gb, 4, none⟩), .pointer (some ⟨gb, 5, none⟩), .pointer (some ⟨gb, 6, none⟩), .pointer (some ⟨gb, 7, none⟩), .pointer (some ⟨gb, 8, none⟩), .pointer none, .pointer none]) ?_ 9 _ rfl; refine blk_put (cs := #[.pointer (some ⟨gb, 0, none⟩), .pointer (some ⟨gb, 1, none⟩), .pointer (some ⟨gb, 2, none⟩), .pointer (some ⟨gb, 3, none⟩), .pointer (some ⟨gb, 4, none⟩), .pointer (some ⟨gb, 5, none⟩), .pointer (some ⟨gb, 6, none⟩), .pointer (some ⟨gb, 7, none⟩), .pointer none, .pointer none, .pointer none]) ?_ 8 _ rfl; refine blk_put (cs := #[.pointer (some ⟨gb, 0, none⟩), .pointer (some ⟨gb, 1, none⟩), .pointer (some ⟨gb, 2, none⟩), .pointer (some ⟨gb, 3, none⟩), .pointer (some ⟨gb, 4, none⟩), .pointer (some ⟨gb, 5, none⟩), .pointer (some ⟨gb, 6, none⟩), .pointer none, .pointer none, .pointer none, .pointer none]) ?_ 7 _ rfl; refine blk_put (cs := #[.pointer (some ⟨gb, 0, none⟩), .pointer (some ⟨gb, 1, none⟩), .pointer (some ⟨gb, 2, none⟩), .pointer (some ⟨gb, 3, none⟩), .pointer (some ⟨gb, 4, none⟩), .pointer (some ⟨gb, 5, none⟩), .pointer none, .pointer none, .pointer none, .pointer none, .pointer none]) ?_ 6 _ rfl; refine blk_put (cs := #[.pointer (some ⟨gb, 0, none⟩), .pointer (some ⟨gb, 1, none⟩), .pointer (some ⟨gb, 2, none⟩), .pointer (some ⟨gb, 3, none⟩), .pointer (some ⟨gb, 4, none⟩), .pointer none, .pointer none, .pointer none, .pointer none, .pointer none, .pointer none]) ?_ 5 _ rfl; refine blk_put (cs := #[.pointer (some ⟨gb, 0, none⟩), .pointer (some ⟨gb, 1, none⟩), .pointer (some ⟨gb, 2, none⟩), .pointer (some ⟨gb, 3, none⟩), .pointer none, .pointer none, .pointer none, .pointer none, .pointer none, .pointer none, .pointer none]) ?_ 4 _ rfl; refine blk_put (cs := #[.pointer (some ⟨gb, 0, none⟩), .pointer (some ⟨gb, 1, none⟩), .pointer (some ⟨gb, 2, none⟩), .pointer none, .pointer none, .pointer none, .pointer none, .pointer none, .pointer none, .pointer none, .pointer none]) ?_ 3 _ rfl; refine blk_put (cs := #[.pointer (some ⟨gb, 0, none⟩), .pointer (some ⟨gb, 1, none⟩), .pointer none, .pointer none, .pointer none, .pointer none, .pointer none, .pointer none, .pointer none, .pointer none, .pointer none]) ?_ 2 _ rfl; refine blk_put (cs := #[.pointer (some ⟨gb, 0, none⟩), .pointer none, .pointer none, .pointer none, .pointer none, .pointer none, .pointer none, .pointer none, .pointer none, .pointer none, .pointer none]) ?_ 1 _ rfl; refine blk_put (cs := #[.pointer none, .pointer none, .pointer none, .pointer none, .pointer none, .pointer none, .pointer none, .pointer none, .pointer none, .pointer none, .pointer none]) ?_ 0 _ rfl; exact BKA.out⟩, ⟨by repeat (first | (with_reducible first | exact HB.out | apply below_alloc | apply pw_below_drewN | apply below_drew1 | refine below_set ?_ GE.out | refine below_set ?_ GA.out) | exact HB.out)⟩⟩
    case round =>
      clear H hhd C8 BK BKA HB
      obtain ⟨acc, i, rfl, rfl, HA, BK, BKA, HB⟩ := hrel
      obtain ⟨hk, hi, hz, hr⟩ := HA.out
      clear HA
      by_cases c : i < 6
      · have c0 : decide ((i : Int) < 6) = true := decide_eq_true (by omega)
        obtain ⟨x, hx, hs⟩ := impl_KnowText.part a0_0 a0_1 a0_2 a0_3 a0_4 a0_5 a0_6 a0_7 a0_8 a0_9 a0_10 i c
        rw [hs acc] at hr
        clear hs
        cases gk with
        | zero => omega
        | succ k1 =>
          have hw1 : wrap64 ((i : Int) + 1) = ((i + 1 : Nat) : Int) := by unfold wrap64; omega
          have hcell : wr.cell? ⟨gb, 5 + i, none⟩ = some (.int .i64 x) := (blk_cell BK.out (5 + i)).trans hx
          have hpt : wr.cell? ⟨ga, 5 + i, none⟩ = some (.pointer (some ⟨gb, 5 + i, none⟩)) := (blk_cell BKA.out (5 + i)).trans (impl_KnowText.ptr gb i c)
          clear hx
          have i0 : (0 ≤ (i : Int)) = True := eq_true (by omega)
          have i1 : ((i : Int) < 6) = True := eq_true (by omega)
          have i2 : (i < 6) = True := eq_true c
          have hac : acc.size ≤ 10000 := by omega
          by_cases h0 : x = -1
          · subst h0
            have he : Aside0 ((⟨#[63]⟩ : ByteArray).size = 1) := ⟨rfl⟩
            have H : Aside0 (impl_KnowText.signs (([a0_5, a0_6, a0_7, a0_8, a0_9, a0_10] : List Int).drop (i + 1)) (i + 1) (acc ++ (⟨#[63]⟩ : ByteArray)) = r) := ⟨hr⟩
            clear hr
            have e : acc.size + 1 ≤ 9223372036854775807 := by omega
            have eb0 := eq_true e
            have eb1 := decide_eq_true e
            have eb2 : (9223372036854775807 < acc.size + 1) = False := eq_false (Nat.not_lt.2 e)
            clear e
            go_wp2
            repeat (go_quiet (fail); try go_wp2)
            go_roundg k1
            case measure => omega
            case rel => exact ⟨(acc ++ (⟨#[63]⟩ : ByteArray)), i + 1, (by first | rfl | (simp; done) | (simp [*]; done)), (by first | rfl | (simp only [hw1]; done) | (simp [hw1]; done)), ⟨by omega, by omega, by rw [ByteArray.size_append]; have := he.out; omega, H.out⟩, ⟨by (with_reducible repeat (first | refine blk_drewN ?_ _ | refine blk_drew ?_ | refine blk_alloc ?_ _)); exact BK.out⟩, ⟨by (with_reducible repeat (first | refine blk_drewN ?_ _ | refine blk_drew ?_ | refine blk_alloc ?_ _)); exact BKA.out⟩, ⟨by repeat (first | (with_reducible first | exact HB.out | apply below_alloc | apply pw_below_drewN | apply below_drew1 | refine below_set ?_ GE.out | refine below_set ?_ GA.out) | exact HB.out)⟩⟩
          have b0 : (x == -1) = false := beq_eq_false_iff_ne.mpr h0
          by_cases h1 : x = 0
          · subst h1
            have he : Aside0 ((⟨#[45]⟩ : ByteArray).size = 1) := ⟨rfl⟩
            have H : Aside0 (impl_KnowText.signs (([a0_5, a0_6, a0_7, a0_8, a0_9, a0_10] : List Int).drop (i + 1)) (i + 1) (acc ++ (⟨#[45]⟩ : ByteArray)) = r) := ⟨hr⟩
            clear hr
            have e : acc.size + 1 ≤ 9223372036854775807 := by omega
            have eb0 := eq_true e
            have eb1 := decide_eq_true e
            have eb2 : (9223372036854775807 < acc.size + 1) = False := eq_false (Nat.not_lt.2 e)
            clear e
            go_wp2
            repeat (go_quiet (fail); try go_wp2)
            go_roundg k1
            case measure => omega
            case rel => exact ⟨(acc ++ (⟨#[45]⟩ : ByteArray)), i + 1, (by first | rfl | (simp; done) | (simp [*]; done)), (by first | rfl | (simp only [hw1]; done) | (simp [hw1]; done)), ⟨by omega, by omega, by rw [ByteArray.size_append]; have := he.out; omega, H.out⟩, ⟨by (with_reducible repeat (first | refine blk_drewN ?_ _ | refine blk_drew ?_ | refine blk_alloc ?_ _)); exact BK.out⟩, ⟨by (with_reducible repeat (first | refine blk_drewN ?_ _ | refine blk_drew ?_ | refine blk_alloc ?_ _)); exact BKA.out⟩, ⟨by repeat (first | (with_reducible first | exact HB.out | apply below_alloc | apply pw_below_drewN | apply below_drew1 | refine below_set ?_ GE.out | refine below_set ?_ GA.out) | exact HB.out)⟩⟩
          have b1 : (x == 0) = false := beq_eq_false_iff_ne.mpr h1
          have he : Aside0 (((⟨#[78, 86, 68, 73, 90, 67]⟩ : ByteArray).extract i (i + 1)).size ≤ 1) := ⟨by rw [ByteArray.size_extract]; omega⟩
          have H : Aside0 (impl_KnowText.signs (([a0_5, a0_6, a0_7, a0_8, a0_9, a0_10] : List Int).drop (i + 1)) (i + 1) (acc ++ ((⟨#[78, 86, 68, 73, 90, 67]⟩ : ByteArray).extract i (i + 1))) = r) := ⟨by unfold impl_KnowText.sign at hr; rw [if_neg h0, if_neg h1] at hr; exact hr⟩
          clear hr
          have g5 : (i : Int) ≤ (i : Int) + 1 := by omega
          have g6 : (i : Int) + 1 ≤ 6 := by omega
          have hei := he.out
          have e : acc.size + ((⟨#[78, 86, 68, 73, 90, 67]⟩ : ByteArray).extract i (i + 1)).size ≤ 9223372036854775807 := by omega
          have eb0 := eq_true e
          have eb1 := decide_eq_true e
          have eb2 : (9223372036854775807 < acc.size + ((⟨#[78, 86, 68, 73, 90, 67]⟩ : ByteArray).extract i (i + 1)).size) = False := eq_false (Nat.not_lt.2 e)
          clear e
          clear hei
          have eX : (9223372036854775807 < acc.size + (i + 1 - i)) = False := eq_false (by omega)
          have eZ : (9223372036854775807 < acc.size + (min (i + 1) 6 - i)) = False := eq_false (by omega)
          have g5b0 := decide_eq_true g5
          replace g5 := eq_true g5
          have g6b0 := decide_eq_true g6
          replace g6 := eq_true g6
          go_wp2
          repeat (go_quiet (fail); try go_wp2)
          go_roundg k1
          case measure => omega
          case rel => exact ⟨(acc ++ ((⟨#[78, 86, 68, 73, 90, 67]⟩ : ByteArray).extract i (i + 1))), i + 1, (by first | rfl | (simp; done) | (simp [*]; done)), (by first | rfl | (simp only [hw1]; done) | (simp [hw1]; done)), ⟨by omega, by omega, by rw [ByteArray.size_append]; have := he.out; omega, H.out⟩, ⟨by (with_reducible repeat (first | refine blk_drewN ?_ _ | refine blk_drew ?_ | refine blk_alloc ?_ _)); exact BK.out⟩, ⟨by (with_reducible repeat (first | refine blk_drewN ?_ _ | refine blk_drew ?_ | refine blk_alloc ?_ _)); exact BKA.out⟩, ⟨by repeat (first | (with_reducible first | exact HB.out | apply below_alloc | apply pw_below_drewN | apply below_drew1 | refine below_set ?_ GE.out | refine below_set ?_ GA.out) | exact HB.out)⟩⟩
      · have c0 : decide ((i : Int) < 6) = false := decide_eq_false (by omega)
        obtain rfl : i = 6 := by omega
        replace hr : acc = r := hr
        subst hr
        go_wp2
        repeat (go_quiet (fail); try go_wp2)
        go_ret
        exact ⟨by first | rfl | (simp; done), by repeat (first | (with_reducible first | exact HB.out | apply below_alloc | apply pw_below_drewN | apply below_drew1 | refine below_set ?_ GE.out | refine below_set ?_ GA.out) | exact HB.out)⟩

/-! ### impl_nothing: function 15 -/
def impl_nothing.f  : Option (Int × Int × Int × Int × Int × Int × Int × Int × Int × Int × Int) := some ((-1), (-1), (-1), (-1), (-1), (-1), (-1), (-1), (-1), (-1), (-1))
set_option maxHeartbeats 8000000 in
set_option maxRecDepth 100000 in
theorem impl_nothing.calls  (r1 : Int) (r2 : Int) (r3 : Int) (r4 : Int) (r5 : Int) (r6 : Int) (r7 : Int) (r8 : Int) (r9 : Int) (r10 : Int) (r11 : Int) (w : World) (h : impl_nothing.f  = some (r1, r2, r3, r4, r5, r6, r7, r8, r9, r10, r11)) :
  Calls Try.prog 15 #[] w fun e w' => e = .returned (.agg #[.int .i64 r1, .int .i64 r2, .int .i64 r3, .int .i64 r4, .int .i64 r5, .int .i64 r6, .int .i64 r7, .int .i64 r8, .int .i64 r9, .int .i64 r10, .int .i64 r11]) ∧ Below w.heap.size w w' := by
 have hu23 := Try.underlying23
 have HB := Aside0.mk (Below.refl w.heap.size w)
 have H : (some ((-1), (-1), (-1), (-1), (-1), (-1), (-1), (-1), (-1), (-1), (-1))) = some (r1, r2, r3, r4, r5, r6, r7, r8, r9, r10, r11) := h
 clear h
 simp only [Option.some.injEq, Prod.mk.injEq] at H
 obtain ⟨rfl, rfl, rfl, rfl, rfl, rfl, rfl, rfl, rfl, rfl, rfl⟩ := H
 go_enter Try.func15, Try.ntmps15
 go_wp2_with (first | ((with_reducible refine gate_dst (N := 0) rfl ?_); refine box_event ?hg (N := 0) ?hd (cs := #[.int .i64 0, .int .i64 0, .int .i64 0, .int .i64 0, .int .i64 0, .int .i64 0, .int .i64 0, .int .i64 0, .int .i64 0, .int .i64 0, .int .i64 0]) (t := 23) ?hr ?_; (case hd => rfl); (case hg => rfl); (case hr => first | (go_simp; done) | (go_simp; rfl)); intro gb144 hg w1 hbox hb; have n0_ := Aside0.mk (below_step (by repeat (first | (with_reducible first | exact HB.out | apply below_alloc | apply pw_below_drewN | apply below_drew1) | exact HB.out)) hb); have n1_ := Aside0.mk (hbox); have n2_ := Aside0.mk ((by rw [hg]; exact (below_size (by repeat (first | (with_reducible first | exact HB.out | apply below_alloc | apply pw_below_drewN | apply below_drew1) | exact HB.out))) : w.heap.size ≤ gb144)); have n3_ := Aside0.mk ((by rw [hg]; exact (below_size (by repeat (first | (with_reducible first | exact HB.out | apply below_alloc | apply pw_below_drewN | apply below_drew1) | exact HB.out))) : w.heap.size ≤ gb144)); clear HB; have HB := n0_; have BK144 := n1_; have GW144 := n2_; have GE144 := n3_; clear n0_ n1_ n2_ n3_; clear hb hbox hg; have hcz2_0 : w1.cell? ⟨gb144, 0, none⟩ = some (.int .i64 0) := (blk_cell BK144.out 0).trans rfl; have hcz2_1 : w1.cell? ⟨gb144, 1, none⟩ = some (.int .i64 0) := (blk_cell BK144.out 1).trans rfl; have hcz2_2 : w1.cell? ⟨gb144, 2, none⟩ = some (.int .i64 0) := (blk_cell BK144.out 2).trans rfl; have hcz2_3 : w1.cell? ⟨gb144, 3, none⟩ = some (.int .i64 0) := (blk_cell BK144.out 3).trans rfl; have hcz2_4 : w1.cell? ⟨gb144, 4, none⟩ = some (.int .i64 0) := (blk_cell BK144.out 4).trans rfl; have hcz2_5 : w1.cell? ⟨gb144, 5, none⟩ = some (.int .i64 0) := (blk_cell BK144.out 5).trans rfl; have hcz2_6 : w1.cell? ⟨gb144, 6, none⟩ = some (.int .i64 0) := (blk_cell BK144.out 6).trans rfl; have hcz2_7 : w1.cell? ⟨gb144, 7, none⟩ = some (.int .i64 0) := (blk_cell BK144.out 7).trans rfl; have hcz2_8 : w1.cell? ⟨gb144, 8, none⟩ = some (.int .i64 0) := (blk_cell BK144.out 8).trans rfl; have hcz2_9 : w1.cell? ⟨gb144, 9, none⟩ = some (.int .i64 0) := (blk_cell BK144.out 9).trans rfl; have hcz2_10 : w1.cell? ⟨gb144, 10, none⟩ = some (.int .i64 0) := (blk_cell BK144.out 10).trans rfl; have hfz2_0 := blk_frozen BK144.out 0; have hfz2_1 := blk_frozen BK144.out 1; have hfz2_2 := blk_frozen BK144.out 2; have hfz2_3 := blk_frozen BK144.out 3; have hfz2_4 := blk_frozen BK144.out 4; have hfz2_5 := blk_frozen BK144.out 5; have hfz2_6 := blk_frozen BK144.out 6; have hfz2_7 := blk_frozen BK144.out 7; have hfz2_8 := blk_frozen BK144.out 8; have hfz2_9 := blk_frozen BK144.out 9; have hfz2_10 := blk_frozen BK144.out 10))
 refine bodyPost_ret (results_cell_row rfl _ _ gb144 23 #[.int .i64 (-1), .int .i64 (-1), .int .i64 (-1), .int .i64 (-1), .int .i64 (-1), .int .i64 (-1), .int .i64 (-1), .int .i64 (-1), .int .i64 (-1), .int .i64 (-1), .int .i64 (-1)] (0, 0) _ rfl (by (with_reducible repeat (first | refine blk_drewN ?_ _ | refine blk_drew ?_ | refine blk_alloc ?_ _)); refine blk_put (cs := #[.int .i64 (-1), .int .i64 (-1), .int .i64 (-1), .int .i64 (-1), .int .i64 (-1), .int .i64 (-1), .int .i64 (-1), .int .i64 (-1), .int .i64 (-1), .int .i64 (-1), .int .i64 0]) ?_ 10 _ rfl; (with_reducible repeat (first | refine blk_drewN ?_ _ | refine blk_drew ?_ | refine blk_alloc ?_ _)); refine blk_put (cs := #[.int .i64 (-1), .int .i64 (-1), .int .i64 (-1), .int .i64 (-1), .int .i64 (-1), .int .i64 (-1), .int .i64 (-1), .int .i64 (-1), .int .i64 (-1), .int .i64 0, .int .i64 0]) ?_ 9 _ rfl; (with_reducible repeat (first | refine blk_drewN ?_ _ | refine blk_drew ?_ | refine blk_alloc ?_ _)); refine blk_put (cs := #[.int .i64 (-1), .int .i64 (-1), .int .i64 (-1), .int .i64 (-1), .int .i64 (-1), .int .i64 (-1), .int .i64 (-1), .int .i64 (-1), .int .i64 0, .int .i64 0, .int .i64 0]) ?_ 8 _ rfl; (with_reducible repeat (first | refine blk_drewN ?_ _ | refine blk_drew ?_ | refine blk_alloc ?_ _)); refine blk_put (cs := #[.int .i64 (-1), .int .i64 (-1), .int .i64 (-1), .int .i64 (-1), .int .i64 (-1), .int .i64 (-1), .int .i64 (-1), .int .i64 0, .int .i64 0, .int .i64 0, .int .i64 0]) ?_ 7 _ rfl; (with_reducible repeat (first | refine blk_drewN ?_ _ | refine blk_drew ?_ | refine blk_alloc ?_ _)); refine blk_put (cs := #[.int .i64 (-1), .int .i64 (-1), .int .i64 (-1), .int .i64 (-1), .int .i64 (-1), .int .i64 (-1), .int .i64 0, .int .i64 0, .int .i64 0, .int .i64 0, .int .i64 0]) ?_ 6 _ rfl; (with_reducible repeat (first | refine blk_drewN ?_ _ | refine blk_drew ?_ | refine blk_alloc ?_ _)); refine blk_put (cs := #[.int .i64 (-1), .int .i64 (-1), .int .i64 (-1), .int .i64 (-1), .int .i64 (-1), .int .i64 0, .int .i64 0, .int .i64 0, .int .i64 0, .int .i64 0, .int .i64 0]) ?_ 5 _ rfl; (with_reducible repeat (first | refine blk_drewN ?_ _ | refine blk_drew ?_ | refine blk_alloc ?_ _)); refine blk_put (cs := #[.int .i64 (-1), .int .i64 (-1), .int .i64 (-1), .int .i64 (-1), .int .i64 0, .int .i64 0, .int .i64 0, .int .i64 0, .int .i64 0, .int .i64 0, .int .i64 0]) ?_ 4 _ rfl; (with_reducible repeat (first | refine blk_drewN ?_ _ | refine blk_drew ?_ | refine blk_alloc ?_ _)); refine blk_put (cs := #[.int .i64 (-1), .int .i64 (-1), .int .i64 (-1), .int .i64 0, .int .i64 0, .int .i64 0, .int .i64 0, .int .i64 0, .int .i64 0, .int .i64 0, .int .i64 0]) ?_ 3 _ rfl; (with_reducible repeat (first | refine blk_drewN ?_ _ | refine blk_drew ?_ | refine blk_alloc ?_ _)); refine blk_put (cs := #[.int .i64 (-1), .int .i64 (-1), .int .i64 0, .int .i64 0, .int .i64 0, .int .i64 0, .int .i64 0, .int .i64 0, .int .i64 0, .int .i64 0, .int .i64 0]) ?_ 2 _ rfl; (with_reducible repeat (first | refine blk_drewN ?_ _ | refine blk_drew ?_ | refine blk_alloc ?_ _)); refine blk_put (cs := #[.int .i64 (-1), .int .i64 0, .int .i64 0, .int .i64 0, .int .i64 0, .int .i64 0, .int .i64 0, .int .i64 0, .int .i64 0, .int .i64 0, .int .i64 0]) ?_ 1 _ rfl; (with_reducible repeat (first | refine blk_drewN ?_ _ | refine blk_drew ?_ | refine blk_alloc ?_ _)); refine blk_put (cs := #[.int .i64 0, .int .i64 0, .int .i64 0, .int .i64 0, .int .i64 0, .int .i64 0, .int .i64 0, .int .i64 0, .int .i64 0, .int .i64 0, .int .i64 0]) ?_ 0 _ rfl; (with_reducible repeat (first | refine blk_drewN ?_ _ | refine blk_drew ?_ | refine blk_alloc ?_ _)); exact BK144.out) Try.underlying23 rfl (by kernel_rfl)) rfl ?_
 exact ⟨by first | rfl | (simp [errW_none, errW_some] <;> rfl) | (simp [*, errW_none, errW_some] <;> rfl), by repeat (first | (with_reducible first | exact HB.out | apply below_alloc | apply pw_below_drewN | apply below_drew1 | refine below_set ?_ GE144.out) | exact HB.out)⟩

/-! ### strings_IndexByte: function 29 -/
def strings_IndexByte.f (a0 : ByteArray) (a1 : Int) : Option (Int) := some (Lib.indexByte a0.data.toList a1.toNat.toUInt8)
theorem strings_IndexByte.calls (a0 : ByteArray) (a1 : Int) (r : Int) (w : World) (h : strings_IndexByte.f a0 a1 = some r) :
    Calls Try.prog 29 #[.string a0, .int .u8 a1] w fun e w' => e = .returned (.int .i64 r) ∧ Below w.heap.size w w' := by
  obtain rfl := Option.some.inj h
  exact (Try.strings_IndexByte a0 a1 w).mono fun e w' hd => ⟨hd.1, by rw [hd.2]; exact Below.refl _ _⟩

/-! ### impl_ReadHex: function 16 -/
mutual
def impl_ReadHex.j0 : Nat → ByteArray → Int → Bool → Option (Int)
 | 0, _, _, _ => none
 | k + 1, x0, x1, x16 => if x16 = true then (some (-1)) else (impl_ReadHex.l0 k x0 0 x1 0)
def impl_ReadHex.l0 : Nat → ByteArray → Int → Int → Int → Option (Int)
 | 0, _, _, _, _ => none
 | k + 1, x0, x5, x17, x18 => if x18 < x17 then (if 0 ≤ x18 then (if x18 < (x0.size : Int) then ((strings_IndexByte.f (⟨#[48, 49, 50, 51, 52, 53, 54, 55, 56, 57, 65, 66, 67, 68, 69, 70]⟩ : ByteArray) (bt x0 x18)).bind fun t146 => (if t146 < 0 then (some (-1)) else (impl_ReadHex.l0 k x0 (wrap64 ((wrap64 (16 * x5)) + t146)) x17 (wrap64 (x18 + 1))))) else (none)) else (none)) else (some x5)
end
def impl_ReadHex.f (k : Nat) (a0 : ByteArray) (a1 : Int) : Option (Int) := (impl_within.f a1 1 8).bind fun t145 => (if t145 = true then (impl_ReadHex.j0 k a0 a1 ((a0.size : Int) != a1)) else (impl_ReadHex.j0 k a0 a1 true))
theorem impl_ReadHex.mono_l : ∀ k, (∀ y0 y1 y2, LeO (impl_ReadHex.j0 k y0 y1 y2) (impl_ReadHex.j0 (k + 1) y0 y1 y2)) ∧ (∀ y0 y1 y2 y3, LeO (impl_ReadHex.l0 k y0 y1 y2 y3) (impl_ReadHex.l0 (k + 1) y0 y1 y2 y3))
 | 0 => ⟨fun _ _ _ r h => by simp [impl_ReadHex.j0] at h, fun _ _ _ _ r h => by simp [impl_ReadHex.l0] at h⟩
 | k + 1 => by
  obtain ⟨ih0, ih1⟩ := impl_ReadHex.mono_l k
  refine ⟨?_, ?_⟩
  ·intro y0 y1 y2
   unfold impl_ReadHex.j0
   repeat' first
   | (with_reducible exact ih0 _ _ _)
   | (with_reducible exact ih1 _ _ _ _)
   | (with_reducible exact LeO.refl _)
   | (with_reducible exact LeO.none _)
   | (with_reducible refine LeO.ite ?_ ?_)
   | (with_reducible refine LeO.bind ?_ (fun _ => ?_))
   | exact ih0 _ _ _
   | exact ih1 _ _ _ _
   | exact LeO.none _
   | refine LeO.ite ?_ ?_
   | refine LeO.bind ?_ (fun _ => ?_)
  ·intro y0 y1 y2 y3
   unfold impl_ReadHex.l0
   repeat' first
   | (with_reducible exact ih0 _ _ _)
   | (with_reducible exact ih1 _ _ _ _)
   | (with_reducible exact LeO.refl _)
   | (with_reducible exact LeO.none _)
   | (with_reducible refine LeO.ite ?_ ?_)
   | (with_reducible refine LeO.bind ?_ (fun _ => ?_))
   | exact ih0 _ _ _
   | exact ih1 _ _ _ _
   | exact LeO.none _
   | refine LeO.ite ?_ ?_
   | refine LeO.bind ?_ (fun _ => ?_)
theorem impl_ReadHex.mono : ∀ a0 a1 k, LeO (impl_ReadHex.f k a0 a1) (impl_ReadHex.f (k + 1) a0 a1) := by
 intro a0 a1 k
 obtain ⟨ih0, ih1⟩ := impl_ReadHex.mono_l k
 unfold impl_ReadHex.f
 repeat' first
   | (with_reducible exact ih0 _ _ _)
   | (with_reducible exact ih1 _ _ _ _)
   | (with_reducible exact LeO.refl _)
   | (with_reducible exact LeO.none _)
   | (with_reducible refine LeO.ite ?_ ?_)
   | (with_reducible refine LeO.bind ?_ (fun _ => ?_))
   | exact ih0 _ _ _
   | exact ih1 _ _ _ _
   | exact LeO.none _
   | refine LeO.ite ?_ ?_
   | refine LeO.bind ?_ (fun _ => ?_)
set_option maxHeartbeats 8000000 in
set_option maxRecDepth 100000 in
theorem impl_ReadHex.calls (k : Nat) (a0 : ByteArray) (a1 : Int) (r : Int) (w : World) (h : impl_ReadHex.f k a0 a1 = some r) :
  Calls Try.prog 16 #[.string a0, .int .i64 a1] w fun e w' => e = .returned (.int .i64 r) ∧ Below w.heap.size w w' := by
 have HB := Aside0.mk (Below.refl w.heap.size w)
 have H : ((impl_within.f a1 1 8).bind fun t145 => (if t145 = true then (impl_ReadHex.j0 k a0 a1 ((a0.size : Int) != a1)) else (impl_ReadHex.j0 k a0 a1 true))) = some r := h
 clear h
 have HC3 := Aside0.mk H
 clear H
 go_enter Try.func16, Try.ntmps16
 go_upto_region 1 with (fail)
 go_cut [16] (fun v16 wc => ∃ (kq : Nat) (x16_2 : Bool), v16 = .bool x16_2 ∧ Aside0 (impl_ReadHex.j0 kq a0 a1 x16_2 = some r) ∧ Aside0 (kq ≤ k) ∧ Aside0 (Below w.heap.size w wc))
 case first =>
  have H := HC3.out
  clear HC3
  replace H := Option.bind_eq_some_iff.mp H
  obtain ⟨t145, A40, H⟩ := H
  replace H : (if t145 = true then (impl_ReadHex.j0 k a0 a1 ((a0.size : Int) != a1)) else (impl_ReadHex.j0 k a0 a1 true)) = some r := H
  have A4 := Aside0.mk A40
  clear A40
  by_cases c5 : t145 = true
  ·subst c5
   have H1 : (impl_ReadHex.j0 k a0 a1 ((a0.size : Int) != a1)) = some r := by rw [if_pos rfl] at H; exact H
   clear H
   have H := H1
   clear H1
   have H' := Aside0.mk H
   clear H
   go_wp2_with (first | ((with_reducible refine gate_callee (f := 28) rfl ?_); refine goesL_ (some 9) rfl rfl Try.func28 (by kernel_rfl) rfl #[.int .i64 a1, .int .i64 1, .int .i64 8] rfl (by (try simp only [List.map_toArray, List.map_cons, List.map_nil]); first | done | rfl | (simp only [List.length_drop, List.length_take]; rfl)) ?_; (with_reducible refine (impl_within.calls a1 1 8 true _ A4.out).mono ?_); rintro e w' ⟨rfl, ⟨nd, rfl⟩⟩; refine ⟨_, rfl, ?_⟩))
   go_meet
   case rel => exact ⟨_, (((a0.size : Int) != a1)), (by first | rfl | (simp; done) | (simp [*]; done)), H', ⟨by first | omega | exact Nat.le_refl _⟩, ⟨by repeat (first | (with_reducible first | exact HB.out | apply below_alloc | apply pw_below_drewN | apply below_drew1) | exact HB.out)⟩⟩
  ·replace c5 := Bool.eq_false_iff.mpr c5
   subst c5
   have H1 : (impl_ReadHex.j0 k a0 a1 true) = some r := by rw [if_neg (show ¬ (false = true) by decide)] at H; exact H
   clear H
   have H := H1
   clear H1
   have H' := Aside0.mk H
   clear H
   go_wp2_with (first | ((with_reducible refine gate_callee (f := 28) rfl ?_); refine goesL_ (some 9) rfl rfl Try.func28 (by kernel_rfl) rfl #[.int .i64 a1, .int .i64 1, .int .i64 8] rfl (by (try simp only [List.map_toArray, List.map_cons, List.map_nil]); first | done | rfl | (simp only [List.length_drop, List.length_take]; rfl)) ?_; (with_reducible refine (impl_within.calls a1 1 8 false _ A4.out).mono ?_); rintro e w' ⟨rfl, ⟨nd, rfl⟩⟩; refine ⟨_, rfl, ?_⟩))
   go_meet
   case rel => exact ⟨_, (true), (by first | rfl | (simp; done) | (simp [*]; done)), H', ⟨by first | omega | exact Nat.le_refl _⟩, ⟨by repeat (first | (with_reducible first | exact HB.out | apply below_alloc | apply pw_below_drewN | apply below_drew1) | exact HB.out)⟩⟩
 case rest =>
  clear HC3
  try clear c1
  try clear c2
  try clear p2
  try clear c5
  obtain ⟨kq, x16_2, rfl, HA, HJ2, HB⟩ := hcut
  cases kq with
  | zero => exact absurd HA.out (by simp [impl_ReadHex.j0])
  | succ kj2 =>
   have H := HA.out
   clear HA
   simp only [impl_ReadHex.j0] at H
   by_cases c6 : x16_2 = true
   ·subst c6
    have H1 : (some (-1)) = some r := by rw [if_pos rfl] at H; exact H
    clear H
    have H := H1
    clear H1
    obtain rfl := Option.some.inj H
    go_wp2
    go_ret
    exact ⟨by first | rfl | (simp [errW_none, errW_some] <;> rfl) | (simp [*, errW_none, errW_some] <;> rfl), by repeat (first | (with_reducible first | exact HB.out | apply below_alloc | apply pw_below_drewN | apply below_drew1) | exact HB.out)⟩
   ·replace c6 := Bool.eq_false_iff.mpr c6
    subst c6
    have H1 : (impl_ReadHex.l0 kj2 a0 0 a1 0) = some r := by rw [if_neg (show ¬ (false = true) by decide)] at H; exact H
    clear H
    have H := H1
    clear H1
    have H' := Aside0.mk H
    clear H
    go_wp2
    go_loopg [5, 18] kj2 (fun kq v5 v18 w' => ∃ (x5_2 : Int) (x18_2 : Int), v5 = .int .i64 x5_2 ∧ v18 = .int .i64 x18_2 ∧ Aside0 (impl_ReadHex.l0 kq a0 x5_2 a1 x18_2 = some r) ∧ Aside0 (kq ≤ kj2) ∧ Aside0 (Below w.heap.size w w'))
    case atStart => exact ⟨(0), (0), (by first | rfl | (simp; done) | (simp [*]; done)), (by first | rfl | (simp; done) | (simp [*]; done)), H', ⟨Nat.le_refl _⟩, ⟨by repeat (first | (with_reducible first | exact HB.out | apply below_alloc | apply pw_below_drewN | apply below_drew1) | exact HB.out)⟩⟩
    case round =>
     clear H'
     try clear c1
     try clear c2
     try clear p2
     try clear c5
     try clear c6
     try clear p2
     obtain ⟨x5_2, x18_2, rfl, rfl, HA, HK2, HB⟩ := hrel
     cases gk with
     | zero => exact absurd HA.out (by simp [impl_ReadHex.l0])
     | succ k2 =>
      have H := HA.out
      clear HA
      simp only [impl_ReadHex.l0] at H
      by_cases c7 : x18_2 < a1
      ·rw [if_pos c7] at H
       have c7b0 : decide (x18_2 < a1) = true := decide_eq_true c7
       clear c7
       by_cases c8 : 0 ≤ x18_2
       ·rw [if_pos c8] at H
        have c8b0 : decide (0 ≤ x18_2) = true := decide_eq_true c8
        clear c8
        by_cases c9 : x18_2 < (a0.size : Int)
        ·rw [if_pos c9] at H
         have c9b0 : decide (x18_2 < (a0.size : Int)) = true := decide_eq_true c9
         clear c9
         replace H := Option.bind_eq_some_iff.mp H
         obtain ⟨t146, A110, H⟩ := H
         replace H : (if t146 < 0 then (some (-1)) else (impl_ReadHex.l0 k2 a0 (wrap64 ((wrap64 (16 * x5_2)) + t146)) a1 (wrap64 (x18_2 + 1)))) = some r := H
         have A11 := Aside0.mk A110
         clear A110
         by_cases c12 : t146 < 0
         ·rw [if_pos c12] at H
          have c12b0 : decide (t146 < 0) = true := decide_eq_true c12
          clear c12
          obtain rfl := Option.some.inj H
          have p10 : 0 ≤ (x18_2 : Int) := of_decide_eq_true (by first | (with_reducible assumption) | assumption)
          have q10 : x18_2 < (a0.size : Int) := of_decide_eq_true (by first | (with_reducible assumption) | assumption)
          have hx10 := bt_at a0 x18_2
          replace p10 := eq_true p10
          replace q10 := eq_true q10
          go_wp2_with (first | ((with_reducible refine gate_callee (f := 29) rfl ?_); refine goesL_ (some 24) rfl rfl Try.func29 (by kernel_rfl) rfl #[.string (⟨#[48, 49, 50, 51, 52, 53, 54, 55, 56, 57, 65, 66, 67, 68, 69, 70]⟩ : ByteArray), .int .u8 (bt a0 x18_2)] rfl (by (try simp only [List.map_toArray, List.map_cons, List.map_nil]); first | done | rfl | (simp only [List.length_drop, List.length_take]; rfl)) ?_; (with_reducible refine (strings_IndexByte.calls (⟨#[48, 49, 50, 51, 52, 53, 54, 55, 56, 57, 65, 66, 67, 68, 69, 70]⟩ : ByteArray) (bt a0 x18_2) t146 _ A11.out).mono ?_); rintro e w13 ⟨rfl, hb⟩; refine ⟨_, rfl, ?_⟩; have n0_ := Aside0.mk (below_step (by repeat (first | (with_reducible first | exact HB.out | apply below_alloc | apply pw_below_drewN | apply below_drew1) | exact HB.out)) hb); clear HB; have HB := n0_; clear n0_; (try clear hb); (try clear hb2); (try clear hk); (try clear hi)))
          go_ret
          exact ⟨by first | rfl | (simp [errW_none, errW_some] <;> rfl) | (simp [*, errW_none, errW_some] <;> rfl), by repeat (first | (with_reducible first | exact HB.out | apply below_alloc | apply pw_below_drewN | apply below_drew1) | exact HB.out)⟩
         ·rw [if_neg c12] at H
          have c12b0 : decide (t146 < 0) = false := decide_eq_false c12
          clear c12
          have H' := Aside0.mk H
          clear H
          have p10 : 0 ≤ (x18_2 : Int) := of_decide_eq_true (by first | (with_reducible assumption) | assumption)
          have q10 : x18_2 < (a0.size : Int) := of_decide_eq_true (by first | (with_reducible assumption) | assumption)
          have hx10 := bt_at a0 x18_2
          replace p10 := eq_true p10
          replace q10 := eq_true q10
          go_wp2_with (first | ((with_reducible refine gate_callee (f := 29) rfl ?_); refine goesL_ (some 24) rfl rfl Try.func29 (by kernel_rfl) rfl #[.string (⟨#[48, 49, 50, 51, 52, 53, 54, 55, 56, 57, 65, 66, 67, 68, 69, 70]⟩ : ByteArray), .int .u8 (bt a0 x18_2)] rfl (by (try simp only [List.map_toArray, List.map_cons, List.map_nil]); first | done | rfl | (simp only [List.length_drop, List.length_take]; rfl)) ?_; (with_reducible refine (strings_IndexByte.calls (⟨#[48, 49, 50, 51, 52, 53, 54, 55, 56, 57, 65, 66, 67, 68, 69, 70]⟩ : ByteArray) (bt a0 x18_2) t146 _ A11.out).mono ?_); rintro e w14 ⟨rfl, hb⟩; refine ⟨_, rfl, ?_⟩; have n0_ := Aside0.mk (below_step (by repeat (first | (with_reducible first | exact HB.out | apply below_alloc | apply pw_below_drewN | apply below_drew1) | exact HB.out)) hb); clear HB; have HB := n0_; clear n0_; (try clear hb); (try clear hb2); (try clear hk); (try clear hi)))
          go_roundg k2
          case measure => have := HJ2.out; have := HK2.out; omega
          case rel => exact ⟨(wrap64 ((wrap64 (16 * x5_2)) + t146)), (wrap64 (x18_2 + 1)), (by first | rfl | (simp; done) | (simp [*]; done)), (by first | rfl | (simp; done) | (simp [*]; done)), H', ⟨by have := HJ2.out; have := HK2.out; omega⟩, ⟨by repeat (first | (with_reducible first | exact HB.out | apply below_alloc | apply pw_below_drewN | apply below_drew1) | exact HB.out)⟩⟩
        ·rw [if_neg c9] at H
         exact absurd H (by simp)
       ·rw [if_neg c8] at H
        exact absurd H (by simp)
      ·rw [if_neg c7] at H
       have c7b0 : decide (x18_2 < a1) = false := decide_eq_false c7
       clear c7
       obtain rfl := Option.some.inj H
       go_wp2
       go_ret
       exact ⟨by first | rfl | (simp [errW_none, errW_some] <;> rfl) | (simp [*, errW_none, errW_some] <;> rfl), by repeat (first | (with_reducible first | exact HB.out | apply below_alloc | apply pw_below_drewN | apply below_drew1) | exact HB.out)⟩

end Go.Proofs.Ytidencofapcliaa.MC
