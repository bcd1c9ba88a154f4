-- Written by this session's own program (wip/myprint.py) over the kit's print of the translation. Lean checks it.
import Derived.Test.YtidencofapcliaaDoorMTx0
import Derived.Test.YtidencofapcliaaDoorMTx3
namespace Go.Proofs.YtidencofapcliaaDoor.MT
open Go.RowKit Go.Proofs.YtidencofapcliaaDoorW.PrintWords Go.Proofs.YtidencofapcliaaDoorW.PrintLast Go.Proofs.YtidencofapcliaaDoorW.PrintMore
attribute [local go_sem] max2_int min2_int max_two min_two max_three min_three max_four min_four   -- for this text's walks alone
set_option linter.unusedVariables false
set_option linter.unusedSimpArgs false

/-! ### impl_KnowText: function 12 -/
def impl_KnowText.sign (x : Int) (i : Nat) : ByteArray := if x = -1 then (⟨#[63]⟩ : ByteArray) else if x = 0 then (⟨#[45]⟩ : ByteArray) else (⟨#[78, 86, 68, 73, 90, 67]⟩ : ByteArray).extract i (i + 1)
def impl_KnowText.signs : List Int → Nat → ByteArray → ByteArray
  | [], _, acc => acc
  | x :: l, i, acc => impl_KnowText.signs l (i + 1) (acc ++ impl_KnowText.sign x i)
def impl_KnowText.head (t0 t1 t2 t3 t4 : ByteArray) : ByteArray := (((((((((((⟨#[65, 61]⟩ : ByteArray) ++ t0) ++ (⟨#[32, 88, 61]⟩ : ByteArray)) ++ t1) ++ (⟨#[32, 89, 61]⟩ : ByteArray)) ++ t2) ++ (⟨#[32, 83, 61]⟩ : ByteArray)) ++ t3) ++ (⟨#[32, 80, 67, 61]⟩ : ByteArray)) ++ t4) ++ (⟨#[32]⟩ : ByteArray))
def impl_KnowText.f (k : Nat) (a0_0 : Int) (a0_1 : Int) (a0_2 : Int) (a0_3 : Int) (a0_4 : Int) (a0_5 : Int) (a0_6 : Int) (a0_7 : Int) (a0_8 : Int) (a0_9 : Int) (a0_10 : Int) : Option (ByteArray) := if impl_KnowOk.rest ([a0_0, a0_1, a0_2, a0_3, a0_4, a0_5, a0_6, a0_7, a0_8, a0_9, a0_10] : List Int) 0 = true then ((impl_digitsOf.f k a0_0 2).bind fun t0 => (impl_digitsOf.f k a0_1 2).bind fun t1 => (impl_digitsOf.f k a0_2 2).bind fun t2 => (impl_digitsOf.f k a0_3 2).bind fun t3 => (impl_digitsOf.f k a0_4 4).bind fun t4 => (if t0.size ≤ 1000 ∧ t1.size ≤ 1000 ∧ t2.size ≤ 1000 ∧ t3.size ≤ 1000 ∧ t4.size ≤ 1000 then some (impl_KnowText.signs [a0_5, a0_6, a0_7, a0_8, a0_9, a0_10] 0 (impl_KnowText.head t0 t1 t2 t3 t4)) else none)) else some (⟨#[]⟩ : ByteArray)
theorem impl_KnowText.mono : ∀ a0 a1 a2 a3 a4 a5 a6 a7 a8 a9 a10 k, LeO (impl_KnowText.f k a0 a1 a2 a3 a4 a5 a6 a7 a8 a9 a10) (impl_KnowText.f (k + 1) a0 a1 a2 a3 a4 a5 a6 a7 a8 a9 a10) := by
  intro a0 a1 a2 a3 a4 a5 a6 a7 a8 a9 a10 k
  unfold impl_KnowText.f
  refine LeO.ite ?_ (LeO.refl _)
  refine LeO.bind (impl_digitsOf.mono _ _ _) (fun _ => ?_)
  refine LeO.bind (impl_digitsOf.mono _ _ _) (fun _ => ?_)
  refine LeO.bind (impl_digitsOf.mono _ _ _) (fun _ => ?_)
  refine LeO.bind (impl_digitsOf.mono _ _ _) (fun _ => ?_)
  refine LeO.bind (impl_digitsOf.mono _ _ _) (fun _ => ?_)
  exact LeO.refl _
theorem impl_KnowText.part (a0_0 : Int) (a0_1 : Int) (a0_2 : Int) (a0_3 : Int) (a0_4 : Int) (a0_5 : Int) (a0_6 : Int) (a0_7 : Int) (a0_8 : Int) (a0_9 : Int) (a0_10 : Int) (i : Nat) (h : i < 6) : ∃ x : Int, (#[.int .i64 a0_0, .int .i64 a0_1, .int .i64 a0_2, .int .i64 a0_3, .int .i64 a0_4, .int .i64 a0_5, .int .i64 a0_6, .int .i64 a0_7, .int .i64 a0_8, .int .i64 a0_9, .int .i64 a0_10] : Array Value)[5 + i]? = some (.int .i64 x) ∧ ∀ acc, impl_KnowText.signs (([a0_5, a0_6, a0_7, a0_8, a0_9, a0_10] : List Int).drop i) i acc = impl_KnowText.signs (([a0_5, a0_6, a0_7, a0_8, a0_9, a0_10] : List Int).drop (i + 1)) (i + 1) (acc ++ impl_KnowText.sign x i) := by
  match i, h with
  | 0, _ => exact ⟨a0_5, rfl, fun _ => rfl⟩
  | 1, _ => exact ⟨a0_6, rfl, fun _ => rfl⟩
  | 2, _ => exact ⟨a0_7, rfl, fun _ => rfl⟩
  | 3, _ => exact ⟨a0_8, rfl, fun _ => rfl⟩
  | 4, _ => exact ⟨a0_9, rfl, fun _ => rfl⟩
  | 5, _ => exact ⟨a0_10, rfl, fun _ => rfl⟩
  | n + 6, h => omega
theorem impl_KnowText.ptr (g i : Nat) (h : i < 6) : (KF.ptrs g)[5 + i]? = some (.pointer (some ⟨g, 5 + i, none⟩)) := by
  match i, h with
  | 0, _ => rfl
  | 1, _ => rfl
  | 2, _ => rfl
  | 3, _ => rfl
  | 4, _ => rfl
  | 5, _ => rfl
  | n + 6, h => omega
def impl_KnowText.T3 : Bool × List (List Nat × List Nat) := (true, [([], []), ([0], [0]), ([1], [1]), ([2], [2]), ([3], [3]), ([], []), ([5], [5]), ([6, 2], [6]), ([4, 7], [4, 7]), ([8], [8]), ([], []), ([10], [10]), ([11, 7], [11]), ([9, 12], [9, 12]), ([13], [13]), ([], []), ([15], [15]), ([16, 12], [16]), ([14, 17], [14, 17]), ([18], [18]), ([], []), ([20], [20]), ([21, 17], [21]), ([19, 22], [19, 22]), ([23], [23]), ([24, 22, 0, 1, 2, 3, 4, 5, 6, 7, 8, 9, 10, 11, 12, 13, 14, 15, 16, 17, 18, 19, 20, 21, 22, 23, 24], [24])])
def impl_KnowText.B3 : List Nat := [0, 1, 3, 7, 15, 0, 32, 103, 255, 511, 0, 1024, 3303, 8191, 16383, 0, 32768, 105703, 262143, 524287, 0, 1048576, 3382503, 8388607, 16777215, 33554431]
theorem impl_KnowText.tab3 : rtab .any (opsOf Tryd.f12 3) = impl_KnowText.T3 := by kernel_rfl
theorem impl_KnowText.bits3 : waitsOk impl_KnowText.T3.2 impl_KnowText.B3 = true := by kernel_rfl
set_option maxHeartbeats 8000000 in
set_option maxRecDepth 100000 in
theorem impl_KnowText.calls (k : Nat) (a0_0 : Int) (a0_1 : Int) (a0_2 : Int) (a0_3 : Int) (a0_4 : Int) (a0_5 : Int) (a0_6 : Int) (a0_7 : Int) (a0_8 : Int) (a0_9 : Int) (a0_10 : Int) (r : ByteArray) (w : World) (h : impl_KnowText.f k a0_0 a0_1 a0_2 a0_3 a0_4 a0_5 a0_6 a0_7 a0_8 a0_9 a0_10 = some r) :
    Calls Tryd.prog 12 #[.agg #[.int .i64 a0_0, .int .i64 a0_1, .int .i64 a0_2, .int .i64 a0_3, .int .i64 a0_4, .int .i64 a0_5, .int .i64 a0_6, .int .i64 a0_7, .int .i64 a0_8, .int .i64 a0_9, .int .i64 a0_10]] w fun e w' => e = .returned (.string r) ∧ Below w.heap.size w w' := by
  have hu23 := Tryd.underlying25
  have hu42 := Tryd.underlying37
  have HB := Aside0.mk (Below.refl w.heap.size w)
  unfold impl_KnowText.f at h
  cases ht : impl_KnowOk.rest ([a0_0, a0_1, a0_2, a0_3, a0_4, a0_5, a0_6, a0_7, a0_8, a0_9, a0_10] : List Int) 0 with
  | false =>
    have AT : Aside0 (impl_KnowOk.f k a0_0 a0_1 a0_2 a0_3 a0_4 a0_5 a0_6 a0_7 a0_8 a0_9 a0_10 = some false) := ⟨congrArg some ht⟩
    rw [ht, if_neg (by decide)] at h
    obtain rfl := Option.some.inj h
    go_enter Tryd.func12, Tryd.ntmps12
    go_wp2_with (first | ((with_reducible refine gate_dst (N := 1) rfl ?_); refine box_event ?hg (N := 1) ?hd (cs := #[.int .i64 a0_0, .int .i64 a0_1, .int .i64 a0_2, .int .i64 a0_3, .int .i64 a0_4, .int .i64 a0_5, .int .i64 a0_6, .int .i64 a0_7, .int .i64 a0_8, .int .i64 a0_9, .int .i64 a0_10]) (t := 25) ?hr ?_; (case hd => rfl); (case hg => rfl); (case hr => first | (go_simp; done) | (go_simp; rfl)); intro gb hg w3 hbox hb; have n0_ := Aside0.mk (below_step (by repeat (first | (with_reducible first | exact HB.out | apply below_alloc | apply pw_below_drewN | apply below_drew1) | exact HB.out)) hb); have n1_ := Aside0.mk (hbox); have n3_ := Aside0.mk ((by rw [hg]; exact (below_size (by repeat (first | (with_reducible first | exact HB.out | apply below_alloc | apply pw_below_drewN | apply below_drew1) | exact HB.out))) : w.heap.size ≤ gb)); clear HB; have HB := n0_; have BK := n1_; have GE := n3_; clear n0_ n1_ n3_; clear hb hbox hg; have hz_0 : w3.cell? ⟨gb, 0, none⟩ = some (.int .i64 a0_0) := (blk_cell BK.out 0).trans rfl; have hz_1 : w3.cell? ⟨gb, 1, none⟩ = some (.int .i64 a0_1) := (blk_cell BK.out 1).trans rfl; have hz_2 : w3.cell? ⟨gb, 2, none⟩ = some (.int .i64 a0_2) := (blk_cell BK.out 2).trans rfl; have hz_3 : w3.cell? ⟨gb, 3, none⟩ = some (.int .i64 a0_3) := (blk_cell BK.out 3).trans rfl; have hz_4 : w3.cell? ⟨gb, 4, none⟩ = some (.int .i64 a0_4) := (blk_cell BK.out 4).trans rfl; have hz_5 : w3.cell? ⟨gb, 5, none⟩ = some (.int .i64 a0_5) := (blk_cell BK.out 5).trans rfl; have hz_6 : w3.cell? ⟨gb, 6, none⟩ = some (.int .i64 a0_6) := (blk_cell BK.out 6).trans rfl; have hz_7 : w3.cell? ⟨gb, 7, none⟩ = some (.int .i64 a0_7) := (blk_cell BK.out 7).trans rfl; have hz_8 : w3.cell? ⟨gb, 8, none⟩ = some (.int .i64 a0_8) := (blk_cell BK.out 8).trans rfl; have hz_9 : w3.cell? ⟨gb, 9, none⟩ = some (.int .i64 a0_9) := (blk_cell BK.out 9).trans rfl; have hz_10 : w3.cell? ⟨gb, 10, none⟩ = some (.int .i64 a0_10) := (blk_cell BK.out 10).trans rfl) | (go_at_call 10; (with_reducible refine (impl_KnowOk.calls k a0_0 a0_1 a0_2 a0_3 a0_4 a0_5 a0_6 a0_7 a0_8 a0_9 a0_10 false _ AT.out).mono ?_); rintro e w4 ⟨rfl, hb⟩; have n0_ := Aside0.mk (blk_below (g := gb) (o := .cells #[.int .i64 a0_0, .int .i64 a0_1, .int .i64 a0_2, .int .i64 a0_3, .int .i64 a0_4, .int .i64 a0_5, .int .i64 a0_6, .int .i64 a0_7, .int .i64 a0_8, .int .i64 a0_9, .int .i64 a0_10] 25 (0, 0)) (by (with_reducible repeat (first | refine blk_drewN ?_ _ | refine blk_drew ?_ | refine blk_alloc ?_ _)); exact BK.out) hb); have n1_ := Aside0.mk (below_step (by repeat (first | (with_reducible first | exact HB.out | apply below_alloc | apply pw_below_drewN | apply below_drew1 | refine below_set ?_ GE.out) | exact HB.out)) hb); clear BK HB; have BK := n0_; have HB := n1_; clear n0_ n1_; (try clear hb); clear hz_0 hz_1 hz_2 hz_3 hz_4 hz_5 hz_6 hz_7 hz_8 hz_9 hz_10))
    repeat (go_quiet (first | ((with_reducible refine gate_dst (N := 1) rfl ?_); refine box_event ?hg (N := 1) ?hd (cs := #[.int .i64 a0_0, .int .i64 a0_1, .int .i64 a0_2, .int .i64 a0_3, .int .i64 a0_4, .int .i64 a0_5, .int .i64 a0_6, .int .i64 a0_7, .int .i64 a0_8, .int .i64 a0_9, .int .i64 a0_10]) (t := 25) ?hr ?_; (case hd => rfl); (case hg => rfl); (case hr => first | (go_simp; done) | (go_simp; rfl)); intro gb hg w3 hbox hb; have n0_ := Aside0.mk (below_step (by repeat (first | (with_reducible first | exact HB.out | apply below_alloc | apply pw_below_drewN | apply below_drew1) | exact HB.out)) hb); have n1_ := Aside0.mk (hbox); have n3_ := Aside0.mk ((by rw [hg]; exact (below_size (by repeat (first | (with_reducible first | exact HB.out | apply below_alloc | apply pw_below_drewN | apply below_drew1) | exact HB.out))) : w.heap.size ≤ gb)); clear HB; have HB := n0_; have BK := n1_; have GE := n3_; clear n0_ n1_ n3_; clear hb hbox hg; have hz_0 : w3.cell? ⟨gb, 0, none⟩ = some (.int .i64 a0_0) := (blk_cell BK.out 0).trans rfl; have hz_1 : w3.cell? ⟨gb, 1, none⟩ = some (.int .i64 a0_1) := (blk_cell BK.out 1).trans rfl; have hz_2 : w3.cell? ⟨gb, 2, none⟩ = some (.int .i64 a0_2) := (blk_cell BK.out 2).trans rfl; have hz_3 : w3.cell? ⟨gb, 3, none⟩ = some (.int .i64 a0_3) := (blk_cell BK.out 3).trans rfl; have hz_4 : w3.cell? ⟨gb, 4, none⟩ = some (.int .i64 a0_4) := (blk_cell BK.out 4).trans rfl; have hz_5 : w3.cell? ⟨gb, 5, none⟩ = some (.int .i64 a0_5) := (blk_cell BK.out 5).trans rfl; have hz_6 : w3.cell? ⟨gb, 6, none⟩ = some (.int .i64 a0_6) := (blk_cell BK.out 6).trans rfl; have hz_7 : w3.cell? ⟨gb, 7, none⟩ = some (.int .i64 a0_7) := (blk_cell BK.out 7).trans rfl; have hz_8 : w3.cell? ⟨gb, 8, none⟩ = some (.int .i64 a0_8) := (blk_cell BK.out 8).trans rfl; have hz_9 : w3.cell? ⟨gb, 9, none⟩ = some (.int .i64 a0_9) := (blk_cell BK.out 9).trans rfl; have hz_10 : w3.cell? ⟨gb, 10, none⟩ = some (.int .i64 a0_10) := (blk_cell BK.out 10).trans rfl) | (go_at_call 10; (with_reducible refine (impl_KnowOk.calls k a0_0 a0_1 a0_2 a0_3 a0_4 a0_5 a0_6 a0_7 a0_8 a0_9 a0_10 false _ AT.out).mono ?_); rintro e w4 ⟨rfl, hb⟩; have n0_ := Aside0.mk (blk_below (g := gb) (o := .cells #[.int .i64 a0_0, .int .i64 a0_1, .int .i64 a0_2, .int .i64 a0_3, .int .i64 a0_4, .int .i64 a0_5, .int .i64 a0_6, .int .i64 a0_7, .int .i64 a0_8, .int .i64 a0_9, .int .i64 a0_10] 25 (0, 0)) (by (with_reducible repeat (first | refine blk_drewN ?_ _ | refine blk_drew ?_ | refine blk_alloc ?_ _)); exact BK.out) hb); have n1_ := Aside0.mk (below_step (by repeat (first | (with_reducible first | exact HB.out | apply below_alloc | apply pw_below_drewN | apply below_drew1 | refine below_set ?_ GE.out) | exact HB.out)) hb); clear BK HB; have BK := n0_; have HB := n1_; clear n0_ n1_; (try clear hb); clear hz_0 hz_1 hz_2 hz_3 hz_4 hz_5 hz_6 hz_7 hz_8 hz_9 hz_10)); try go_wp2_with (first | ((with_reducible refine gate_dst (N := 1) rfl ?_); refine box_event ?hg (N := 1) ?hd (cs := #[.int .i64 a0_0, .int .i64 a0_1, .int .i64 a0_2, .int .i64 a0_3, .int .i64 a0_4, .int .i64 a0_5, .int .i64 a0_6, .int .i64 a0_7, .int .i64 a0_8, .int .i64 a0_9, .int .i64 a0_10]) (t := 25) ?hr ?_; (case hd => rfl); (case hg => rfl); (case hr => first | (go_simp; done) | (go_simp; rfl)); intro gb hg w3 hbox hb; have n0_ := Aside0.mk (below_step (by repeat (first | (with_reducible first | exact HB.out | apply below_alloc | apply pw_below_drewN | apply below_drew1) | exact HB.out)) hb); have n1_ := Aside0.mk (hbox); have n3_ := Aside0.mk ((by rw [hg]; exact (below_size (by repeat (first | (with_reducible first | exact HB.out | apply below_alloc | apply pw_below_drewN | apply below_drew1) | exact HB.out))) : w.heap.size ≤ gb)); clear HB; have HB := n0_; have BK := n1_; have GE := n3_; clear n0_ n1_ n3_; clear hb hbox hg; have hz_0 : w3.cell? ⟨gb, 0, none⟩ = some (.int .i64 a0_0) := (blk_cell BK.out 0).trans rfl; have hz_1 : w3.cell? ⟨gb, 1, none⟩ = some (.int .i64 a0_1) := (blk_cell BK.out 1).trans rfl; have hz_2 : w3.cell? ⟨gb, 2, none⟩ = some (.int .i64 a0_2) := (blk_cell BK.out 2).trans rfl; have hz_3 : w3.cell? ⟨gb, 3, none⟩ = some (.int .i64 a0_3) := (blk_cell BK.out 3).trans rfl; have hz_4 : w3.cell? ⟨gb, 4, none⟩ = some (.int .i64 a0_4) := (blk_cell BK.out 4).trans rfl; have hz_5 : w3.cell? ⟨gb, 5, none⟩ = some (.int .i64 a0_5) := (blk_cell BK.out 5).trans rfl; have hz_6 : w3.cell? ⟨gb, 6, none⟩ = some (.int .i64 a0_6) := (blk_cell BK.out 6).trans rfl; have hz_7 : w3.cell? ⟨gb, 7, none⟩ = some (.int .i64 a0_7) := (blk_cell BK.out 7).trans rfl; have hz_8 : w3.cell? ⟨gb, 8, none⟩ = some (.int .i64 a0_8) := (blk_cell BK.out 8).trans rfl; have hz_9 : w3.cell? ⟨gb, 9, none⟩ = some (.int .i64 a0_9) := (blk_cell BK.out 9).trans rfl; have hz_10 : w3.cell? ⟨gb, 10, none⟩ = some (.int .i64 a0_10) := (blk_cell BK.out 10).trans rfl) | (go_at_call 10; (with_reducible refine (impl_KnowOk.calls k a0_0 a0_1 a0_2 a0_3 a0_4 a0_5 a0_6 a0_7 a0_8 a0_9 a0_10 false _ AT.out).mono ?_); rintro e w4 ⟨rfl, hb⟩; have n0_ := Aside0.mk (blk_below (g := gb) (o := .cells #[.int .i64 a0_0, .int .i64 a0_1, .int .i64 a0_2, .int .i64 a0_3, .int .i64 a0_4, .int .i64 a0_5, .int .i64 a0_6, .int .i64 a0_7, .int .i64 a0_8, .int .i64 a0_9, .int .i64 a0_10] 25 (0, 0)) (by (with_reducible repeat (first | refine blk_drewN ?_ _ | refine blk_drew ?_ | refine blk_alloc ?_ _)); exact BK.out) hb); have n1_ := Aside0.mk (below_step (by repeat (first | (with_reducible first | exact HB.out | apply below_alloc | apply pw_below_drewN | apply below_drew1 | refine below_set ?_ GE.out) | exact HB.out)) hb); clear BK HB; have BK := n0_; have HB := n1_; clear n0_ n1_; (try clear hb); clear hz_0 hz_1 hz_2 hz_3 hz_4 hz_5 hz_6 hz_7 hz_8 hz_9 hz_10)))
    go_ret
    exact ⟨rfl, by repeat (first | (with_reducible first | exact HB.out | apply below_alloc | apply pw_below_drewN | apply below_drew1 | refine below_set ?_ GE.out) | exact HB.out)⟩
  | true =>
    have AT : Aside0 (impl_KnowOk.f k a0_0 a0_1 a0_2 a0_3 a0_4 a0_5 a0_6 a0_7 a0_8 a0_9 a0_10 = some true) := ⟨congrArg some ht⟩
    rw [ht, if_pos rfl] at h
    obtain ⟨t0, A00, h⟩ := Option.bind_eq_some_iff.mp h
    have A0 := Aside0.mk A00
    clear A00
    obtain ⟨t1, A10, h⟩ := Option.bind_eq_some_iff.mp h
    have A1 := Aside0.mk A10
    clear A10
    obtain ⟨t2, A20, h⟩ := Option.bind_eq_some_iff.mp h
    have A2 := Aside0.mk A20
    clear A20
    obtain ⟨t3, A30, h⟩ := Option.bind_eq_some_iff.mp h
    have A3 := Aside0.mk A30
    clear A30
    obtain ⟨t4, A40, h⟩ := Option.bind_eq_some_iff.mp h
    have A4 := Aside0.mk A40
    clear A40
    by_cases c8 : t0.size ≤ 1000 ∧ t1.size ≤ 1000 ∧ t2.size ≤ 1000 ∧ t3.size ≤ 1000 ∧ t4.size ≤ 1000
    rotate_left
    · rw [if_neg c8] at h
      exact absurd h (by simp)
    rw [if_pos c8] at h
    have C8 := Aside0.mk c8
    have H := Aside0.mk (Option.some.inj h)
    clear h c8
    go_enter Tryd.func12, Tryd.ntmps12
    go_upto_region 3 with (first | ((with_reducible refine gate_dst (N := 1) rfl ?_); refine box_event ?hg (N := 1) ?hd (cs := #[.int .i64 a0_0, .int .i64 a0_1, .int .i64 a0_2, .int .i64 a0_3, .int .i64 a0_4, .int .i64 a0_5, .int .i64 a0_6, .int .i64 a0_7, .int .i64 a0_8, .int .i64 a0_9, .int .i64 a0_10]) (t := 25) ?hr ?_; (case hd => rfl); (case hg => rfl); (case hr => first | (go_simp; done) | (go_simp; rfl)); intro gb hg w3 hbox hb; have n0_ := Aside0.mk (below_step (by repeat (first | (with_reducible first | exact HB.out | apply below_alloc | apply pw_below_drewN | apply below_drew1) | exact HB.out)) hb); have n1_ := Aside0.mk (hbox); have n3_ := Aside0.mk ((by rw [hg]; exact (below_size (by repeat (first | (with_reducible first | exact HB.out | apply below_alloc | apply pw_below_drewN | apply below_drew1) | exact HB.out))) : w.heap.size ≤ gb)); clear HB; have HB := n0_; have BK := n1_; have GE := n3_; clear n0_ n1_ n3_; clear hb hbox hg; have hz_0 : w3.cell? ⟨gb, 0, none⟩ = some (.int .i64 a0_0) := (blk_cell BK.out 0).trans rfl; have hz_1 : w3.cell? ⟨gb, 1, none⟩ = some (.int .i64 a0_1) := (blk_cell BK.out 1).trans rfl; have hz_2 : w3.cell? ⟨gb, 2, none⟩ = some (.int .i64 a0_2) := (blk_cell BK.out 2).trans rfl; have hz_3 : w3.cell? ⟨gb, 3, none⟩ = some (.int .i64 a0_3) := (blk_cell BK.out 3).trans rfl; have hz_4 : w3.cell? ⟨gb, 4, none⟩ = some (.int .i64 a0_4) := (blk_cell BK.out 4).trans rfl; have hz_5 : w3.cell? ⟨gb, 5, none⟩ = some (.int .i64 a0_5) := (blk_cell BK.out 5).trans rfl; have hz_6 : w3.cell? ⟨gb, 6, none⟩ = some (.int .i64 a0_6) := (blk_cell BK.out 6).trans rfl; have hz_7 : w3.cell? ⟨gb, 7, none⟩ = some (.int .i64 a0_7) := (blk_cell BK.out 7).trans rfl; have hz_8 : w3.cell? ⟨gb, 8, none⟩ = some (.int .i64 a0_8) := (blk_cell BK.out 8).trans rfl; have hz_9 : w3.cell? ⟨gb, 9, none⟩ = some (.int .i64 a0_9) := (blk_cell BK.out 9).trans rfl; have hz_10 : w3.cell? ⟨gb, 10, none⟩ = some (.int .i64 a0_10) := (blk_cell BK.out 10).trans rfl) | (go_at_call 10; (with_reducible refine (impl_KnowOk.calls k a0_0 a0_1 a0_2 a0_3 a0_4 a0_5 a0_6 a0_7 a0_8 a0_9 a0_10 true _ AT.out).mono ?_); rintro e w4 ⟨rfl, hb⟩; have n0_ := Aside0.mk (blk_below (g := gb) (o := .cells #[.int .i64 a0_0, .int .i64 a0_1, .int .i64 a0_2, .int .i64 a0_3, .int .i64 a0_4, .int .i64 a0_5, .int .i64 a0_6, .int .i64 a0_7, .int .i64 a0_8, .int .i64 a0_9, .int .i64 a0_10] 25 (0, 0)) (by (with_reducible repeat (first | refine blk_drewN ?_ _ | refine blk_drew ?_ | refine blk_alloc ?_ _)); exact BK.out) hb); have n1_ := Aside0.mk (below_step (by repeat (first | (with_reducible first | exact HB.out | apply below_alloc | apply pw_below_drewN | apply below_drew1 | refine below_set ?_ GE.out) | exact HB.out)) hb); clear BK HB; have BK := n0_; have HB := n1_; clear n0_ n1_; (try clear hb); clear hz_0 hz_1 hz_2 hz_3 hz_4 hz_5 hz_6 hz_7 hz_8 hz_9 hz_10))
    obtain ⟨y0, y1, y2, y3, y4⟩ := C8.out
    have z0 : (⟨#[65, 61]⟩ : ByteArray).size = 2 := rfl
    have z1 : (⟨#[32, 88, 61]⟩ : ByteArray).size = 3 := rfl
    have z2 : (⟨#[32, 89, 61]⟩ : ByteArray).size = 3 := rfl
    have z3 : (⟨#[32, 83, 61]⟩ : ByteArray).size = 3 := rfl
    have z4 : (⟨#[32, 80, 67, 61]⟩ : ByteArray).size = 4 := rfl
    have z5 : (⟨#[32]⟩ : ByteArray).size = 1 := rfl
    have e0 : (⟨#[65, 61]⟩ : ByteArray).size + t0.size ≤ 9223372036854775807 := by simp only [ByteArray.size_append, z0, z1, z2, z3, z4, z5]; omega
    have e0b0 := eq_true e0
    have e0b1 := decide_eq_true e0
    have e0b2 : (9223372036854775807 < (⟨#[65, 61]⟩ : ByteArray).size + t0.size) = False := eq_false (Nat.not_lt.2 e0)
    have e0b7 : 2 + t0.size ≤ 9223372036854775807 := by have h_ := e0; (try simp only [ByteArray.size_append] at h_); exact h_
    have e0b8 := eq_false (Nat.not_lt.2 e0b7)
    have e0bA := decide_eq_true e0b7
    replace e0b7 := eq_true e0b7
    clear e0
    have e1 : ((⟨#[65, 61]⟩ : ByteArray) ++ t0).size + 3 ≤ 9223372036854775807 := by simp only [ByteArray.size_append, z0, z1, z2, z3, z4, z5]; omega
    have e1b0 := eq_true e1
    have e1b1 := decide_eq_true e1
    have e1b2 : (9223372036854775807 < ((⟨#[65, 61]⟩ : ByteArray) ++ t0).size + 3) = False := eq_false (Nat.not_lt.2 e1)
    have e1b7 : 2 + t0.size + 3 ≤ 9223372036854775807 := by have h_ := e1; (try simp only [ByteArray.size_append] at h_); exact h_
    have e1b8 := eq_false (Nat.not_lt.2 e1b7)
    have e1bA := decide_eq_true e1b7
    replace e1b7 := eq_true e1b7
    clear e1
    have e2 : (((⟨#[65, 61]⟩ : ByteArray) ++ t0) ++ (⟨#[32, 88, 61]⟩ : ByteArray)).size + t1.size ≤ 9223372036854775807 := by simp only [ByteArray.size_append, z0, z1, z2, z3, z4, z5]; omega
    have e2b0 := eq_true e2
    have e2b1 := decide_eq_true e2
    have e2b2 : (9223372036854775807 < (((⟨#[65, 61]⟩ : ByteArray) ++ t0) ++ (⟨#[32, 88, 61]⟩ : ByteArray)).size + t1.size) = False := eq_false (Nat.not_lt.2 e2)
    have e2b7 : 2 + t0.size + 3 + t1.size ≤ 9223372036854775807 := by have h_ := e2; (try simp only [ByteArray.size_append] at h_); exact h_
    have e2b8 := eq_false (Nat.not_lt.2 e2b7)
    have e2bA := decide_eq_true e2b7
    replace e2b7 := eq_true e2b7
    clear e2
    have e3 : ((((⟨#[65, 61]⟩ : ByteArray) ++ t0) ++ (⟨#[32, 88, 61]⟩ : ByteArray)) ++ t1).size + 3 ≤ 9223372036854775807 := by simp only [ByteArray.size_append, z0, z1, z2, z3, z4, z5]; omega
    have e3b0 := eq_true e3
    have e3b1 := decide_eq_true e3
    have e3b2 : (9223372036854775807 < ((((⟨#[65, 61]⟩ : ByteArray) ++ t0) ++ (⟨#[32, 88, 61]⟩ : ByteArray)) ++ t1).size + 3) = False := eq_false (Nat.not_lt.2 e3)
    have e3b7 : 2 + t0.size + 3 + t1.size + 3 ≤ 9223372036854775807 := by have h_ := e3; (try simp only [ByteArray.size_append] at h_); exact h_
    have e3b8 := eq_false (Nat.not_lt.2 e3b7)
    have e3bA := decide_eq_true e3b7
    replace e3b7 := eq_true e3b7
    clear e3
    have e4 : (((((⟨#[65, 61]⟩ : ByteArray) ++ t0) ++ (⟨#[32, 88, 61]⟩ : ByteArray)) ++ t1) ++ (⟨#[32, 89, 61]⟩ : ByteArray)).size + t2.size ≤ 9223372036854775807 := by simp only [ByteArray.size_append, z0, z1, z2, z3, z4, z5]; omega
    have e4b0 := eq_true e4
    have e4b1 := decide_eq_true e4
    have e4b2 : (9223372036854775807 < (((((⟨#[65, 61]⟩ : ByteArray) ++ t0) ++ (⟨#[32, 88, 61]⟩ : ByteArray)) ++ t1) ++ (⟨#[32, 89, 61]⟩ : ByteArray)).size + t2.size) = False := eq_false (Nat.not_lt.2 e4)
    have e4b7 : 2 + t0.size + 3 + t1.size + 3 + t2.size ≤ 9223372036854775807 := by have h_ := e4; (try simp only [ByteArray.size_append] at h_); exact h_
    have e4b8 := eq_false (Nat.not_lt.2 e4b7)
    have e4bA := decide_eq_true e4b7
    replace e4b7 := eq_true e4b7
    clear e4
    have e5 : ((((((⟨#[65, 61]⟩ : ByteArray) ++ t0) ++ (⟨#[32, 88, 61]⟩ : ByteArray)) ++ t1) ++ (⟨#[32, 89, 61]⟩ : ByteArray)) ++ t2).size + 3 ≤ 9223372036854775807 := by simp only [ByteArray.size_append, z0, z1, z2, z3, z4, z5]; omega
    have e5b0 := eq_true e5
    have e5b1 := decide_eq_true e5
    have e5b2 : (9223372036854775807 < ((((((⟨#[65, 61]⟩ : ByteArray) ++ t0) ++ (⟨#[32, 88, 61]⟩ : ByteArray)) ++ t1) ++ (⟨#[32, 89, 61]⟩ : ByteArray)) ++ t2).size + 3) = False := eq_false (Nat.not_lt.2 e5)
    have e5b7 : 2 + t0.size + 3 + t1.size + 3 + t2.size + 3 ≤ 9223372036854775807 := by have h_ := e5; (try simp only [ByteArray.size_append] at h_); exact h_
    have e5b8 := eq_false (Nat.not_lt.2 e5b7)
    have e5bA := decide_eq_true e5b7
    replace e5b7 := eq_true e5b7
    clear e5
    have e6 : (((((((⟨#[65, 61]⟩ : ByteArray) ++ t0) ++ (⟨#[32, 88, 61]⟩ : ByteArray)) ++ t1) ++ (⟨#[32, 89, 61]⟩ : ByteArray)) ++ t2) ++ (⟨#[32, 83, 61]⟩ : ByteArray)).size + t3.size ≤ 9223372036854775807 := by simp only [ByteArray.size_append, z0, z1, z2, z3, z4, z5]; omega
    have e6b0 := eq_true e6
    have e6b1 := decide_eq_true e6
    have e6b2 : (9223372036854775807 < (((((((⟨#[65, 61]⟩ : ByteArray) ++ t0) ++ (⟨#[32, 88, 61]⟩ : ByteArray)) ++ t1) ++ (⟨#[32, 89, 61]⟩ : ByteArray)) ++ t2) ++ (⟨#[32, 83, 61]⟩ : ByteArray)).size + t3.size) = False := eq_false (Nat.not_lt.2 e6)
    have e6b7 : 2 + t0.size + 3 + t1.size + 3 + t2.size + 3 + t3.size ≤ 9223372036854775807 := by have h_ := e6; (try simp only [ByteArray.size_append] at h_); exact h_
    have e6b8 := eq_false (Nat.not_lt.2 e6b7)
    have e6bA := decide_eq_true e6b7
    replace e6b7 := eq_true e6b7
    clear e6
    have e7 : ((((((((⟨#[65, 61]⟩ : ByteArray) ++ t0) ++ (⟨#[32, 88, 61]⟩ : ByteArray)) ++ t1) ++ (⟨#[32, 89, 61]⟩ : ByteArray)) ++ t2) ++ (⟨#[32, 83, 61]⟩ : ByteArray)) ++ t3).size + 4 ≤ 9223372036854775807 := by simp only [ByteArray.size_append, z0, z1, z2, z3, z4, z5]; omega
    have e7b0 := eq_true e7
    have e7b1 := decide_eq_true e7
    have e7b2 : (9223372036854775807 < ((((((((⟨#[65, 61]⟩ : ByteArray) ++ t0) ++ (⟨#[32, 88, 61]⟩ : ByteArray)) ++ t1) ++ (⟨#[32, 89, 61]⟩ : ByteArray)) ++ t2) ++ (⟨#[32, 83, 61]⟩ : ByteArray)) ++ t3).size + 4) = False := eq_false (Nat.not_lt.2 e7)
    have e7b7 : 2 + t0.size + 3 + t1.size + 3 + t2.size + 3 + t3.size + 4 ≤ 9223372036854775807 := by have h_ := e7; (try simp only [ByteArray.size_append] at h_); exact h_
    have e7b8 := eq_false (Nat.not_lt.2 e7b7)
    have e7bA := decide_eq_true e7b7
    replace e7b7 := eq_true e7b7
    clear e7
    have e8 : (((((((((⟨#[65, 61]⟩ : ByteArray) ++ t0) ++ (⟨#[32, 88, 61]⟩ : ByteArray)) ++ t1) ++ (⟨#[32, 89, 61]⟩ : ByteArray)) ++ t2) ++ (⟨#[32, 83, 61]⟩ : ByteArray)) ++ t3) ++ (⟨#[32, 80, 67, 61]⟩ : ByteArray)).size + t4.size ≤ 9223372036854775807 := by simp only [ByteArray.size_append, z0, z1, z2, z3, z4, z5]; omega
    have e8b0 := eq_true e8
    have e8b1 := decide_eq_true e8
    have e8b2 : (9223372036854775807 < (((((((((⟨#[65, 61]⟩ : ByteArray) ++ t0) ++ (⟨#[32, 88, 61]⟩ : ByteArray)) ++ t1) ++ (⟨#[32, 89, 61]⟩ : ByteArray)) ++ t2) ++ (⟨#[32, 83, 61]⟩ : ByteArray)) ++ t3) ++ (⟨#[32, 80, 67, 61]⟩ : ByteArray)).size + t4.size) = False := eq_false (Nat.not_lt.2 e8)
    have e8b7 : 2 + t0.size + 3 + t1.size + 3 + t2.size + 3 + t3.size + 4 + t4.size ≤ 9223372036854775807 := by have h_ := e8; (try simp only [ByteArray.size_append] at h_); exact h_
    have e8b8 := eq_false (Nat.not_lt.2 e8b7)
    have e8bA := decide_eq_true e8b7
    replace e8b7 := eq_true e8b7
    clear e8
    have e9 : ((((((((((⟨#[65, 61]⟩ : ByteArray) ++ t0) ++ (⟨#[32, 88, 61]⟩ : ByteArray)) ++ t1) ++ (⟨#[32, 89, 61]⟩ : ByteArray)) ++ t2) ++ (⟨#[32, 83, 61]⟩ : ByteArray)) ++ t3) ++ (⟨#[32, 80, 67, 61]⟩ : ByteArray)) ++ t4).size + 1 ≤ 9223372036854775807 := by simp only [ByteArray.size_append, z0, z1, z2, z3, z4, z5]; omega
    have e9b0 := eq_true e9
    have e9b1 := decide_eq_true e9
    have e9b2 : (9223372036854775807 < ((((((((((⟨#[65, 61]⟩ : ByteArray) ++ t0) ++ (⟨#[32, 88, 61]⟩ : ByteArray)) ++ t1) ++ (⟨#[32, 89, 61]⟩ : ByteArray)) ++ t2) ++ (⟨#[32, 83, 61]⟩ : ByteArray)) ++ t3) ++ (⟨#[32, 80, 67, 61]⟩ : ByteArray)) ++ t4).size + 1) = False := eq_false (Nat.not_lt.2 e9)
    have e9b7 : 2 + t0.size + 3 + t1.size + 3 + t2.size + 3 + t3.size + 4 + t4.size + 1 ≤ 9223372036854775807 := by have h_ := e9; (try simp only [ByteArray.size_append] at h_); exact h_
    have e9b8 := eq_false (Nat.not_lt.2 e9b7)
    have e9bA := decide_eq_true e9b7
    replace e9b7 := eq_true e9b7
    clear e9
    clear z0 z1 z2 z3 z4 z5 y0 y1 y2 y3 y4
    have hS : Aside0 (∀ w' : World, Below w4.heap.size w4 w' → w'.cell? ⟨gb, 0, none⟩ = some (.int .i64 a0_0) ∧ w'.cell? ⟨gb, 1, none⟩ = some (.int .i64 a0_1) ∧ w'.cell? ⟨gb, 2, none⟩ = some (.int .i64 a0_2) ∧ w'.cell? ⟨gb, 3, none⟩ = some (.int .i64 a0_3) ∧ w'.cell? ⟨gb, 4, none⟩ = some (.int .i64 a0_4)) := ⟨fun w' hb => ⟨(blk_cell (blk_below BK.out hb) 0).trans rfl, (blk_cell (blk_below BK.out hb) 1).trans rfl, (blk_cell (blk_below BK.out hb) 2).trans rfl, (blk_cell (blk_below BK.out hb) 3).trans rfl, (blk_cell (blk_below BK.out hb) 4).trans rfl⟩⟩
    have HC := Aside0.mk (below_drew1 (Below.refl w4.heap.size w4))
    try go_wp2
    refine start_ (n := 26) (S := fun w' => w'.cell? ⟨gb, 0, none⟩ = some (.int .i64 a0_0) ∧ w'.cell? ⟨gb, 1, none⟩ = some (.int .i64 a0_1) ∧ w'.cell? ⟨gb, 2, none⟩ = some (.int .i64 a0_2) ∧ w'.cell? ⟨gb, 3, none⟩ = some (.int .i64 a0_3) ∧ w'.cell? ⟨gb, 4, none⟩ = some (.int .i64 a0_4)) (ds := []) #[false, false, false, false, false, false, false, false, false, false, false, false, false, false, false, false, false, false, false, false, false, false, false, false, false, false] (by kernel_rfl) rfl rfl (hS.out _ HC.out) (fun hHeld => ?_); refine with_tabW impl_KnowText.tab3 impl_KnowText.bits3 (fun HT_ HW_ => ?_)
    generalize w4.drew = w18 at HC hHeld ⊢
    refine pure_ (i := 0) (N := some 10) (v := ?_) (a' := ?_) #[true, false, false, false, false, false, false, false, false, false, false, false, false, false, false, false, false, false, false, false, false, false, false, false, false, false] rfl rfl (any_of HT_.out (by kernel_rfl)) (fun _ _ _ h => h) (Or.inl ⟨by rfl, ?_⟩) ?_ ?_
    rotate_left
    · intro w'
      go_simp
      with_reducible rfl
    rotate_left
    · simp only [Act.put, List.setIfInBounds_toArray, List.set_cons_zero, List.set_cons_succ, i64_w, i32_w]
      rfl
    refine pure_ (i := 5) (N := some 15) (v := ?_) (a' := ?_) #[true, false, false, false, false, true, false, false, false, false, false, false, false, false, false, false, false, false, false, false, false, false, false, false, false, false] rfl rfl (any_of HT_.out (by kernel_rfl)) (fun _ _ _ h => h) (Or.inl ⟨by rfl, ?_⟩) ?_ ?_
    rotate_left
    · intro w'
      go_simp
      with_reducible rfl
    rotate_left
    · simp only [Act.put, List.setIfInBounds_toArray, List.set_cons_zero, List.set_cons_succ, i64_w, i32_w]
      rfl
    refine pure_ (i := 10) (N := some 20) (v := ?_) (a' := ?_) #[true, false, false, false, false, true, false, false, false, false, true, false, false, false, false, false, false, false, false, false, false, false, false, false, false, false] rfl rfl (any_of HT_.out (by kernel_rfl)) (fun _ _ _ h => h) (Or.inl ⟨by rfl, ?_⟩) ?_ ?_
    rotate_left
    · intro w'
      go_simp
      with_reducible rfl
    rotate_left
    · simp only [Act.put, List.setIfInBounds_toArray, List.set_cons_zero, List.set_cons_succ, i64_w, i32_w]
      rfl
    refine pure_ (i := 15) (N := some 25) (v := ?_) (a' := ?_) #[true, false, false, false, false, true, false, false, false, false, true, false, false, false, false, true, false, false, false, false, false, false, false, false, false, false] rfl rfl (any_of HT_.out (by kernel_rfl)) (fun _ _ _ h => h) (Or.inl ⟨by rfl, ?_⟩) ?_ ?_
    rotate_left
    · intro w'
      go_simp
      with_reducible rfl
    rotate_left
    · simp only [Act.put, List.setIfInBounds_toArray, List.set_cons_zero, List.set_cons_succ, i64_w, i32_w]
      rfl
    refine pure_ (i := 20) (N := some 30) (v := ?_) (a' := ?_) #[true, false, false, false, false, true, false, false, false, false, true, false, false, false, false, true, false, false, false, false, true, false, false, false, false, false] rfl rfl (any_of HT_.out (by kernel_rfl)) (fun _ _ _ h => h) (Or.inl ⟨by rfl, ?_⟩) ?_ ?_
    rotate_left
    · intro w'
      go_simp
      with_reducible rfl
    rotate_left
    · simp only [Act.put, List.setIfInBounds_toArray, List.set_cons_zero, List.set_cons_succ, i64_w, i32_w]
      rfl
    refine take_ (i := 1) (N := some 11) (v := ?_) (a' := ?_) #[true, true, false, false, false, true, false, false, false, false, true, false, false, false, false, true, false, false, false, false, true, false, false, false, false, false] rfl rfl (take_ofW HT_.out HW_.out (by kernel_rfl)) (fun _ _ _ h => h) (Or.inl ⟨by rfl, ?_⟩) hHeld ?_ ?_
    rotate_left
    · rintro w' ⟨s0, s1, s2, s3, s4⟩
      go_simp
      with_reducible rfl
    rotate_left
    · simp only [Act.put, List.setIfInBounds_toArray, List.set_cons_zero, List.set_cons_succ, i64_w, i32_w]
      rfl
    refine take_ (i := 6) (N := some 16) (v := ?_) (a' := ?_) #[true, true, false, false, false, true, true, false, false, false, true, false, false, false, false, true, false, false, false, false, true, false, false, false, false, false] rfl rfl (take_ofW HT_.out HW_.out (by kernel_rfl)) (fun _ _ _ h => h) (Or.inl ⟨by rfl, ?_⟩) hHeld ?_ ?_
    rotate_left
    · rintro w' ⟨s0, s1, s2, s3, s4⟩
      go_simp
      with_reducible rfl
    rotate_left
    · simp only [Act.put, List.setIfInBounds_toArray, List.set_cons_zero, List.set_cons_succ, i64_w, i32_w]
      rfl
    refine take_ (i := 11) (N := some 21) (v := ?_) (a' := ?_) #[true, true, false, false, false, true, true, false, false, false, true, true, false, false, false, true, false, false, false, false, true, false, false, false, false, false] rfl rfl (take_ofW HT_.out HW_.out (by kernel_rfl)) (fun _ _ _ h => h) (Or.inl ⟨by rfl, ?_⟩) hHeld ?_ ?_
    rotate_left
    · rintro w' ⟨s0, s1, s2, s3, s4⟩
      go_simp
      with_reducible rfl
    rotate_left
    · simp only [Act.put, List.setIfInBounds_toArray, List.set_cons_zero, List.set_cons_succ, i64_w, i32_w]
      rfl
    refine take_ (i := 16) (N := some 26) (v := ?_) (a' := ?_) #[true, true, false, false, false, true, true, false, false, false, true, true, false, false, false, true, true, false, false, false, true, false, false, false, false, false] rfl rfl (take_ofW HT_.out HW_.out (by kernel_rfl)) (fun _ _ _ h => h) (Or.inl ⟨by rfl, ?_⟩) hHeld ?_ ?_
    rotate_left
    · rintro w' ⟨s0, s1, s2, s3, s4⟩
      go_simp
      with_reducible rfl
    rotate_left
    · simp only [Act.put, List.setIfInBounds_toArray, List.set_cons_zero, List.set_cons_succ, i64_w, i32_w]
      rfl
    refine take_ (i := 21) (N := some 31) (v := ?_) (a' := ?_) #[true, true, false, false, false, true, true, false, false, false, true, true, false, false, false, true, true, false, false, false, true, true, false, false, false, false] rfl rfl (take_ofW HT_.out HW_.out (by kernel_rfl)) (fun _ _ _ h => h) (Or.inl ⟨by rfl, ?_⟩) hHeld ?_ ?_
    rotate_left
    · rintro w' ⟨s0, s1, s2, s3, s4⟩
      go_simp
      with_reducible rfl
    rotate_left
    · simp only [Act.put, List.setIfInBounds_toArray, List.set_cons_zero, List.set_cons_succ, i64_w, i32_w]
      rfl
    refine one_ (i := 2) (N := some 12) #[true, true, true, false, false, true, true, false, false, false, true, true, false, false, false, true, true, false, false, false, true, true, false, false, false, false] rfl rfl (one_of HT_.out (by kernel_rfl)) (by decide) (fun K hK => ?_)
    refine goes_ Tryd.func21 (by kernel_rfl) rfl #[.int .i64 a0_0, .int .i64 2] (by rfl) rfl rfl (by (try simp only [List.map_toArray, List.map_cons, List.map_nil]); first | done | rfl | (simp only [List.length_drop, List.length_take]; rfl)) ?_
    with_reducible refine (impl_digitsOf.calls k a0_0 2 t0 _ A0.out).mono ?_
    rintro e w19 ⟨rfl, hb⟩
    refine ⟨_, rfl, ?_⟩
    replace HC := Aside0.mk (below_step HC.out hb)
    clear hb
    refine hK.out _ _ (hS.out _ HC.out) (fun hHeld => ?_)
    clear hK K
    refine norm_ (a' := ?_) ?_ ?_
    rotate_left
    · show Act.put _ (some 12) _ = _
      simp only [Act.put, List.setIfInBounds_toArray, List.set_cons_zero, List.set_cons_succ, i64_w, i32_w]
      rfl
    refine pure_ (i := 3) (N := some 13) (v := ?_) (a' := ?_) #[true, true, true, true, false, true, true, false, false, false, true, true, false, false, false, true, true, false, false, false, true, true, false, false, false, false] rfl rfl (any_of HT_.out (by kernel_rfl)) (fun _ _ _ h => h) (Or.inl ⟨by rfl, ?_⟩) ?_ ?_
    rotate_left
    · intro w'
      go_simp
      with_reducible rfl
    rotate_left
    · simp only [Act.put, List.setIfInBounds_toArray, List.set_cons_zero, List.set_cons_succ, i64_w, i32_w]
      rfl
    refine pure_ (i := 4) (N := some 14) (v := ?_) (a' := ?_) #[true, true, true, true, true, true, true, false, false, false, true, true, false, false, false, true, true, false, false, false, true, true, false, false, false, false] rfl rfl (any_of HT_.out (by kernel_rfl)) (fun _ _ _ h => h) (Or.inl ⟨by rfl, ?_⟩) ?_ ?_
    rotate_left
    · intro w'
      go_simp
      with_reducible rfl
    rotate_left
    · simp only [Act.put, List.setIfInBounds_toArray, List.set_cons_zero, List.set_cons_succ, i64_w, i32_w]
      rfl
    refine one_ (i := 7) (N := some 17) #[true, true, true, true, true, true, true, true, false, false, true, true, false, false, false, true, true, false, false, false, true, true, false, false, false, false] rfl rfl (one_of HT_.out (by kernel_rfl)) (by decide) (fun K hK => ?_)
    refine goes_ Tryd.func21 (by kernel_rfl) rfl #[.int .i64 a0_1, .int .i64 2] (by rfl) rfl rfl (by (try simp only [List.map_toArray, List.map_cons, List.map_nil]); first | done | rfl | (simp only [List.length_drop, List.length_take]; rfl)) ?_
    with_reducible refine (impl_digitsOf.calls k a0_1 2 t1 _ A1.out).mono ?_
    rintro e w19 ⟨rfl, hb⟩
    refine ⟨_, rfl, ?_⟩
    replace HC := Aside0.mk (below_step HC.out hb)
    clear hb
    refine hK.out _ _ (hS.out _ HC.out) (fun hHeld => ?_)
    clear hK K
    refine norm_ (a' := ?_) ?_ ?_
    rotate_left
    · show Act.put _ (some 17) _ = _
      simp only [Act.put, List.setIfInBounds_toArray, List.set_cons_zero, List.set_cons_succ, i64_w, i32_w]
      rfl
    refine pure_ (i := 8) (N := some 18) (v := ?_) (a' := ?_) #[true, true, true, true, true, true, true, true, true, false, true, true, false, false, false, true, true, false, false, false, true, true, false, false, false, false] rfl rfl (any_of HT_.out (by kernel_rfl)) (fun _ _ _ h => h) (Or.inl ⟨by rfl, ?_⟩) ?_ ?_
    rotate_left
    · intro w'
      go_simp
      with_reducible rfl
    rotate_left
    · simp only [Act.put, List.setIfInBounds_toArray, List.set_cons_zero, List.set_cons_succ, i64_w, i32_w]
      rfl
    refine pure_ (i := 9) (N := some 19) (v := ?_) (a' := ?_) #[true, true, true, true, true, true, true, true, true, true, true, true, false, false, false, true, true, false, false, false, true, true, false, false, false, false] rfl rfl (any_of HT_.out (by kernel_rfl)) (fun _ _ _ h => h) (Or.inl ⟨by rfl, ?_⟩) ?_ ?_
    rotate_left
    · intro w'
      go_simp
      with_reducible rfl
    rotate_left
    · simp only [Act.put, List.setIfInBounds_toArray, List.set_cons_zero, List.set_cons_succ, i64_w, i32_w]
      rfl
    refine one_ (i := 12) (N := some 22) #[true, true, true, true, true, true, true, true, true, true, true, true, true, false, false, true, true, false, false, false, true, true, false, false, false, false] rfl rfl (one_of HT_.out (by kernel_rfl)) (by decide) (fun K hK => ?_)
    refine goes_ Tryd.func21 (by kernel_rfl) rfl #[.int .i64 a0_2, .int .i64 2] (by rfl) rfl rfl (by (try simp only [List.map_toArray, List.map_cons, List.map_nil]); first | done | rfl | (simp only [List.length_drop, List.length_take]; rfl)) ?_
    with_reducible refine (impl_digitsOf.calls k a0_2 2 t2 _ A2.out).mono ?_
    rintro e w19 ⟨rfl, hb⟩
    refine ⟨_, rfl, ?_⟩
    replace HC := Aside0.mk (below_step HC.out hb)
    clear hb
    refine hK.out _ _ (hS.out _ HC.out) (fun hHeld => ?_)
    clear hK K
    refine norm_ (a' := ?_) ?_ ?_
    rotate_left
    · show Act.put _ (some 22) _ = _
      simp only [Act.put, List.setIfInBounds_toArray, List.set_cons_zero, List.set_cons_succ, i64_w, i32_w]
      rfl
    refine pure_ (i := 13) (N := some 23) (v := ?_) (a' := ?_) #[true, true, true, true, true, true, true, true, true, true, true, true, true, true, false, true, true, false, false, false, true, true, false, false, false, false] rfl rfl (any_of HT_.out (by kernel_rfl)) (fun _ _ _ h => h) (Or.inl ⟨by rfl, ?_⟩) ?_ ?_
    rotate_left
    · intro w'
      go_simp
      with_reducible rfl
    rotate_left
    · simp only [Act.put, List.setIfInBounds_toArray, List.set_cons_zero, List.set_cons_succ, i64_w, i32_w]
      rfl
    refine pure_ (i := 14) (N := some 24) (v := ?_) (a' := ?_) #[true, true, true, true, true, true, true, true, true, true, true, true, true, true, true, true, true, false, false, false, true, true, false, false, false, false] rfl rfl (any_of HT_.out (by kernel_rfl)) (fun _ _ _ h => h) (Or.inl ⟨by rfl, ?_⟩) ?_ ?_
    rotate_left
    · intro w'
      go_simp
      with_reducible rfl
    rotate_left
    · simp only [Act.put, List.setIfInBounds_toArray, List.set_cons_zero, List.set_cons_succ, i64_w, i32_w]
      rfl
    refine one_ (i := 17) (N := some 27) #[true, true, true, true, true, true, true, true, true, true, true, true, true, true, true, true, true, true, false, false, true, true, false, false, false, false] rfl rfl (one_of HT_.out (by kernel_rfl)) (by decide) (fun K hK => ?_)
    refine goes_ Tryd.func21 (by kernel_rfl) rfl #[.int .i64 a0_3, .int .i64 2] (by rfl) rfl rfl (by (try simp only [List.map_toArray, List.map_cons, List.map_nil]); first | done | rfl | (simp only [List.length_drop, List.length_take]; rfl)) ?_
    with_reducible refine (impl_digitsOf.calls k a0_3 2 t3 _ A3.out).mono ?_
    rintro e w19 ⟨rfl, hb⟩
    refine ⟨_, rfl, ?_⟩
    replace HC := Aside0.mk (below_step HC.out hb)
    clear hb
    refine hK.out _ _ (hS.out _ HC.out) (fun hHeld => ?_)
    clear hK K
    refine norm_ (a' := ?_) ?_ ?_
    rotate_left
    · show Act.put _ (some 27) _ = _
      simp only [Act.put, List.setIfInBounds_toArray, List.set_cons_zero, List.set_cons_succ, i64_w, i32_w]
      rfl
    refine pure_ (i := 18) (N := some 28) (v := ?_) (a' := ?_) #[true, true, true, true, true, true, true, true, true, true, true, true, true, true, true, true, true, true, true, false, true, true, false, false, false, false] rfl rfl (any_of HT_.out (by kernel_rfl)) (fun _ _ _ h => h) (Or.inl ⟨by rfl, ?_⟩) ?_ ?_
    rotate_left
    · intro w'
      go_simp
      with_reducible rfl
    rotate_left
    · simp only [Act.put, List.setIfInBounds_toArray, List.set_cons_zero, List.set_cons_succ, i64_w, i32_w]
      rfl
    refine pure_ (i := 19) (N := some 29) (v := ?_) (a' := ?_) #[true, true, true, true, true, true, true, true, true, true, true, true, true, true, true, true, true, true, true, true, true, true, false, false, false, false] rfl rfl (any_of HT_.out (by kernel_rfl)) (fun _ _ _ h => h) (Or.inl ⟨by rfl, ?_⟩) ?_ ?_
    rotate_left
    · intro w'
      go_simp
      with_reducible rfl
    rotate_left
    · simp only [Act.put, List.setIfInBounds_toArray, List.set_cons_zero, List.set_cons_succ, i64_w, i32_w]
      rfl
    refine one_ (i := 22) (N := some 32) #[true, true, true, true, true, true, true, true, true, true, true, true, true, true, true, true, true, true, true, true, true, true, true, false, false, false] rfl rfl (one_of HT_.out (by kernel_rfl)) (by decide) (fun K hK => ?_)
    refine goes_ Tryd.func21 (by kernel_rfl) rfl #[.int .i64 a0_4, .int .i64 4] (by rfl) rfl rfl (by (try simp only [List.map_toArray, List.map_cons, List.map_nil]); first | done | rfl | (simp only [List.length_drop, List.length_take]; rfl)) ?_
    with_reducible refine (impl_digitsOf.calls k a0_4 4 t4 _ A4.out).mono ?_
    rintro e w19 ⟨rfl, hb⟩
    refine ⟨_, rfl, ?_⟩
    replace HC := Aside0.mk (below_step HC.out hb)
    clear hb
    refine hK.out _ _ (hS.out _ HC.out) (fun hHeld => ?_)
    clear hK K
    refine norm_ (a' := ?_) ?_ ?_
    rotate_left
    · show Act.put _ (some 32) _ = _
      simp only [Act.put, List.setIfInBounds_toArray, List.set_cons_zero, List.set_cons_succ, i64_w, i32_w]
      rfl
    refine pure_ (i := 23) (N := some 33) (v := ?_) (a' := ?_) #[true, true, true, true, true, true, true, true, true, true, true, true, true, true, true, true, true, true, true, true, true, true, true, true, false, false] rfl rfl (any_of HT_.out (by kernel_rfl)) (fun _ _ _ h => h) (Or.inl ⟨by rfl, ?_⟩) ?_ ?_
    rotate_left
    · intro w'
      go_simp
      with_reducible rfl
    rotate_left
    · simp only [Act.put, List.setIfInBounds_toArray, List.set_cons_zero, List.set_cons_succ, i64_w, i32_w]
      rfl
    refine pure_ (i := 24) (N := some 34) (v := ?_) (a' := ?_) #[true, true, true, true, true, true, true, true, true, true, true, true, true, true, true, true, true, true, true, true, true, true, true, true, true, false] rfl rfl (any_of HT_.out (by kernel_rfl)) (fun _ _ _ h => h) (Or.inl ⟨by rfl, ?_⟩) ?_ ?_
    rotate_left
    · intro w'
      go_simp
      with_reducible rfl
    rotate_left
    · simp only [Act.put, List.setIfInBounds_toArray, List.set_cons_zero, List.set_cons_succ, i64_w, i32_w]
      rfl
    refine pure_ (i := 25) (N := some 3) (v := ?_) (a' := ?_) #[true, true, true, true, true, true, true, true, true, true, true, true, true, true, true, true, true, true, true, true, true, true, true, true, true, true] rfl rfl (any_of HT_.out (by kernel_rfl)) (fun _ _ _ h => h) (Or.inl ⟨by rfl, ?_⟩) ?_ ?_
    rotate_left
    · intro w'
      go_simp
      with_reducible rfl
    rotate_left
    · simp only [Act.put, List.setIfInBounds_toArray, List.set_cons_zero, List.set_cons_succ, i64_w, i32_w]
      rfl
    refine done_ (done_of HT_.out (by kernel_rfl)) ?_
    replace BK := Aside0.mk (blk_below BK.out HC.out)
    replace HB := Aside0.mk (below_step HB.out HC.out)
    clear hHeld HC hS HT_ HW_ A0 A1 A2 A3 A4
    clear e0b0 e0b1 e0b2 e0b7 e0b8 e0bA e1b0 e1b1 e1b2 e1b7 e1b8 e1bA e2b0 e2b1 e2b2 e2b7 e2b8 e2bA e3b0 e3b1 e3b2 e3b7 e3b8 e3bA e4b0 e4b1 e4b2 e4b7 e4b8 e4bA e5b0 e5b1 e5b2 e5b7 e5b8 e5bA e6b0 e6b1 e6b2 e6b7 e6b8 e6bA e7b0 e7b1 e7b2 e7b7 e7b8 e7bA e8b0 e8b1 e8b2 e8b7 e8b8 e8bA e9b0 e9b1 e9b2 e9b7 e9b8 e9bA AT ht
    go_upto_region 5 with (first | (go_at_call 17; (with_reducible refine (KF.fields_lit gb _).mono ?_); rintro e w20 ⟨rfl, hb⟩; have n0_ := Aside0.mk (blk_below (g := gb) (o := .cells #[.int .i64 a0_0, .int .i64 a0_1, .int .i64 a0_2, .int .i64 a0_3, .int .i64 a0_4, .int .i64 a0_5, .int .i64 a0_6, .int .i64 a0_7, .int .i64 a0_8, .int .i64 a0_9, .int .i64 a0_10] 25 (0, 0)) (by (with_reducible repeat (first | refine blk_drewN ?_ _ | refine blk_drew ?_ | refine blk_alloc ?_ _)); exact BK.out) hb); have n1_ := Aside0.mk (below_step (by repeat (first | (with_reducible first | exact HB.out | apply below_alloc | apply pw_below_drewN | apply below_drew1 | refine below_set ?_ GE.out) | exact HB.out)) hb); clear BK HB; have BK := n0_; have HB := n1_; clear n0_ n1_; (try clear hb)) | ((with_reducible refine gate_dst (N := 4) rfl ?_); refine box_event ?hg (N := 4) ?hd (cs := #[.pointer none, .pointer none, .pointer none, .pointer none, .pointer none, .pointer none, .pointer none, .pointer none, .pointer none, .pointer none, .pointer none]) (t := 37) ?hr ?_; (case hd => rfl); (case hg => rfl); (case hr => first | (go_simp; done) | (go_simp; rfl)); intro ga hg w21 hbox hb; have n0_ := Aside0.mk (below_step (by repeat (first | (with_reducible first | exact HB.out | apply below_alloc | apply pw_below_drewN | apply below_drew1 | refine below_set ?_ GE.out) | exact HB.out)) hb); have n1_ := Aside0.mk (hbox); have n2_ := Aside0.mk (blk_below (g := gb) (o := .cells #[.int .i64 a0_0, .int .i64 a0_1, .int .i64 a0_2, .int .i64 a0_3, .int .i64 a0_4, .int .i64 a0_5, .int .i64 a0_6, .int .i64 a0_7, .int .i64 a0_8, .int .i64 a0_9, .int .i64 a0_10] 25 (0, 0)) (by (with_reducible repeat (first | refine blk_drewN ?_ _ | refine blk_drew ?_ | refine blk_alloc ?_ _)); exact BK.out) hb); have n3_ := Aside0.mk ((by rw [hg]; exact (below_size (by repeat (first | (with_reducible first | exact HB.out | apply below_alloc | apply pw_below_drewN | apply below_drew1 | refine below_set ?_ GE.out) | exact HB.out))) : w.heap.size ≤ ga)); have n4_ := Aside0.mk (show gb ≠ ga by have := blk_lt BK.out; omega); clear HB BK; have HB := n0_; have BKA := n1_; have BK := n2_; have GA := n3_; have NE := n4_; clear n0_ n1_ n2_ n3_ n4_; clear hb hbox hg; have hs_0 : w21.cell? ⟨ga, 0, none⟩ = some (.pointer none) := (blk_cell BKA.out 0).trans rfl; have hfs_0 := blk_frozen BKA.out 0; have hs_1 : w21.cell? ⟨ga, 1, none⟩ = some (.pointer none) := (blk_cell BKA.out 1).trans rfl; have hfs_1 := blk_frozen BKA.out 1; have hs_2 : w21.cell? ⟨ga, 2, none⟩ = some (.pointer none) := (blk_cell BKA.out 2).trans rfl; have hfs_2 := blk_frozen BKA.out 2; have hs_3 : w21.cell? ⟨ga, 3, none⟩ = some (.pointer none) := (blk_cell BKA.out 3).trans rfl; have hfs_3 := blk_frozen BKA.out 3; have hs_4 : w21.cell? ⟨ga, 4, none⟩ = some (.pointer none) := (blk_cell BKA.out 4).trans rfl; have hfs_4 := blk_frozen BKA.out 4; have hs_5 : w21.cell? ⟨ga, 5, none⟩ = some (.pointer none) := (blk_cell BKA.out 5).trans rfl; have hfs_5 := blk_frozen BKA.out 5; have hs_6 : w21.cell? ⟨ga, 6, none⟩ = some (.pointer none) := (blk_cell BKA.out 6).trans rfl; have hfs_6 := blk_frozen BKA.out 6; have hs_7 : w21.cell? ⟨ga, 7, none⟩ = some (.pointer none) := (blk_cell BKA.out 7).trans rfl; have hfs_7 := blk_frozen BKA.out 7; have hs_8 : w21.cell? ⟨ga, 8, none⟩ = some (.pointer none) := (blk_cell BKA.out 8).trans rfl; have hfs_8 := blk_frozen BKA.out 8; have hs_9 : w21.cell? ⟨ga, 9, none⟩ = some (.pointer none) := (blk_cell BKA.out 9).trans rfl; have hfs_9 := blk_frozen BKA.out 9; have hs_10 : w21.cell? ⟨ga, 10, none⟩ = some (.pointer none) := (blk_cell BKA.out 10).trans rfl; have hfs_10 := blk_frozen BKA.out 10))
    try go_wp2
    clear hs_0 hfs_0 hs_1 hfs_1 hs_2 hfs_2 hs_3 hfs_3 hs_4 hfs_4 hs_5 hfs_5 hs_6 hfs_6 hs_7 hfs_7 hs_8 hfs_8 hs_9 hfs_9 hs_10 hfs_10
    have hhd : Aside0 ((impl_KnowText.head t0 t1 t2 t3 t4).size + 6 ≤ 10000 + 0) := by
      have hz := C8.out
      have z0 : (⟨#[65, 61]⟩ : ByteArray).size = 2 := rfl
      have z1 : (⟨#[32, 88, 61]⟩ : ByteArray).size = 3 := rfl
      have z2 : (⟨#[32, 89, 61]⟩ : ByteArray).size = 3 := rfl
      have z3 : (⟨#[32, 83, 61]⟩ : ByteArray).size = 3 := rfl
      have z4 : (⟨#[32, 80, 67, 61]⟩ : ByteArray).size = 4 := rfl
      have z5 : (⟨#[32]⟩ : ByteArray).size = 1 := rfl
      refine ⟨?_⟩
      unfold impl_KnowText.head
      simp only [ByteArray.size_append, z0, z1, z2, z3, z4, z5]
      omega
    go_loopg [3, 38] 7 (fun kq v3 v38 w' => ∃ (acc : ByteArray) (i : Nat), v3 = .string acc ∧ v38 = .int .i64 (i : Int) ∧ Aside0 (kq + i = 7 ∧ i ≤ 6 ∧ acc.size + 6 ≤ 10000 + i ∧ impl_KnowText.signs (([a0_5, a0_6, a0_7, a0_8, a0_9, a0_10] : List Int).drop i) i acc = r) ∧ Aside0 (w'.heap[gb]? = some (.cells #[.int .i64 a0_0, .int .i64 a0_1, .int .i64 a0_2, .int .i64 a0_3, .int .i64 a0_4, .int .i64 a0_5, .int .i64 a0_6, .int .i64 a0_7, .int .i64 a0_8, .int .i64 a0_9, .int .i64 a0_10] 25 (0, 0))) ∧ Aside0 (w'.heap[ga]? = some (.cells (KF.ptrs gb) 37 (0, 0))) ∧ Aside0 (Below w.heap.size w w'))
    case atStart => exact ⟨impl_KnowText.head t0 t1 t2 t3 t4, 0, rfl, (by first | rfl | (simp; done) | (simp [*]; done)), ⟨rfl, by omega, hhd.out, H.out⟩, ⟨by (with_reducible repeat (refine blk_far ?_ NE.out _)); exact BK.out⟩, ⟨by refine blk_put (cs := #[.pointer (some ⟨gb, 0, none⟩), .pointer (some ⟨gb, 1, none⟩), .pointer (some ⟨gb, 2, none⟩), .pointer (some ⟨gb, 3, none⟩), .pointer (some ⟨gb, 4, none⟩), .pointer (some ⟨gb, 5, none⟩), .pointer (some ⟨gb, 6, none⟩), .pointer (some ⟨gb, 7, none⟩), .pointer (some ⟨gb, 8, none⟩), .pointer (some ⟨gb, 9, none⟩), .pointer none]) ?_ 10 _ rfl; refine blk_put (cs := #[.pointer (some ⟨gb, 0, none⟩), .pointer (some ⟨gb, 1, none⟩), .pointer (some ⟨gb, 2, none⟩), .pointer (some ⟨gb, 3, none⟩), .pointer (some ⟨gb, 4, none⟩), .pointer (some ⟨gb, 5, none⟩), .pointer (some ⟨gb, 6, none⟩), .pointer (some ⟨gb, 7, none⟩), .pointer (some ⟨gb, 8, none⟩), .pointer none, .pointer none]) ?_ 9 _ rfl; refine blk_put (cs := #[.pointer (some ⟨gb, 0, none⟩), .pointer (some ⟨gb, 1, none⟩), .pointer (some ⟨gb, 2, none⟩), .pointer (some ⟨gb, 3, none⟩), .pointer (some ⟨gb, 4, none⟩), .pointer (some ⟨gb, 5, none⟩), .pointer (some ⟨gb, 6, none⟩), .pointer (some ⟨gb, 7, none⟩), .pointer none, .pointer none, .pointer none]) ?_ 8 _ rfl; refine blk_put (cs := #[.pointer (some ⟨gb, 0, none⟩), .pointer (some ⟨gb, 1, none⟩), .pointer (some ⟨gb, 2, none⟩), .pointer (some ⟨gb, 3, none⟩), .pointer (some ⟨gb, 4, none⟩), .pointer (some ⟨gb, 5, none⟩), .pointer (some ⟨gb, 6, none⟩), .pointer none, .pointer none, .pointer none, .pointer none]) ?_ 7 _ rfl; refine blk_put (cs := #[.pointer (some ⟨gb, 0, none⟩), .pointer (some ⟨gb, 1, none⟩), .pointer (some ⟨gb, 2, none⟩), .pointer (some ⟨gb, 3, none⟩), .pointer (some ⟨gb, 4, none⟩), .pointer (some ⟨gb, 5, none⟩), .pointer none, .pointer none, .pointer none, .pointer none, .pointer none]) ?_ 6 _ rfl; refine blk_put (cs := #[.pointer (some ⟨gb, 0, none⟩), .pointer (some ⟨gb, 1, none⟩), .pointer (some ⟨gb, 2, none⟩), .pointer (some ⟨gb, 3, none⟩), .pointer (some ⟨gb, 4, none⟩), .pointer none, .pointer none, .pointer none, .pointer none, .pointer none, .pointer none]) ?_ 5 _ rfl; refine blk_put (cs := #[.pointer (some ⟨gb, 0, none⟩), .pointer (some ⟨gb, 1, none⟩), .pointer (some ⟨gb, 2, none⟩), .pointer (some ⟨gb, 3, none⟩), .pointer none, .pointer none, .pointer none, .pointer none, .pointer none, .pointer none, .pointer none]) ?_ 4 _ rfl; refine blk_put (cs := #[.pointer (some ⟨gb, 0, none⟩), .pointer (some ⟨gb, 1, none⟩), .pointer (some ⟨gb, 2, none⟩), .pointer none, .pointer none, .pointer none, .pointer none, .pointer none, .pointer none, .pointer none, .pointer none]) ?_ 3 _ rfl; refine blk_put (cs := #[.pointer (some ⟨gb, 0, none⟩), .pointer (some ⟨gb, 1, none⟩), .pointer none, .pointer none, .pointer none, .pointer none, .pointer none, .pointer none, .pointer none, .pointer none, .pointer none]) ?_ 2 _ rfl; refine blk_put (cs := #[.pointer (some ⟨gb, 0, none⟩), .pointer none, .pointer none, .pointer none, .pointer none, .pointer none, .pointer none, .pointer none, .pointer none, .pointer none, .pointer none]) ?_ 1 _ rfl; refine blk_put (cs := #[.pointer none, .pointer none, .pointer none, .pointer none, .pointer none, .pointer none, .pointer none, .pointer none, .pointer none, .pointer none, .pointer none]) ?_ 0 _ rfl; exact BKA.out⟩, ⟨by repeat (first | (with_reducible first | exact HB.out | apply below_alloc | apply pw_below_drewN | apply below_drew1 | refine below_set ?_ GE.out | refine below_set ?_ GA.out) | exact HB.out)⟩⟩
    case round =>
      clear H hhd C8 BK BKA HB
      obtain ⟨acc, i, rfl, rfl, HA, BK, BKA, HB⟩ := hrel
      obtain ⟨hk, hi, hz, hr⟩ := HA.out
      clear HA
      by_cases c : i < 6
      · have c0 : decide ((i : Int) < 6) = true := decide_eq_true (by omega)
        obtain ⟨x, hx, hs⟩ := impl_KnowText.part a0_0 a0_1 a0_2 a0_3 a0_4 a0_5 a0_6 a0_7 a0_8 a0_9 a0_10 i c
        rw [hs acc] at hr
        clear hs
        cases gk with
        | zero => omega
        | succ k1 =>
          have hw1 : wrap64 ((i : Int) + 1) = ((i + 1 : Nat) : Int) := by unfold wrap64; omega
          have hcell : wr.cell? ⟨gb, 5 + i, none⟩ = some (.int .i64 x) := (blk_cell BK.out (5 + i)).trans hx
          have hpt : wr.cell? ⟨ga, 5 + i, none⟩ = some (.pointer (some ⟨gb, 5 + i, none⟩)) := (blk_cell BKA.out (5 + i)).trans (impl_KnowText.ptr gb i c)
          clear hx
          have i0 : (0 ≤ (i : Int)) = True := eq_true (by omega)
          have i1 : ((i : Int) < 6) = True := eq_true (by omega)
          have i2 : (i < 6) = True := eq_true c
          have hac : acc.size ≤ 10000 := by omega
          by_cases h0 : x = -1
          · subst h0
            have he : Aside0 ((⟨#[63]⟩ : ByteArray).size = 1) := ⟨rfl⟩
            have H : Aside0 (impl_KnowText.signs (([a0_5, a0_6, a0_7, a0_8, a0_9, a0_10] : List Int).drop (i + 1)) (i + 1) (acc ++ (⟨#[63]⟩ : ByteArray)) = r) := ⟨hr⟩
            clear hr
            have e : acc.size + 1 ≤ 9223372036854775807 := by omega
            have eb0 := eq_true e
            have eb1 := decide_eq_true e
            have eb2 : (9223372036854775807 < acc.size + 1) = False := eq_false (Nat.not_lt.2 e)
            clear e
            go_wp2
            repeat (go_quiet (fail); try go_wp2)
            go_roundg k1
            case measure => omega
            case rel => exact ⟨(acc ++ (⟨#[63]⟩ : ByteArray)), i + 1, (by first | rfl | (simp; done) | (simp [*]; done)), (by first | rfl | (simp only [hw1]; done) | (simp [hw1]; done)), ⟨by omega, by omega, by rw [ByteArray.size_append]; have := he.out; omega, H.out⟩, ⟨by (with_reducible repeat (first | refine blk_drewN ?_ _ | refine blk_drew ?_ | refine blk_alloc ?_ _)); exact BK.out⟩, ⟨by (with_reducible repeat (first | refine blk_drewN ?_ _ | refine blk_drew ?_ | refine blk_alloc ?_ _)); exact BKA.out⟩, ⟨by repeat (first | (with_reducible first | exact HB.out | apply below_alloc | apply pw_below_drewN | apply below_drew1 | refine below_set ?_ GE.out | refine below_set ?_ GA.out) | exact HB.out)⟩⟩
          have b0 : (x == -1) = false := beq_eq_false_iff_ne.mpr h0
          by_cases h1 : x = 0
          · subst h1
            have he : Aside0 ((⟨#[45]⟩ : ByteArray).size = 1) := ⟨rfl⟩
            have H : Aside0 (impl_KnowText.signs (([a0_5, a0_6, a0_7, a0_8, a0_9, a0_10] : List Int).drop (i + 1)) (i + 1) (acc ++ (⟨#[45]⟩ : ByteArray)) = r) := ⟨hr⟩
            clear hr
            have e : acc.size + 1 ≤ 9223372036854775807 := by omega
            have eb0 := eq_true e
            have eb1 := decide_eq_true e
            have eb2 : (9223372036854775807 < acc.size + 1) = False := eq_false (Nat.not_lt.2 e)
            clear e
            go_wp2
            repeat (go_quiet (fail); try go_wp2)
            go_roundg k1
            case measure => omega
            case rel => exact ⟨(acc ++ (⟨#[45]⟩ : ByteArray)), i + 1, (by first | rfl | (simp; done) | (simp [*]; done)), (by first | rfl | (simp only [hw1]; done) | (simp [hw1]; done)), ⟨by omega, by omega, by rw [ByteArray.size_append]; have := he.out; omega, H.out⟩, ⟨by (with_reducible repeat (first | refine blk_drewN ?_ _ | refine blk_drew ?_ | refine blk_alloc ?_ _)); exact BK.out⟩, ⟨by (with_reducible repeat (first | refine blk_drewN ?_ _ | refine blk_drew ?_ | refine blk_alloc ?_ _)); exact BKA.out⟩, ⟨by repeat (first | (with_reducible first | exact HB.out | apply below_alloc | apply pw_below_drewN | apply below_drew1 | refine below_set ?_ GE.out | refine below_set ?_ GA.out) | exact HB.out)⟩⟩
          have b1 : (x == 0) = false := beq_eq_false_iff_ne.mpr h1
          have he : Aside0 (((⟨#[78, 86, 68, 73, 90, 67]⟩ : ByteArray).extract i (i + 1)).size ≤ 1) := ⟨by rw [ByteArray.size_extract]; omega⟩
          have H : Aside0 (impl_KnowText.signs (([a0_5, a0_6, a0_7, a0_8, a0_9, a0_10] : List Int).drop (i + 1)) (i + 1) (acc ++ ((⟨#[78, 86, 68, 73, 90, 67]⟩ : ByteArray).extract i (i + 1))) = r) := ⟨by unfold impl_KnowText.sign at hr; rw [if_neg h0, if_neg h1] at hr; exact hr⟩
          clear hr
          have g5 : (i : Int) ≤ (i : Int) + 1 := by omega
          have g6 : (i : Int) + 1 ≤ 6 := by omega
          have hei := he.out
          have e : acc.size + ((⟨#[78, 86, 68, 73, 90, 67]⟩ : ByteArray).extract i (i + 1)).size ≤ 9223372036854775807 := by omega
          have eb0 := eq_true e
          have eb1 := decide_eq_true e
          have eb2 : (9223372036854775807 < acc.size + ((⟨#[78, 86, 68, 73, 90, 67]⟩ : ByteArray).extract i (i + 1)).size) = False := eq_false (Nat.not_lt.2 e)
          clear e
          clear hei
          have eX : (9223372036854775807 < acc.size + (i + 1 - i)) = False := eq_false (by omega)
          have eZ : (9223372036854775807 < acc.size + (min (i + 1) 6 - i)) = False := eq_false (by omega)
          have g5b0 := decide_eq_true g5
          replace g5 := eq_true g5
          have g6b0 := decide_eq_true g6
          replace g6 := eq_true g6
          go_wp2
          repeat (go_quiet (fail); try go_wp2)
          go_roundg k1
          case measure => omega
          case rel => exact ⟨(acc ++ ((⟨#[78, 86, 68, 73, 90, 67]⟩ : ByteArray).extract i (i + 1))), i + 1, (by first | rfl | (simp; done) | (simp [*]; done)), (by first | rfl | (simp only [hw1]; done) | (simp [hw1]; done)), ⟨by omega, by omega, by rw [ByteArray.size_append]; have := he.out; omega, H.out⟩, ⟨by (with_reducible repeat (first | refine blk_drewN ?_ _ | refine blk_drew ?_ | refine blk_alloc ?_ _)); exact BK.out⟩, ⟨by (with_reducible repeat (first | refine blk_drewN ?_ _ | refine blk_drew ?_ | refine blk_alloc ?_ _)); exact BKA.out⟩, ⟨by repeat (first | (with_reducible first | exact HB.out | apply below_alloc | apply pw_below_drewN | apply below_drew1 | refine below_set ?_ GE.out | refine below_set ?_ GA.out) | exact HB.out)⟩⟩
      · have c0 : decide ((i : Int) < 6) = false := decide_eq_false (by omega)
        obtain rfl : i = 6 := by omega
        replace hr : acc = r := hr
        subst hr
        go_wp2
        repeat (go_quiet (fail); try go_wp2)
        go_ret
        exact ⟨by first | rfl | (simp; done), by repeat (first | (with_reducible first | exact HB.out | apply below_alloc | apply pw_below_drewN | apply below_drew1 | refine below_set ?_ GE.out | refine below_set ?_ GA.out) | exact HB.out)⟩

/-! ### impl_Row: function 6 -/
def impl_Row.j0 : Nat → Int → ByteArray → Bool → Int → Int → Int → Int → Int → Int → Int → Int → Int → Int → Int → Option (ByteArray)
 | 0, _, _, _, _, _, _, _, _, _, _, _, _, _, _ => none
 | k + 1, x0, x2, x13, x141000, x141001, x141002, x141003, x141004, x141005, x141006, x141007, x141008, x141009, x141010 => if x13 = true then (some (⟨#[]⟩ : ByteArray)) else ((impl_DecText.f x0).bind fun t142 => (if t142.size + 1 ≤ 9223372036854775807 then ((impl_KnowText.f k x141000 x141001 x141002 x141003 x141004 x141005 x141006 x141007 x141008 x141009 x141010).bind fun t143 => (if (t142 ++ (⟨#[32]⟩ : ByteArray)).size + t143.size ≤ 9223372036854775807 then (if ((t142 ++ (⟨#[32]⟩ : ByteArray)) ++ t143).size + 1 ≤ 9223372036854775807 then (if (((t142 ++ (⟨#[32]⟩ : ByteArray)) ++ t143) ++ (⟨#[32]⟩ : ByteArray)).size + x2.size ≤ 9223372036854775807 then (some ((((t142 ++ (⟨#[32]⟩ : ByteArray)) ++ t143) ++ (⟨#[32]⟩ : ByteArray)) ++ x2)) else (none)) else (none)) else (none))) else (none)))
def impl_Row.f (k : Nat) (a0 : Int) (a1_0 : Int) (a1_1 : Int) (a1_2 : Int) (a1_3 : Int) (a1_4 : Int) (a1_5 : Int) (a1_6 : Int) (a1_7 : Int) (a1_8 : Int) (a1_9 : Int) (a1_10 : Int) (a2 : ByteArray) : Option (ByteArray) := if a0 < 0 then (impl_Row.j0 k a0 a2 true a1_0 a1_1 a1_2 a1_3 a1_4 a1_5 a1_6 a1_7 a1_8 a1_9 a1_10) else ((impl_KnowOk.f k a1_0 a1_1 a1_2 a1_3 a1_4 a1_5 a1_6 a1_7 a1_8 a1_9 a1_10).bind fun t141 => (impl_Row.j0 k a0 a2 (!t141) a1_0 a1_1 a1_2 a1_3 a1_4 a1_5 a1_6 a1_7 a1_8 a1_9 a1_10))
theorem impl_Row.mono_l : ∀ k, (∀ y0 y1 y2 y3 y4 y5 y6 y7 y8 y9 y10 y11 y12 y13, LeO (impl_Row.j0 k y0 y1 y2 y3 y4 y5 y6 y7 y8 y9 y10 y11 y12 y13) (impl_Row.j0 (k + 1) y0 y1 y2 y3 y4 y5 y6 y7 y8 y9 y10 y11 y12 y13))
 | 0 => fun _ _ _ _ _ _ _ _ _ _ _ _ _ _ r h => by simp [impl_Row.j0] at h
 | k + 1 => by
  have ih0 := impl_Row.mono_l k
  ·intro y0 y1 y2 y3 y4 y5 y6 y7 y8 y9 y10 y11 y12 y13
   unfold impl_Row.j0
   repeat' first
   | (with_reducible exact ih0 _ _ _ _ _ _ _ _ _ _ _ _ _ _)
   | (with_reducible exact impl_KnowOk.mono _ _ _ _ _ _ _ _ _ _ _ _)
   | (with_reducible exact impl_KnowText.mono _ _ _ _ _ _ _ _ _ _ _ _)
   | (with_reducible exact LeO.refl _)
   | (with_reducible exact LeO.none _)
   | (with_reducible refine LeO.ite ?_ ?_)
   | (with_reducible refine LeO.bind ?_ (fun _ => ?_))
   | exact ih0 _ _ _ _ _ _ _ _ _ _ _ _ _ _
   | exact impl_KnowOk.mono _ _ _ _ _ _ _ _ _ _ _ _
   | exact impl_KnowText.mono _ _ _ _ _ _ _ _ _ _ _ _
   | exact LeO.none _
   | refine LeO.ite ?_ ?_
   | refine LeO.bind ?_ (fun _ => ?_)
theorem impl_Row.mono : ∀ a0 a1 a2 a3 a4 a5 a6 a7 a8 a9 a10 a11 a12 k, LeO (impl_Row.f k a0 a1 a2 a3 a4 a5 a6 a7 a8 a9 a10 a11 a12) (impl_Row.f (k + 1) a0 a1 a2 a3 a4 a5 a6 a7 a8 a9 a10 a11 a12) := by
 intro a0 a1 a2 a3 a4 a5 a6 a7 a8 a9 a10 a11 a12 k
 have ih0 := impl_Row.mono_l k
 unfold impl_Row.f
 repeat' first
   | (with_reducible exact ih0 _ _ _ _ _ _ _ _ _ _ _ _ _ _)
   | (with_reducible exact impl_KnowOk.mono _ _ _ _ _ _ _ _ _ _ _ _)
   | (with_reducible exact impl_KnowText.mono _ _ _ _ _ _ _ _ _ _ _ _)
   | (with_reducible exact LeO.refl _)
   | (with_reducible exact LeO.none _)
   | (with_reducible refine LeO.ite ?_ ?_)
   | (with_reducible refine LeO.bind ?_ (fun _ => ?_))
   | exact ih0 _ _ _ _ _ _ _ _ _ _ _ _ _ _
   | exact impl_KnowOk.mono _ _ _ _ _ _ _ _ _ _ _ _
   | exact impl_KnowText.mono _ _ _ _ _ _ _ _ _ _ _ _
   | exact LeO.none _
   | refine LeO.ite ?_ ?_
   | refine LeO.bind ?_ (fun _ => ?_)
def impl_Row.T3 : Bool × List (List Nat × List Nat) := (true, [([], []), ([0], [0]), ([1], [1]), ([], []), ([3, 1], [3]), ([2, 4], [2, 4]), ([5], [5]), ([], []), ([6, 7], [6, 7]), ([8, 4, 0, 1, 2, 3, 4, 5, 6, 7, 8], [8])])
def impl_Row.B3 : List Nat := [0, 1, 3, 0, 11, 31, 63, 0, 255, 511]
theorem impl_Row.tab3 : rtab .any (opsOf Tryd.f6 3) = impl_Row.T3 := by kernel_rfl
theorem impl_Row.bits3 : waitsOk impl_Row.T3.2 impl_Row.B3 = true := by kernel_rfl
set_option maxHeartbeats 8000000 in
set_option maxRecDepth 100000 in
theorem impl_Row.calls (k : Nat) (a0 : Int) (a1_0 : Int) (a1_1 : Int) (a1_2 : Int) (a1_3 : Int) (a1_4 : Int) (a1_5 : Int) (a1_6 : Int) (a1_7 : Int) (a1_8 : Int) (a1_9 : Int) (a1_10 : Int) (a2 : ByteArray) (r : ByteArray) (w : World) (h : impl_Row.f k a0 a1_0 a1_1 a1_2 a1_3 a1_4 a1_5 a1_6 a1_7 a1_8 a1_9 a1_10 a2 = some r) (HT : Aside0 (Giv.TabW w)) :
  Calls Tryd.prog 6 #[.int .i64 a0, .agg #[.int .i64 a1_0, .int .i64 a1_1, .int .i64 a1_2, .int .i64 a1_3, .int .i64 a1_4, .int .i64 a1_5, .int .i64 a1_6, .int .i64 a1_7, .int .i64 a1_8, .int .i64 a1_9, .int .i64 a1_10], .string a2] w fun e w' => e = .returned (.string r) ∧ Below w.heap.size w w' := by
 have hu25 := Tryd.underlying25
 have HB := Aside0.mk (Below.refl w.heap.size w)
 have H : (if a0 < 0 then (impl_Row.j0 k a0 a2 true a1_0 a1_1 a1_2 a1_3 a1_4 a1_5 a1_6 a1_7 a1_8 a1_9 a1_10) else ((impl_KnowOk.f k a1_0 a1_1 a1_2 a1_3 a1_4 a1_5 a1_6 a1_7 a1_8 a1_9 a1_10).bind fun t141 => (impl_Row.j0 k a0 a2 (!t141) a1_0 a1_1 a1_2 a1_3 a1_4 a1_5 a1_6 a1_7 a1_8 a1_9 a1_10))) = some r := h
 clear h
 have HC4 := Aside0.mk H
 clear H
 go_enter Tryd.func6, Tryd.ntmps6
 go_upto_region 1 with (first | ((with_reducible refine gate_dst (N := 4) rfl ?_); refine box_event ?hg (N := 4) ?hd (cs := #[.int .i64 a1_0, .int .i64 a1_1, .int .i64 a1_2, .int .i64 a1_3, .int .i64 a1_4, .int .i64 a1_5, .int .i64 a1_6, .int .i64 a1_7, .int .i64 a1_8, .int .i64 a1_9, .int .i64 a1_10]) (t := 25) ?hr ?_; (case hd => rfl); (case hg => rfl); (case hr => first | (go_simp; done) | (go_simp; rfl)); intro gb140 hg w5 hbox hb; have n0_ := Aside0.mk (below_step (by repeat (first | (with_reducible first | exact HB.out | apply below_alloc | apply pw_below_drewN | apply below_drew1) | exact HB.out)) hb); have n1_ := Aside0.mk (hbox); have n2_ := Aside0.mk ((by rw [hg]; exact (below_size (by repeat (first | (with_reducible first | exact HB.out | apply below_alloc | apply pw_below_drewN | apply below_drew1) | exact HB.out))) : w.heap.size ≤ gb140)); have n3_ := Aside0.mk ((by rw [hg]; exact (below_size (by repeat (first | (with_reducible first | exact HB.out | apply below_alloc | apply pw_below_drewN | apply below_drew1) | exact HB.out))) : w.heap.size ≤ gb140)); clear HB; have HB := n0_; have BK140 := n1_; have GW140 := n2_; have GE140 := n3_; clear n0_ n1_ n2_ n3_; clear hb hbox hg))
 (try simp only [Act.put, List.setIfInBounds_toArray, List.set_cons_zero, List.set_cons_succ])
 go_cut [13] (fun v13 wc => ∃ (kq : Nat) (x13_3 : Bool), v13 = .bool x13_3 ∧ Aside0 (impl_Row.j0 kq a0 a2 x13_3 a1_0 a1_1 a1_2 a1_3 a1_4 a1_5 a1_6 a1_7 a1_8 a1_9 a1_10 = some r) ∧ Aside0 (kq ≤ k) ∧ Aside0 (wc.heap[gb140]? = some (.cells #[.int .i64 a1_0, .int .i64 a1_1, .int .i64 a1_2, .int .i64 a1_3, .int .i64 a1_4, .int .i64 a1_5, .int .i64 a1_6, .int .i64 a1_7, .int .i64 a1_8, .int .i64 a1_9, .int .i64 a1_10] 25 (0, 0))) ∧ Aside0 (Below w.heap.size w wc))
 case first =>
  have H := HC4.out
  clear HC4
  by_cases c6 : a0 < 0
  ·rw [if_pos c6] at H
   have c6b0 : decide (a0 < 0) = true := decide_eq_true c6
   clear c6
   (first | rw [c6b0] | (simp only [i64_w, i32_w]; rw [c6b0]) | skip)
   have H' := Aside0.mk H
   clear H
   go_wp2
   go_meet
   case rel => exact ⟨_, (true), (by first | rfl | (simp; done) | (simp [*]; done)), H', ⟨by first | omega | exact Nat.le_refl _⟩, ⟨by (with_reducible repeat (first | refine blk_drewN ?_ _ | refine blk_drew ?_ | refine blk_alloc ?_ _)); exact BK140.out⟩, ⟨by repeat (first | (with_reducible first | exact HB.out | apply below_alloc | apply pw_below_drewN | apply below_drew1 | refine below_set ?_ GE140.out) | exact HB.out)⟩⟩
  ·rw [if_neg c6] at H
   have c6b0 : decide (a0 < 0) = false := decide_eq_false c6
   clear c6
   (first | rw [c6b0] | (simp only [i64_w, i32_w]; rw [c6b0]) | skip)
   replace H := Option.bind_eq_some_iff.mp H
   obtain ⟨t141, A70, H⟩ := H
   replace H : (impl_Row.j0 k a0 a2 (!t141) a1_0 a1_1 a1_2 a1_3 a1_4 a1_5 a1_6 a1_7 a1_8 a1_9 a1_10) = some r := H
   have A7 := Aside0.mk A70
   clear A70
   have H' := Aside0.mk H
   clear H
   have hcz8_0 : w5.cell? ⟨gb140, 0, none⟩ = some (.int .i64 a1_0) := (blk_cell BK140.out 0).trans rfl
   have hcz8_1 : w5.cell? ⟨gb140, 1, none⟩ = some (.int .i64 a1_1) := (blk_cell BK140.out 1).trans rfl
   have hcz8_2 : w5.cell? ⟨gb140, 2, none⟩ = some (.int .i64 a1_2) := (blk_cell BK140.out 2).trans rfl
   have hcz8_3 : w5.cell? ⟨gb140, 3, none⟩ = some (.int .i64 a1_3) := (blk_cell BK140.out 3).trans rfl
   have hcz8_4 : w5.cell? ⟨gb140, 4, none⟩ = some (.int .i64 a1_4) := (blk_cell BK140.out 4).trans rfl
   have hcz8_5 : w5.cell? ⟨gb140, 5, none⟩ = some (.int .i64 a1_5) := (blk_cell BK140.out 5).trans rfl
   have hcz8_6 : w5.cell? ⟨gb140, 6, none⟩ = some (.int .i64 a1_6) := (blk_cell BK140.out 6).trans rfl
   have hcz8_7 : w5.cell? ⟨gb140, 7, none⟩ = some (.int .i64 a1_7) := (blk_cell BK140.out 7).trans rfl
   have hcz8_8 : w5.cell? ⟨gb140, 8, none⟩ = some (.int .i64 a1_8) := (blk_cell BK140.out 8).trans rfl
   have hcz8_9 : w5.cell? ⟨gb140, 9, none⟩ = some (.int .i64 a1_9) := (blk_cell BK140.out 9).trans rfl
   have hcz8_10 : w5.cell? ⟨gb140, 10, none⟩ = some (.int .i64 a1_10) := (blk_cell BK140.out 10).trans rfl
   have hfz8_0 := blk_frozen BK140.out 0
   have hfz8_1 := blk_frozen BK140.out 1
   have hfz8_2 := blk_frozen BK140.out 2
   have hfz8_3 := blk_frozen BK140.out 3
   have hfz8_4 := blk_frozen BK140.out 4
   have hfz8_5 := blk_frozen BK140.out 5
   have hfz8_6 := blk_frozen BK140.out 6
   have hfz8_7 := blk_frozen BK140.out 7
   have hfz8_8 := blk_frozen BK140.out 8
   have hfz8_9 := blk_frozen BK140.out 9
   have hfz8_10 := blk_frozen BK140.out 10
   go_wp2_with (first | (go_at_call 10; (with_reducible refine (impl_KnowOk.calls k a1_0 a1_1 a1_2 a1_3 a1_4 a1_5 a1_6 a1_7 a1_8 a1_9 a1_10 t141 _ A7.out).mono ?_); rintro e w9 ⟨rfl, hb⟩; have n0_ := Aside0.mk (blk_below (g := gb140) (o := .cells #[.int .i64 a1_0, .int .i64 a1_1, .int .i64 a1_2, .int .i64 a1_3, .int .i64 a1_4, .int .i64 a1_5, .int .i64 a1_6, .int .i64 a1_7, .int .i64 a1_8, .int .i64 a1_9, .int .i64 a1_10] 25 (0, 0)) (by (with_reducible repeat (first | refine blk_drewN ?_ _ | refine blk_drew ?_ | refine blk_alloc ?_ _)); exact BK140.out) hb); have n1_ := Aside0.mk (below_step (by repeat (first | (with_reducible first | exact HB.out | apply below_alloc | apply pw_below_drewN | apply below_drew1 | refine below_set ?_ GE140.out) | exact HB.out)) hb); clear BK140; clear HB; have BK140 := n0_; have HB := n1_; clear n0_ n1_; (try clear hb); (try clear hb2); (try clear hk); (try clear hi)))
   go_meet
   case rel => exact ⟨_, (!t141), (by first | rfl | (simp; done) | (simp [*]; done)), H', ⟨by first | omega | exact Nat.le_refl _⟩, ⟨by (with_reducible repeat (first | refine blk_drewN ?_ _ | refine blk_drew ?_ | refine blk_alloc ?_ _)); exact BK140.out⟩, ⟨by repeat (first | (with_reducible first | exact HB.out | apply below_alloc | apply pw_below_drewN | apply below_drew1 | refine below_set ?_ GE140.out) | exact HB.out)⟩⟩
 case rest =>
  clear HC4
  try clear p2
  try clear c6
  try clear c6b0
  try clear hcz8_0
  try clear hcz8_1
  try clear hcz8_10
  try clear hcz8_2
  try clear hcz8_3
  try clear hcz8_4
  try clear hcz8_5
  try clear hcz8_6
  try clear hcz8_7
  try clear hcz8_8
  try clear hcz8_9
  try clear hfz8_0
  try clear hfz8_1
  try clear hfz8_10
  try clear hfz8_2
  try clear hfz8_3
  try clear hfz8_4
  try clear hfz8_5
  try clear hfz8_6
  try clear hfz8_7
  try clear hfz8_8
  try clear hfz8_9
  obtain ⟨kq, x13_3, rfl, HA, HJ3, BK140, HB⟩ := hcut
  cases kq with
  | zero => exact absurd HA.out (by simp [impl_Row.j0])
  | succ kj3 =>
   have H := HA.out
   clear HA
   simp only [impl_Row.j0] at H
   by_cases c10 : x13_3 = true
   ·subst c10
    have H1 : (some (⟨#[]⟩ : ByteArray)) = some r := by rw [if_pos rfl] at H; exact H
    clear H
    have H := H1
    clear H1
    obtain rfl := Option.some.inj H
    go_wp2
    go_ret
    exact ⟨by first | rfl | (simp [errW_none, errW_some] <;> rfl) | (simp [*, errW_none, errW_some] <;> rfl), by repeat (first | (with_reducible first | exact HB.out | apply below_alloc | apply pw_below_drewN | apply below_drew1 | refine below_set ?_ GE140.out) | exact HB.out)⟩
   ·replace c10 := Bool.eq_false_iff.mpr c10
    subst c10
    have H1 : ((impl_DecText.f a0).bind fun t142 => (if t142.size + 1 ≤ 9223372036854775807 then ((impl_KnowText.f kj3 a1_0 a1_1 a1_2 a1_3 a1_4 a1_5 a1_6 a1_7 a1_8 a1_9 a1_10).bind fun t143 => (if (t142 ++ (⟨#[32]⟩ : ByteArray)).size + t143.size ≤ 9223372036854775807 then (if ((t142 ++ (⟨#[32]⟩ : ByteArray)) ++ t143).size + 1 ≤ 9223372036854775807 then (if (((t142 ++ (⟨#[32]⟩ : ByteArray)) ++ t143) ++ (⟨#[32]⟩ : ByteArray)).size + a2.size ≤ 9223372036854775807 then (some ((((t142 ++ (⟨#[32]⟩ : ByteArray)) ++ t143) ++ (⟨#[32]⟩ : ByteArray)) ++ a2)) else (none)) else (none)) else (none))) else (none))) = some r := by rw [if_neg (show ¬ (false = true) by decide)] at H; exact H
    clear H
    have H := H1
    clear H1
    replace H := Option.bind_eq_some_iff.mp H
    obtain ⟨t142, A110, H⟩ := H
    replace H : (if t142.size + 1 ≤ 9223372036854775807 then ((impl_KnowText.f kj3 a1_0 a1_1 a1_2 a1_3 a1_4 a1_5 a1_6 a1_7 a1_8 a1_9 a1_10).bind fun t143 => (if (t142 ++ (⟨#[32]⟩ : ByteArray)).size + t143.size ≤ 9223372036854775807 then (if ((t142 ++ (⟨#[32]⟩ : ByteArray)) ++ t143).size + 1 ≤ 9223372036854775807 then (if (((t142 ++ (⟨#[32]⟩ : ByteArray)) ++ t143) ++ (⟨#[32]⟩ : ByteArray)).size + a2.size ≤ 9223372036854775807 then (some ((((t142 ++ (⟨#[32]⟩ : ByteArray)) ++ t143) ++ (⟨#[32]⟩ : ByteArray)) ++ a2)) else (none)) else (none)) else (none))) else (none)) = some r := H
    have A11 := Aside0.mk A110
    clear A110
    by_cases c12 : t142.size + 1 ≤ 9223372036854775807
    ·rw [if_pos c12] at H
     have c12b0 := eq_true c12
     have c12b1 : decide (t142.size + 1 ≤ 9223372036854775807) = true := decide_eq_true c12
     try have c12b2 : (9223372036854775807 < t142.size + 1) = False := eq_false (Nat.not_lt.2 c12)
     try (have c12b3 := c12; simp at c12b3; have c12b4 := eq_true c12b3; have c12b5 := decide_eq_true c12b3; have c12b6 := eq_false (Nat.not_lt.2 c12b3))
     replace H := Option.bind_eq_some_iff.mp H
     obtain ⟨t143, A130, H⟩ := H
     replace H : (if (t142 ++ (⟨#[32]⟩ : ByteArray)).size + t143.size ≤ 9223372036854775807 then (if ((t142 ++ (⟨#[32]⟩ : ByteArray)) ++ t143).size + 1 ≤ 9223372036854775807 then (if (((t142 ++ (⟨#[32]⟩ : ByteArray)) ++ t143) ++ (⟨#[32]⟩ : ByteArray)).size + a2.size ≤ 9223372036854775807 then (some ((((t142 ++ (⟨#[32]⟩ : ByteArray)) ++ t143) ++ (⟨#[32]⟩ : ByteArray)) ++ a2)) else (none)) else (none)) else (none)) = some r := H
     have A13 := Aside0.mk A130
     clear A130
     by_cases c14 : (t142 ++ (⟨#[32]⟩ : ByteArray)).size + t143.size ≤ 9223372036854775807
     ·rw [if_pos c14] at H
      have c14b0 := eq_true c14
      have c14b1 : decide ((t142 ++ (⟨#[32]⟩ : ByteArray)).size + t143.size ≤ 9223372036854775807) = true := decide_eq_true c14
      try have c14b2 : (9223372036854775807 < (t142 ++ (⟨#[32]⟩ : ByteArray)).size + t143.size) = False := eq_false (Nat.not_lt.2 c14)
      try (have c14b3 := c14; simp at c14b3; have c14b4 := eq_true c14b3; have c14b5 := decide_eq_true c14b3; have c14b6 := eq_false (Nat.not_lt.2 c14b3))
      have c14b7 : t142.size + 1 + t143.size ≤ 9223372036854775807 := by have h_ := c14; simp only [ByteArray.size_append] at h_; exact h_
      have c14b8 := eq_false (Nat.not_lt.2 c14b7)
      replace c14b7 := eq_true c14b7
      by_cases c15 : ((t142 ++ (⟨#[32]⟩ : ByteArray)) ++ t143).size + 1 ≤ 9223372036854775807
      ·rw [if_pos c15] at H
       have c15b0 := eq_true c15
       have c15b1 : decide (((t142 ++ (⟨#[32]⟩ : ByteArray)) ++ t143).size + 1 ≤ 9223372036854775807) = true := decide_eq_true c15
       try have c15b2 : (9223372036854775807 < ((t142 ++ (⟨#[32]⟩ : ByteArray)) ++ t143).size + 1) = False := eq_false (Nat.not_lt.2 c15)
       try (have c15b3 := c15; simp at c15b3; have c15b4 := eq_true c15b3; have c15b5 := decide_eq_true c15b3; have c15b6 := eq_false (Nat.not_lt.2 c15b3))
       have c15b7 : t142.size + 1 + t143.size + 1 ≤ 9223372036854775807 := by have h_ := c15; simp only [ByteArray.size_append] at h_; exact h_
       have c15b8 := eq_false (Nat.not_lt.2 c15b7)
       replace c15b7 := eq_true c15b7
       by_cases c16 : (((t142 ++ (⟨#[32]⟩ : ByteArray)) ++ t143) ++ (⟨#[32]⟩ : ByteArray)).size + a2.size ≤ 9223372036854775807
       ·rw [if_pos c16] at H
        have c16b0 := eq_true c16
        have c16b1 : decide ((((t142 ++ (⟨#[32]⟩ : ByteArray)) ++ t143) ++ (⟨#[32]⟩ : ByteArray)).size + a2.size ≤ 9223372036854775807) = true := decide_eq_true c16
        try have c16b2 : (9223372036854775807 < (((t142 ++ (⟨#[32]⟩ : ByteArray)) ++ t143) ++ (⟨#[32]⟩ : ByteArray)).size + a2.size) = False := eq_false (Nat.not_lt.2 c16)
        try (have c16b3 := c16; simp at c16b3; have c16b4 := eq_true c16b3; have c16b5 := decide_eq_true c16b3; have c16b6 := eq_false (Nat.not_lt.2 c16b3))
        have c16b7 : t142.size + 1 + t143.size + 1 + a2.size ≤ 9223372036854775807 := by have h_ := c16; simp only [ByteArray.size_append] at h_; exact h_
        have c16b8 := eq_false (Nat.not_lt.2 c16b7)
        replace c16b7 := eq_true c16b7
        obtain rfl := Option.some.inj H
        try go_wp2
        have n0_ := Aside0.mk (blk_drew BK140.out)
        have n1_ := Aside0.mk (below_drew1 HB.out)
        clear BK140
        clear HB
        have BK140 := n0_
        have HB := n1_
        clear n0_ n1_
        refine start_ (n := 10) (S := fun w' => w'.cell? ⟨gb140, 0, none⟩ = some (.int .i64 a1_0) ∧ w'.cell? ⟨gb140, 1, none⟩ = some (.int .i64 a1_1) ∧ w'.cell? ⟨gb140, 2, none⟩ = some (.int .i64 a1_2) ∧ w'.cell? ⟨gb140, 3, none⟩ = some (.int .i64 a1_3) ∧ w'.cell? ⟨gb140, 4, none⟩ = some (.int .i64 a1_4) ∧ w'.cell? ⟨gb140, 5, none⟩ = some (.int .i64 a1_5) ∧ w'.cell? ⟨gb140, 6, none⟩ = some (.int .i64 a1_6) ∧ w'.cell? ⟨gb140, 7, none⟩ = some (.int .i64 a1_7) ∧ w'.cell? ⟨gb140, 8, none⟩ = some (.int .i64 a1_8) ∧ w'.cell? ⟨gb140, 9, none⟩ = some (.int .i64 a1_9) ∧ w'.cell? ⟨gb140, 10, none⟩ = some (.int .i64 a1_10)) (ds := []) #[false, false, false, false, false, false, false, false, false, false] (by kernel_rfl) rfl rfl ⟨(blk_cell BK140.out 0).trans rfl, (blk_cell BK140.out 1).trans rfl, (blk_cell BK140.out 2).trans rfl, (blk_cell BK140.out 3).trans rfl, (blk_cell BK140.out 4).trans rfl, (blk_cell BK140.out 5).trans rfl, (blk_cell BK140.out 6).trans rfl, (blk_cell BK140.out 7).trans rfl, (blk_cell BK140.out 8).trans rfl, (blk_cell BK140.out 9).trans rfl, (blk_cell BK140.out 10).trans rfl⟩ (fun hHeld => ?_); refine with_tabW impl_Row.tab3 impl_Row.bits3 (fun HT_ HW_ => ?_)
        generalize wc.drew = w17 at BK140 HB hHeld ⊢
        refine pure_ (i := 0) (N := some 14) (v := ?_) (a' := ?_) #[true, false, false, false, false, false, false, false, false, false] rfl rfl (any_of HT_.out (by kernel_rfl)) (fun _ _ _ h => h) (Or.inl ⟨by rfl, ?_⟩) ?_ ?_
        rotate_left
        ·intro w'
         go_simp
         with_reducible rfl
        rotate_left
        ·simp only [Act.put, List.setIfInBounds_toArray, List.set_cons_zero, List.set_cons_succ, i64_w, i32_w]
         rfl
        refine pure_ (i := 7) (N := some 21) (v := ?_) (a' := ?_) #[true, false, false, false, false, false, false, true, false, false] rfl rfl (any_of HT_.out (by kernel_rfl)) (fun _ _ _ h => h) (Or.inl ⟨by rfl, ?_⟩) ?_ ?_
        rotate_left
        ·intro w'
         go_simp
         with_reducible rfl
        rotate_left
        ·simp only [Act.put, List.setIfInBounds_toArray, List.set_cons_zero, List.set_cons_succ, i64_w, i32_w]
         rfl
        refine take_ (i := 3) (N := some 17) (v := ?_) (a' := ?_) #[true, false, false, true, false, false, false, true, false, false] rfl rfl (take_ofW HT_.out HW_.out (by kernel_rfl)) (fun _ _ _ h => h) (Or.inl ⟨by rfl, ?_⟩) hHeld ?_ ?_
        rotate_left
        ·rintro w' ⟨s0, s1, s2, s3, s4, s5, s6, s7, s8, s9, s10⟩
         go_simp
         with_reducible rfl
        rotate_left
        ·simp only [Act.put, List.setIfInBounds_toArray, List.set_cons_zero, List.set_cons_succ, i64_w, i32_w]
         rfl
        refine one_ (i := 1) (N := some 15) #[true, true, false, true, false, false, false, true, false, false] rfl rfl (one_of HT_.out (by kernel_rfl)) (by decide) (fun K hK => ?_)
        refine goes_ Tryd.func11 (by kernel_rfl) rfl #[.int .i64 a0] (by rfl) rfl rfl (by (try simp only [List.map_toArray, List.map_cons, List.map_nil]); first | done | rfl | (simp only [List.length_drop, List.length_take]; rfl)) ?_
        with_reducible refine (impl_DecText.calls a0 t142 _ A11.out (Giv.at_ HT (by repeat (first | (with_reducible first | exact HB.out | apply below_alloc | apply pw_below_drewN | apply below_drew1 | refine below_set ?_ GE140.out) | exact HB.out)))).mono ?_
        rintro e w18 ⟨rfl, hb⟩
        refine ⟨_, rfl, ?_⟩
        have n0_ := Aside0.mk (blk_below (g := gb140) (o := .cells #[.int .i64 a1_0, .int .i64 a1_1, .int .i64 a1_2, .int .i64 a1_3, .int .i64 a1_4, .int .i64 a1_5, .int .i64 a1_6, .int .i64 a1_7, .int .i64 a1_8, .int .i64 a1_9, .int .i64 a1_10] 25 (0, 0)) (by (with_reducible repeat (first | refine blk_drewN ?_ _ | refine blk_drew ?_ | refine blk_alloc ?_ _)); exact BK140.out) hb)
        have n1_ := Aside0.mk (below_step (by repeat (first | (with_reducible first | exact HB.out | apply below_alloc | apply pw_below_drewN | apply below_drew1 | refine below_set ?_ GE140.out) | exact HB.out)) hb)
        clear BK140
        clear HB
        have BK140 := n0_
        have HB := n1_
        clear n0_ n1_
        (try clear hb)
        (try clear hb2)
        (try clear hk)
        (try clear hi)
        refine hK.out _ _ ⟨(blk_cell BK140.out 0).trans rfl, (blk_cell BK140.out 1).trans rfl, (blk_cell BK140.out 2).trans rfl, (blk_cell BK140.out 3).trans rfl, (blk_cell BK140.out 4).trans rfl, (blk_cell BK140.out 5).trans rfl, (blk_cell BK140.out 6).trans rfl, (blk_cell BK140.out 7).trans rfl, (blk_cell BK140.out 8).trans rfl, (blk_cell BK140.out 9).trans rfl, (blk_cell BK140.out 10).trans rfl⟩ (fun hHeld => ?_)
        clear hK K
        refine norm_ (a' := ?_) ?_ ?_
        rotate_left
        ·show Act.put _ (some 15) _ = _
         simp only [Act.put, List.setIfInBounds_toArray, List.set_cons_zero, List.set_cons_succ, i64_w, i32_w]
         rfl
        refine pure_ (i := 2) (N := some 16) (v := ?_) (a' := ?_) #[true, true, true, true, false, false, false, true, false, false] rfl rfl (any_of HT_.out (by kernel_rfl)) (fun _ _ _ h => h) (Or.inl ⟨by rfl, ?_⟩) ?_ ?_
        rotate_left
        ·intro w'
         go_simp
         with_reducible rfl
        rotate_left
        ·simp only [Act.put, List.setIfInBounds_toArray, List.set_cons_zero, List.set_cons_succ, i64_w, i32_w]
         rfl
        refine one_ (i := 4) (N := some 18) #[true, true, true, true, true, false, false, true, false, false] rfl rfl (one_of HT_.out (by kernel_rfl)) (by decide) (fun K hK => ?_)
        refine goes_ Tryd.func12 (by kernel_rfl) rfl #[.agg #[.int .i64 a1_0, .int .i64 a1_1, .int .i64 a1_2, .int .i64 a1_3, .int .i64 a1_4, .int .i64 a1_5, .int .i64 a1_6, .int .i64 a1_7, .int .i64 a1_8, .int .i64 a1_9, .int .i64 a1_10]] (by rfl) rfl rfl (by (try simp only [List.map_toArray, List.map_cons, List.map_nil]); first | done | rfl | (simp only [List.length_drop, List.length_take]; rfl)) ?_
        with_reducible refine (impl_KnowText.calls kj3 a1_0 a1_1 a1_2 a1_3 a1_4 a1_5 a1_6 a1_7 a1_8 a1_9 a1_10 t143 _ A13.out).mono ?_
        rintro e w19 ⟨rfl, hb⟩
        refine ⟨_, rfl, ?_⟩
        have n0_ := Aside0.mk (blk_below (g := gb140) (o := .cells #[.int .i64 a1_0, .int .i64 a1_1, .int .i64 a1_2, .int .i64 a1_3, .int .i64 a1_4, .int .i64 a1_5, .int .i64 a1_6, .int .i64 a1_7, .int .i64 a1_8, .int .i64 a1_9, .int .i64 a1_10] 25 (0, 0)) (by (with_reducible repeat (first | refine blk_drewN ?_ _ | refine blk_drew ?_ | refine blk_alloc ?_ _)); exact BK140.out) hb)
        have n1_ := Aside0.mk (below_step (by repeat (first | (with_reducible first | exact HB.out | apply below_alloc | apply pw_below_drewN | apply below_drew1 | refine below_set ?_ GE140.out) | exact HB.out)) hb)
        clear BK140
        clear HB
        have BK140 := n0_
        have HB := n1_
        clear n0_ n1_
        (try clear hb)
        (try clear hb2)
        (try clear hk)
        (try clear hi)
        refine hK.out _ _ ⟨(blk_cell BK140.out 0).trans rfl, (blk_cell BK140.out 1).trans rfl, (blk_cell BK140.out 2).trans rfl, (blk_cell BK140.out 3).trans rfl, (blk_cell BK140.out 4).trans rfl, (blk_cell BK140.out 5).trans rfl, (blk_cell BK140.out 6).trans rfl, (blk_cell BK140.out 7).trans rfl, (blk_cell BK140.out 8).trans rfl, (blk_cell BK140.out 9).trans rfl, (blk_cell BK140.out 10).trans rfl⟩ (fun hHeld => ?_)
        clear hK K
        refine norm_ (a' := ?_) ?_ ?_
        rotate_left
        ·show Act.put _ (some 18) _ = _
         simp only [Act.put, List.setIfInBounds_toArray, List.set_cons_zero, List.set_cons_succ, i64_w, i32_w]
         rfl
        refine pure_ (i := 5) (N := some 19) (v := ?_) (a' := ?_) #[true, true, true, true, true, true, false, true, false, false] rfl rfl (any_of HT_.out (by kernel_rfl)) (fun _ _ _ h => h) (Or.inl ⟨by rfl, ?_⟩) ?_ ?_
        rotate_left
        ·intro w'
         go_simp
         with_reducible rfl
        rotate_left
        ·simp only [Act.put, List.setIfInBounds_toArray, List.set_cons_zero, List.set_cons_succ, i64_w, i32_w]
         rfl
        refine pure_ (i := 6) (N := some 20) (v := ?_) (a' := ?_) #[true, true, true, true, true, true, true, true, false, false] rfl rfl (any_of HT_.out (by kernel_rfl)) (fun _ _ _ h => h) (Or.inl ⟨by rfl, ?_⟩) ?_ ?_
        rotate_left
        ·intro w'
         go_simp
         with_reducible rfl
        rotate_left
        ·simp only [Act.put, List.setIfInBounds_toArray, List.set_cons_zero, List.set_cons_succ, i64_w, i32_w]
         rfl
        refine pure_ (i := 8) (N := some 22) (v := ?_) (a' := ?_) #[true, true, true, true, true, true, true, true, true, false] rfl rfl (any_of HT_.out (by kernel_rfl)) (fun _ _ _ h => h) (Or.inl ⟨by rfl, ?_⟩) ?_ ?_
        rotate_left
        ·intro w'
         go_simp
         with_reducible rfl
        rotate_left
        ·simp only [Act.put, List.setIfInBounds_toArray, List.set_cons_zero, List.set_cons_succ, i64_w, i32_w]
         rfl
        refine pure_ (i := 9) (N := some 6) (v := ?_) (a' := ?_) #[true, true, true, true, true, true, true, true, true, true] rfl rfl (any_of HT_.out (by kernel_rfl)) (fun _ _ _ h => h) (Or.inl ⟨by rfl, ?_⟩) ?_ ?_
        rotate_left
        ·intro w'
         go_simp
         with_reducible rfl
        rotate_left
        ·simp only [Act.put, List.setIfInBounds_toArray, List.set_cons_zero, List.set_cons_succ, i64_w, i32_w]
         rfl
        refine done_ (done_of HT_.out (by kernel_rfl)) ?_
        try go_wp2
        go_ret
        exact ⟨by first | rfl | (simp [errW_none, errW_some] <;> rfl) | (simp [*, errW_none, errW_some] <;> rfl), by repeat (first | (with_reducible first | exact HB.out | apply below_alloc | apply pw_below_drewN | apply below_drew1 | refine below_set ?_ GE140.out) | exact HB.out)⟩
       ·rw [if_neg c16] at H
        exact absurd H (by simp)
      ·rw [if_neg c15] at H
       exact absurd H (by simp)
     ·rw [if_neg c14] at H
      exact absurd H (by simp)
    ·rw [if_neg c12] at H
     exact absurd H (by simp)

end Go.Proofs.YtidencofapcliaaDoor.MT
