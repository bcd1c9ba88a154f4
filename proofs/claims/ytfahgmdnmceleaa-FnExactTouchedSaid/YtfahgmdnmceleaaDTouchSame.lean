/-
Touched: the reference's marks in their order are the program's addresses, sorted and each once.
-/
import Derived.Test.YtfahgmdnmceleaaMDx0
import Derived.Test.YtfahgmdnmceleaaMDx1
import Derived.Test.YtfahgmdnmceleaaMDx4
import Derived.Test.YtfahgmdnmceleaaDCycRange
import Derived.Test.YtfahgmdnmceleaaAscF
set_option linter.unusedSimpArgs false
set_option linter.unusedVariables false
namespace Go.Proofs.Ytfahgmdnmceleaa.MDH
open Go.Proofs.Ytfahgmdnmceleaa Go.RowKit Go.Proofs.Ytfahgmdnmceleaa.MD Go.Proofs.YtfahgmdnmceleaaW.PrintWords Go.Proofs.YtfahgmdnmceleaaW.PrintLast Go.Proofs.Ytfahgmdnmceleaa.Bit Go.Proofs.Ytfahgmdnmceleaa.Lst
def sel (l : List Cyc') (w : Bool) : List Int := (l.filter (fun x => x.f2 == w)).map (fun x => x.f0)
theorem sel_step (l : List Cyc') (w : Bool) (i : Nat) (h : i < l.length) : sel (l.take (i + 1)) w = sel (l.take i) w ++ (if ((rd_T36 l i).f2 == w) = true then [(rd_T36 l i).f0] else []) := by
  have e : rd_T36 l i = l[i] := by
    unfold rd_T36
    rw [Int.toNat_natCast, List.getD_eq_getElem?_getD, List.getElem?_eq_getElem h]
    rfl
  rw [e]
  unfold sel
  rw [List.take_add_one, List.getElem?_eq_getElem h, Option.toList_some, List.filter_append, List.map_append]
  congr 1
  by_cases c : (l[i].f2 == w) = true
  · rw [if_pos c, List.filter_cons_of_pos (by exact c)]
    rfl
  · rw [if_neg c, List.filter_cons_of_neg (by exact c)]
    rfl
theorem sel_len (l : List Cyc') (w : Bool) : (sel l w).length ≤ l.length := by
  unfold sel
  rw [List.length_map]
  exact List.length_filter_le _ _
theorem sel_in {l : List Cyc'} (hr : ∀ x ∈ l, InR x) (w : Bool) : ∀ x ∈ sel l w, 0 ≤ x ∧ x < 65536 := by
  intro x hx
  obtain ⟨y, hy, rfl⟩ := List.mem_map.1 hx
  exact (hr y (List.mem_filter.1 hy).1).1
theorem impl_touched_ev (l : List Cyc') (w : Bool) (hl : l.length * 4 ≤ 140737488351232) (hr : ∀ x ∈ l, InR x) : Ev (fun k => impl_Touched.f k l w) (AscF.asc (sel l w)) := by
  have h := ev_for (r := AscF.asc (sel l w)) l.length (fun k i => impl_Touched.l0 k w (sel (l.take i) w) l (l.length : Int) i)
    (fun k => by
      simp only [impl_Touched.l0]
      have hs : AscF.small (sel l w) = true := by
        unfold AscF.small
        rw [List.all_eq_true]
        intro x hx
        obtain ⟨h0, h1⟩ := sel_in hr w x hx
        rw [decide_eq_true h0, decide_eq_true h1]
        rfl
      have hn := sel_len l w
      rw [if_neg (by omega), List.take_length]
      unfold impl_ascending.f
      rw [if_pos (by omega), if_pos hs]
      rfl)
    (fun i hi k => by
      have hn := sel_len (l.take i) w
      rw [List.length_take] at hn
      simp only [impl_Touched.l0]
      rw [if_pos (by omega), if_pos (by omega), if_pos (by omega), w1 (by omega), sel_step l w i hi]
      by_cases c : ((rd_T36 l i).f2 == w) = true
      · rw [if_pos c, if_pos (by omega), if_pos c]
      · rw [if_neg c, if_neg c, List.append_nil])
  exact h
def marks (N : Nat) (s : List Int) : List Bool := (List.range N).map (fun a : Nat => decide ((a : Int) ∈ s))
theorem marks_len (N : Nat) (s : List Int) : (marks N s).length = N := by
  unfold marks
  rw [List.length_map, List.length_range]
theorem marks_get (N : Nat) (s : List Int) (i : Nat) (h : i < N) : (marks N s)[i]? = some (decide ((i : Int) ∈ s)) := by
  unfold marks
  rw [List.getElem?_map, List.getElem?_range h]
  rfl
theorem marks_nil (N : Nat) : marks N [] = List.replicate N false := by
  apply List.ext_getElem?
  intro i
  rw [List.getElem?_replicate]
  by_cases h : i < N
  · rw [marks_get N _ i h, if_pos h]
    simp
  · rw [if_neg h, List.getElem?_eq_none (by rw [marks_len]; omega)]
theorem marks_set (N : Nat) (s : List Int) (x : Int) (h0 : 0 ≤ x) (h1 : x < N) : (marks N s).set x.toNat true = marks N (s ++ [x]) := by
  apply List.ext_getElem?
  intro i
  by_cases h : i < N
  · rw [marks_get N _ i h, List.getElem?_set]
    by_cases e : x.toNat = i
    · rw [if_pos e, if_pos (by rw [marks_len]; omega)]
      congr 1
      symm
      rw [decide_eq_true_iff, List.mem_append]
      exact .inr (by rw [List.mem_singleton]; omega)
    · rw [if_neg e, marks_get N _ i h]
      congr 1
      rw [decide_eq_decide, List.mem_append, List.mem_singleton]
      constructor
      · exact .inl
      · rintro (h2 | h2)
        · exact h2
        · omega
  · rw [List.getElem?_eq_none (by rw [List.length_set, marks_len]; omega), List.getElem?_eq_none (by rw [marks_len]; omega)]
def upTo (s : List Int) (i : Nat) : List Int := ((List.range i).map (fun i : Nat => (i : Int))).filter (fun x => decide (x ∈ s))
theorem upTo_step (s : List Int) (i : Nat) : upTo s (i + 1) = upTo s i ++ (if ((i : Int) ∈ s) then [(i : Int)] else []) := by
  unfold upTo
  rw [List.range_succ, List.map_append, List.filter_append]
  congr 1
  by_cases c : (i : Int) ∈ s
  · rw [if_pos c, List.map_singleton, List.filter_cons_of_pos (by exact decide_eq_true c)]
    rfl
  · rw [if_neg c, List.map_singleton, List.filter_cons_of_neg (by simpa using c)]
    rfl
theorem upTo_len (s : List Int) (i : Nat) : (upTo s i).length ≤ i := by
  unfold upTo
  refine Nat.le_trans (List.length_filter_le _ _) ?_
  rw [List.length_map, List.length_range]
  exact Nat.le_refl _
theorem all_ev (N : Nat) (hN : N ≤ 65536) (s : List Int) : Ev (fun k => spec_l14All.f k (marks N s)) (upTo s N) := by
  have h := ev_for (r := upTo s N) N (fun k i => spec_l14All.l0 k (marks N s) (upTo s i) i)
    (fun k => by
      simp only [spec_l14All.l0]
      rw [marks_len, if_neg (by omega)])
    (fun i hi k => by
      have hn := upTo_len s i
      have hg : rdOf false (marks N s) (i : Int) = decide ((i : Int) ∈ s) := by
        unfold rdOf
        rw [Int.toNat_natCast, List.getD_eq_getElem?_getD, marks_get N s i hi]
        rfl
      have hw : IntKind.u16.wrap (i : Int) = (i : Int) := by
        simp [IntKind.wrap, IntKind.bits, IntKind.signed]
        omega
      simp only [spec_l14All.l0]
      rw [marks_len, if_pos (by omega), if_pos (by omega), hg, w1 (by omega), upTo_step s i, hw]
      by_cases c : (i : Int) ∈ s
      · rw [if_pos (decide_eq_true c), if_pos (by omega), if_pos c]
      · rw [if_neg (by simpa using c), if_neg c, List.append_nil])
  exact h
theorem spec_touched_ev (l : List Cyc') (w : Bool) (hl : l.length * 4 ≤ 140737488351232) (hr : ∀ x ∈ l, InR x) : Ev (fun k => spec_Touched.f k l w) (AscF.asc (sel l w)) := by
  have h := ev_up (r := AscF.asc (sel l w)) l.length (fun k i => spec_Touched.l0 k l w (marks 65536 (sel (l.take i) w)) i)
    (Ev.step (f := fun k => (spec_l14All.f k (marks 65536 (sel l w))).bind fun t => some t) (fun k => by
      simp only [spec_Touched.l0]
      rw [if_neg (by omega), List.take_length]) (Ev.bind (f := fun _ t => some t) (all_ev 65536 (Nat.le_refl _) (sel l w)) (Ev.now _)))
    (fun i hi h => Ev.step (f := fun k => spec_Touched.l0 k l w (marks 65536 (sel (l.take (i + 1)) w)) ((i + 1 : Nat) : Int)) (fun k => by
      obtain ⟨⟨h0, h1⟩, _⟩ := inR_rd hr hi
      simp only [spec_Touched.l0]
      rw [if_pos (by omega), if_pos (by omega), w1 (by omega), sel_step l w i hi]
      by_cases c : ((rd_T36 l i).f2 == w) = true
      · rw [if_pos c, if_pos h0, if_pos (by rw [marks_len]; exact h1), marks_set 65536 _ _ h0 h1, if_pos c]
      · rw [if_neg c, if_neg c, List.append_nil]) h) l.length 0 (by omega)
  refine Ev.congr (fun k => ?_) h
  unfold spec_Touched.f
  rw [if_pos (by omega), ← marks_nil]
  rfl
theorem asc_len (l : List Int) : (AscF.asc l).length ≤ 65536 := upTo_len l 65536
end Go.Proofs.Ytfahgmdnmceleaa.MDH
