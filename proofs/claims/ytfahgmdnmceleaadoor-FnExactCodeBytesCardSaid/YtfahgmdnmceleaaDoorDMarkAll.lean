/-
The reference's marks, listed in their order.
-/
import Derived.Test.YtfahgmdnmceleaaDoorMDx3
import Derived.Test.YtfahgmdnmceleaaDoorBit
import Derived.Test.YtfahgmdnmceleaaDoorLst
import Derived.Test.YtfahgmdnmceleaaDoorAscF
set_option linter.unusedSimpArgs false
set_option linter.unusedVariables false
namespace Go.Proofs.YtfahgmdnmceleaaDoor.MDH
open Go.Proofs.YtfahgmdnmceleaaDoor Go.RowKit Go.Proofs.YtfahgmdnmceleaaDoor.MD Go.Proofs.YtfahgmdnmceleaaDoorW.PrintWords Go.Proofs.YtfahgmdnmceleaaDoorW.PrintLast Go.Proofs.YtfahgmdnmceleaaDoor.Bit Go.Proofs.YtfahgmdnmceleaaDoor.Lst
def marks (N : Nat) (s : List Int) : List Bool := (List.range N).map (fun a : Nat => decide ((a : Int) ∈ s))
theorem marks_len (N : Nat) (s : List Int) : (marks N s).length = N := by
  unfold marks
  rw [List.length_map, List.length_range]
theorem marks_get (N : Nat) (s : List Int) (i : Nat) (h : i < N) : (marks N s)[i]? = some (decide ((i : Int) ∈ s)) := by
  unfold marks
  rw [List.getElem?_map, List.getElem?_range h]
  rfl
theorem marks_nil (N : Nat) : marks N [] = List.replicate N false := by
  apply List.ext_getElem?
  intro i
  rw [List.getElem?_replicate]
  by_cases h : i < N
  · rw [marks_get N _ i h, if_pos h]
    simp
  · rw [if_neg h, List.getElem?_eq_none (by rw [marks_len]; omega)]
theorem marks_set (N : Nat) (s : List Int) (x : Int) (h0 : 0 ≤ x) (h1 : x < N) : (marks N s).set x.toNat true = marks N (s ++ [x]) := by
  apply List.ext_getElem?
  intro i
  by_cases h : i < N
  · rw [marks_get N _ i h, List.getElem?_set]
    by_cases e : x.toNat = i
    · rw [if_pos e, if_pos (by rw [marks_len]; omega)]
      congr 1
      symm
      rw [decide_eq_true_iff, List.mem_append]
      exact .inr (by rw [List.mem_singleton]; omega)
    · rw [if_neg e, marks_get N _ i h]
      congr 1
      rw [decide_eq_decide, List.mem_append, List.mem_singleton]
      constructor
      · exact .inl
      · rintro (h2 | h2)
        · exact h2
        · omega
  · rw [List.getElem?_eq_none (by rw [List.length_set, marks_len]; omega), List.getElem?_eq_none (by rw [marks_len]; omega)]
def upTo (s : List Int) (i : Nat) : List Int := ((List.range i).map (fun i : Nat => (i : Int))).filter (fun x => decide (x ∈ s))
theorem upTo_step (s : List Int) (i : Nat) : upTo s (i + 1) = upTo s i ++ (if ((i : Int) ∈ s) then [(i : Int)] else []) := by
  unfold upTo
  rw [List.range_succ, List.map_append, List.filter_append]
  congr 1
  by_cases c : (i : Int) ∈ s
  · rw [if_pos c, List.map_singleton, List.filter_cons_of_pos (by exact decide_eq_true c)]
    rfl
  · rw [if_neg c, List.map_singleton, List.filter_cons_of_neg (by simpa using c)]
    rfl
theorem upTo_len (s : List Int) (i : Nat) : (upTo s i).length ≤ i := by
  unfold upTo
  refine Nat.le_trans (List.length_filter_le _ _) ?_
  rw [List.length_map, List.length_range]
  exact Nat.le_refl _
theorem all_ev (N : Nat) (hN : N ≤ 65536) (s : List Int) : Ev (fun k => spec_l14All.f k (marks N s)) (upTo s N) := by
  have h := ev_for (r := upTo s N) N (fun k i => spec_l14All.l0 k (marks N s) (upTo s i) i)
    (fun k => by
      simp only [spec_l14All.l0]
      rw [marks_len, if_neg (by omega)])
    (fun i hi k => by
      have hn := upTo_len s i
      have hg : rdOf false (marks N s) (i : Int) = decide ((i : Int) ∈ s) := by
        unfold rdOf
        rw [Int.toNat_natCast, List.getD_eq_getElem?_getD, marks_get N s i hi]
        rfl
      have hw : IntKind.u16.wrap (i : Int) = (i : Int) := by
        simp [IntKind.wrap, IntKind.bits, IntKind.signed]
        omega
      simp only [spec_l14All.l0]
      rw [marks_len, if_pos (by omega), if_pos (by omega), hg, w1 (by omega), upTo_step s i, hw]
      by_cases c : (i : Int) ∈ s
      · rw [if_pos (decide_eq_true c), if_pos (by omega), if_pos c]
      · rw [if_neg (by simpa using c), if_neg c, List.append_nil])
  exact h
end Go.Proofs.YtfahgmdnmceleaaDoor.MDH
