/-
Touched: the addresses of the cycles, sorted and each once.
-/
import Derived.Test.YtnoelppkcbelcaaMHx0
import Derived.Test.YtnoelppkcbelcaaMHx3
import Derived.Test.YtnoelppkcbelcaaHCycIn
import Derived.Test.YtnoelppkcbelcaaAscF
set_option linter.unusedSimpArgs false
set_option linter.unusedVariables false
namespace Go.Proofs.Ytnoelppkcbelcaa.MHH
open Go.Proofs.Ytnoelppkcbelcaa Go.RowKit Go.Proofs.Ytnoelppkcbelcaa.MH Go.Proofs.YtnoelppkcbelcaaW.PrintWords Go.Proofs.YtnoelppkcbelcaaW.PrintLast Go.Proofs.Ytnoelppkcbelcaa.Bit Go.Proofs.Ytnoelppkcbelcaa.Lst
def sel (l : List Cyc') (w : Bool) : List Int := (l.filter (fun x => x.f2 == w)).map (fun x => x.f0)
theorem sel_step (l : List Cyc') (w : Bool) (i : Nat) (h : i < l.length) : sel (l.take (i + 1)) w = sel (l.take i) w ++ (if ((rd_T32 l i).f2 == w) = true then [(rd_T32 l i).f0] else []) := by
  have e : rd_T32 l i = l[i] := by
    unfold rd_T32
    rw [Int.toNat_natCast, List.getD_eq_getElem?_getD, List.getElem?_eq_getElem h]
    rfl
  rw [e]
  unfold sel
  rw [List.take_add_one, List.getElem?_eq_getElem h, Option.toList_some, List.filter_append, List.map_append]
  congr 1
  by_cases c : (l[i].f2 == w) = true
  · rw [if_pos c, List.filter_cons_of_pos (by exact c)]
    rfl
  · rw [if_neg c, List.filter_cons_of_neg (by exact c)]
    rfl
theorem sel_len (l : List Cyc') (w : Bool) : (sel l w).length ≤ l.length := by
  unfold sel
  rw [List.length_map]
  exact List.length_filter_le _ _
theorem sel_in {l : List Cyc'} (hr : ∀ x ∈ l, InR x) (w : Bool) : ∀ x ∈ sel l w, 0 ≤ x ∧ x < 65536 := by
  intro x hx
  obtain ⟨y, hy, rfl⟩ := List.mem_map.1 hx
  exact (hr y (List.mem_filter.1 hy).1).1
theorem impl_touched_ev (l : List Cyc') (w : Bool) (hl : l.length * 4 ≤ 140737488351232) (hr : ∀ x ∈ l, InR x) : Ev (fun k => impl_Touched.f k l w) (AscF.asc (sel l w)) := by
  have h := ev_for (r := AscF.asc (sel l w)) l.length (fun k i => impl_Touched.l0 k w (sel (l.take i) w) l (l.length : Int) i)
    (fun k => by
      simp only [impl_Touched.l0]
      have hs : AscF.small (sel l w) = true := by
        unfold AscF.small
        rw [List.all_eq_true]
        intro x hx
        obtain ⟨h0, h1⟩ := sel_in hr w x hx
        rw [decide_eq_true h0, decide_eq_true h1]
        rfl
      have hn := sel_len l w
      rw [if_neg (by omega), List.take_length]
      unfold impl_ascending.f
      rw [if_pos (by omega), if_pos hs]
      rfl)
    (fun i hi k => by
      have hn := sel_len (l.take i) w
      rw [List.length_take] at hn
      simp only [impl_Touched.l0]
      rw [if_pos (by omega), if_pos (by omega), if_pos (by omega), w1 (by omega), sel_step l w i hi]
      by_cases c : ((rd_T32 l i).f2 == w) = true
      · rw [if_pos c, if_pos (by omega), if_pos c]
      · rw [if_neg c, if_neg c, List.append_nil])
  exact h
end Go.Proofs.Ytnoelppkcbelcaa.MHH
