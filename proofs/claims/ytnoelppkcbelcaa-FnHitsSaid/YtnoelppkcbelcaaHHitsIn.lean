/-
The places of hits, told plainly.
-/
import Derived.Test.YtnoelppkcbelcaaMHx0
import Derived.Test.YtnoelppkcbelcaaMHx1
import Derived.Test.YtnoelppkcbelcaaHCycIn
set_option linter.unusedSimpArgs false
set_option linter.unusedVariables false
namespace Go.Proofs.Ytnoelppkcbelcaa.MHH
open Go.RowKit Go.Proofs.Ytnoelppkcbelcaa.MH Go.Proofs.YtnoelppkcbelcaaW.PrintWords Go.Proofs.YtnoelppkcbelcaaW.PrintLast Go.Proofs.Ytnoelppkcbelcaa.Bit Go.Proofs.Ytnoelppkcbelcaa.Lst
def hitB (l : List S32) (a1 a2 : Int) (a3 : Bool) (j : Nat) : Bool := ((rd_T32 l j).f2 == a3) && decide ((rd_T32 l j).f0 ≥ a1) && decide ((rd_T32 l j).f0 ≤ a2)
def hitsTo (l : List S32) (a1 a2 : Int) (a3 : Bool) (i : Nat) : List Int := ((List.range i).filter (hitB l a1 a2 a3)).map (fun j : Nat => (j : Int))
theorem hitsTo_succ (l : List S32) (a1 a2 : Int) (a3 : Bool) (i : Nat) : hitsTo l a1 a2 a3 (i + 1) = if hitB l a1 a2 a3 i then hitsTo l a1 a2 a3 i ++ [(i : Int)] else hitsTo l a1 a2 a3 i := by
  unfold hitsTo
  rw [filter_range_succ]
  by_cases h : hitB l a1 a2 a3 i = true <;> simp [h]
theorem hitsTo_len (l : List S32) (a1 a2 : Int) (a3 : Bool) (i : Nat) : (hitsTo l a1 a2 a3 i).length ≤ i := by
  unfold hitsTo
  rw [List.length_map]
  exact filter_range_le _ _
theorem impl_hits_ev (l : List S32) (a1 a2 : Int) (a3 : Bool) (hl : l.length ≤ 1048576) : Ev (fun k => impl_Hits.f k l a1 a2 a3) (hitsTo l a1 a2 a3 l.length) := by
  have h := ev_for (r := hitsTo l a1 a2 a3 l.length) l.length (fun k i => impl_Hits.l0 k a1 a2 a3 (hitsTo l a1 a2 a3 i) l l.length i)
    (fun k => by
      simp only [impl_Hits.l0]
      rw [if_neg (by omega)])
    (fun i hi k => by
      have hlen := hitsTo_len l a1 a2 a3 i
      simp only [impl_Hits.l0]
      rw [if_pos (by omega), if_pos (by omega), if_pos (by omega), w1 (by omega), hitsTo_succ]
      unfold hitB
      by_cases c1 : ((rd_T32 l i).f2 == a3) = true <;> by_cases c2 : (rd_T32 l i).f0 ≥ a1 <;> by_cases c3 : (rd_T32 l i).f0 ≤ a2 <;> simp only [c1, c2, c3, decide_true, decide_false, Bool.and_true, Bool.and_false, Bool.false_and, Bool.true_and, if_true, if_false, Bool.false_eq_true]
      rw [if_pos (by omega)])
  exact h
theorem hitsTo_app (l : List S32) (a1 a2 : Int) (a3 : Bool) (i : Nat) : ∀ d, ∃ t, hitsTo l a1 a2 a3 (i + d) = hitsTo l a1 a2 a3 i ++ t
  | 0 => ⟨[], by simp⟩
  | d + 1 => by
    obtain ⟨t, h⟩ := hitsTo_app l a1 a2 a3 i d
    rw [show i + (d + 1) = i + d + 1 by omega, hitsTo_succ, h]
    by_cases c : hitB l a1 a2 a3 (i + d) = true
    · exact ⟨t ++ [((i + d : Nat) : Int)], by rw [if_pos c, List.append_assoc]⟩
    · exact ⟨t, by rw [if_neg c]⟩
theorem hits_at (l : List S32) (a1 a2 : Int) (a3 : Bool) {i n : Nat} (hi : i < n) (h : hitB l a1 a2 a3 i = true) : (hitsTo l a1 a2 a3 i).length < (hitsTo l a1 a2 a3 n).length ∧ rd (hitsTo l a1 a2 a3 n) ((hitsTo l a1 a2 a3 i).length : Nat) = (i : Int) := by
  obtain ⟨t, e⟩ := hitsTo_app l a1 a2 a3 (i + 1) (n - (i + 1))
  rw [show i + 1 + (n - (i + 1)) = n by omega, hitsTo_succ, if_pos h] at e
  rw [e]
  refine ⟨by simp, ?_⟩
  unfold rd
  rw [Int.toNat_natCast, List.getD_eq_getElem?_getD]
  simp
end Go.Proofs.Ytnoelppkcbelcaa.MHH
