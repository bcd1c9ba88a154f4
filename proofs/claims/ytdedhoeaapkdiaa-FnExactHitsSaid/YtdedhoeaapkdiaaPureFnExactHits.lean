/-
Hits: the program's places of hits are the reference's, for every list of cycles and every bounds.
-/
import Derived.Test.YtdedhoeaapkdiaaMAx0
import Derived.Test.YtdedhoeaapkdiaaMAx3
import Derived.Test.YtdedhoeaapkdiaaMAx4
import Derived.Test.YtdedhoeaapkdiaaAHarnCyc
import Derived.Test.YtdedhoeaapkdiaaAHarnCycMark
import Derived.Test.YtdedhoeaapkdiaaAHarnInt
set_option linter.unusedSimpArgs false
set_option linter.unusedVariables false
namespace Go.Proofs.Ytdedhoeaapkdiaa.Pure
open Go.RowKit Go.Proofs.Ytdedhoeaapkdiaa.MA Go.Proofs.Ytdedhoeaapkdiaa.MAH Go.Proofs.YtdedhoeaapkdiaaW.PrintWords Go.Proofs.YtdedhoeaapkdiaaW.PrintLast Go.Proofs.Ytdedhoeaapkdiaa.Bit Go.Proofs.Ytdedhoeaapkdiaa.Lst

def hitB (l : List S32) (a1 a2 : Int) (a3 : Bool) (j : Nat) : Bool := ((rd_T32 l j).f2 == a3) && decide ((rd_T32 l j).f0 ≥ a1) && decide ((rd_T32 l j).f0 ≤ a2)
def hitsTo (l : List S32) (a1 a2 : Int) (a3 : Bool) (i : Nat) : List Int := ((List.range i).filter (hitB l a1 a2 a3)).map (fun j : Nat => (j : Int))
theorem hitsTo_succ (l : List S32) (a1 a2 : Int) (a3 : Bool) (i : Nat) : hitsTo l a1 a2 a3 (i + 1) = if hitB l a1 a2 a3 i then hitsTo l a1 a2 a3 i ++ [(i : Int)] else hitsTo l a1 a2 a3 i := by
  unfold hitsTo
  rw [filter_range_succ]
  by_cases h : hitB l a1 a2 a3 i = true <;> simp [h]
theorem hitsTo_len (l : List S32) (a1 a2 : Int) (a3 : Bool) (i : Nat) : (hitsTo l a1 a2 a3 i).length ≤ i := by
  unfold hitsTo
  rw [List.length_map]
  exact filter_range_le _ _
theorem spec_hits_ev (l : List S32) (a1 a2 : Int) (a3 : Bool) (hl : l.length ≤ 1048576) : Ev (fun k => spec_Hits.f k l a1 a2 a3) (hitsTo l a1 a2 a3 l.length) := by
  have h := ev_for (r := hitsTo l a1 a2 a3 l.length) l.length (fun k i => spec_Hits.l0 k l a1 a2 a3 (hitsTo l a1 a2 a3 i) i)
    (fun k => by
      simp only [spec_Hits.l0]
      rw [if_neg (by omega)])
    (fun i hi k => by
      have hlen := hitsTo_len l a1 a2 a3 i
      simp only [spec_Hits.l0]
      rw [if_pos (by omega), if_pos (by omega), w1 (by omega), hitsTo_succ]
      unfold hitB
      by_cases c1 : ((rd_T32 l i).f2 == a3) = true <;> by_cases c2 : (rd_T32 l i).f0 ≥ a1 <;> by_cases c3 : (rd_T32 l i).f0 ≤ a2 <;> simp only [c1, c2, c3, decide_true, decide_false, Bool.and_true, Bool.and_false, Bool.false_and, Bool.true_and, if_true, if_false, Bool.false_eq_true]
      rw [if_pos (by omega)])
  exact h
theorem impl_hits_ev (l : List S32) (a1 a2 : Int) (a3 : Bool) (hl : l.length ≤ 1048576) : Ev (fun k => impl_Hits.f k l a1 a2 a3) (hitsTo l a1 a2 a3 l.length) := by
  have h := ev_for (r := hitsTo l a1 a2 a3 l.length) l.length (fun k i => impl_Hits.l0 k a1 a2 a3 (hitsTo l a1 a2 a3 i) l l.length i)
    (fun k => by
      simp only [impl_Hits.l0]
      rw [if_neg (by omega)])
    (fun i hi k => by
      have hlen := hitsTo_len l a1 a2 a3 i
      simp only [impl_Hits.l0]
      rw [if_pos (by omega), if_pos (by omega), if_pos (by omega), w1 (by omega), hitsTo_succ]
      unfold hitB
      by_cases c1 : ((rd_T32 l i).f2 == a3) = true <;> by_cases c2 : (rd_T32 l i).f0 ≥ a1 <;> by_cases c3 : (rd_T32 l i).f0 ≤ a2 <;> simp only [c1, c2, c3, decide_true, decide_false, Bool.and_true, Bool.and_false, Bool.false_and, Bool.true_and, if_true, if_false, Bool.false_eq_true]
      rw [if_pos (by omega)])
  exact h

theorem FnExactHits : laws_FnExactHits.Pure := by
  intro l a1 a2 a3 hm hl hw w1' w2'
  refine Ev.rounds (g := fun k => laws_FnExactHits.f k l a1 a2 a3) ?_
  by_cases hs : l.length ≤ 1048576
  · have hsz := szCycS_yes l 1048576 hs (by omega)
    have hc := toCycS_ev l hl
    have hml : (l.map cycOf).length = l.length := by simp
    have h1 := spec_hits_ev (l.map cycOf) a1 a2 a3 (by omega)
    have h2 := impl_hits_ev (l.map cycOf) a1 a2 a3 (by omega)
    have hlen := hitsTo_len (l.map cycOf) a1 a2 a3 (l.map cycOf).length
    have h3 := eqIntS_ev (hitsTo (l.map cycOf) a1 a2 a3 (l.map cycOf).length) (by omega)
    have h4 := eqCycS_ev (l.map cycOf) (by omega)
    have h5 := markCycS_ev (l.map cycOf) 1 (by omega) (by omega)
    have h6 := markIntS_ev (hitsTo (l.map cycOf) a1 a2 a3 (l.map cycOf).length) 1 (by omega) (by omega)
    have h7 := heldIntS_ev (hitsTo (l.map cycOf) a1 a2 a3 (l.map cycOf).length).length 1 (by omega) (by omega)
    simp only [laws_FnExactHits.f, show ((1048576 : Int)) = ((1048576 : Nat) : Int) from rfl, hsz, Option.bind_some]
    simp only [if_neg (show ¬ ((1048576 - l.length : Nat) : Int) < 0 by omega)]
    refine Ev.bind hc (Ev.bind h1 (Ev.bind hc (Ev.bind h2 (Ev.bind h3 ?_))))
    simp only [if_true]
    refine Ev.bind hc (Ev.bind h4 ?_)
    simp only [if_true]
    refine Ev.bind h5 ?_
    simp only [if_neg (show ¬ ((1 + 3 * (l.map cycOf).length : Nat) : Int) < 0 by omega)]
    refine Ev.bind h3 ?_
    refine Ev.step (fun k => by simp only [laws_FnExactHits.j0, Bool.not_true, Bool.false_eq_true, if_false]; rfl) ?_
    refine Ev.bind h6 (Ev.bind h7 ?_)
    simp only [if_neg (show ¬ ((1 + (hitsTo (l.map cycOf) a1 a2 a3 (l.map cycOf).length).length : Nat) : Int) < 0 by omega), if_true]
    refine Ev.bind hc (Ev.bind h2 (Ev.bind h3 ?_))
    simp only [if_true]
    refine Ev.bind h7 ?_
    simp only [if_neg (show ¬ ((1 + (hitsTo (l.map cycOf) a1 a2 a3 (l.map cycOf).length).length : Nat) : Int) < 0 by omega), if_true]
    exact Ev.now true
  · have hsz := szCycS_no l 1048576 (by omega) (by omega) hl
    simp only [laws_FnExactHits.f, show ((1048576 : Int)) = ((1048576 : Nat) : Int) from rfl, hsz, Option.bind_some]
    exact Ev.now true
end Go.Proofs.Ytdedhoeaapkdiaa.Pure
