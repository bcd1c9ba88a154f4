/-
FnOdd behind its draw: reads that aren't steady are reads, and there are such just where a capture isn't steady.
-/
import Derived.Test.YtnoelppkcbelcaaMOx0
import Derived.Test.YtnoelppkcbelcaaMOx3
import Derived.Test.YtnoelppkcbelcaaMOx4
import Derived.Test.YtnoelppkcbelcaaMOx5
import Derived.Test.YtnoelppkcbelcaaOOddReads
set_option linter.unusedSimpArgs false
set_option linter.unusedVariables false
namespace Go.Proofs.Ytnoelppkcbelcaa.Pure
open Go.RowKit Go.Proofs.Ytnoelppkcbelcaa.MO Go.Proofs.Ytnoelppkcbelcaa.MOH Go.Proofs.YtnoelppkcbelcaaW.PrintWords Go.Proofs.YtnoelppkcbelcaaW.PrintLast Go.Proofs.Ytnoelppkcbelcaa.Bit Go.Proofs.Ytnoelppkcbelcaa.Lst
theorem sameInts_ev (l : List Int) (hl : l.length < 9223372036854775807) : Ev (fun k => laws_sameInts.f k l l) true := by
  have h := ev_for (r := true) l.length (fun k i => laws_sameInts.l0 k l l i)
    (fun k => by
      simp only [laws_sameInts.l0]
      rw [if_neg (by omega)])
    (fun i hi k => by
      simp only [laws_sameInts.l0, if_true]
      rw [if_pos (by omega), if_pos (by omega), if_pos (by omega), w1 (by omega)])
  refine Ev.congr (fun k => ?_) h
  unfold laws_sameInts.f
  rw [if_pos rfl]
  rfl
theorem rd_mem (l : List Int) {i : Nat} (h : i < l.length) : rd l i ∈ l := by
  unfold rd
  rw [Int.toNat_natCast, List.getD_eq_getElem?_getD, List.getElem?_eq_getElem h]
  exact List.getElem_mem h
theorem FnOdd (l : List S32) (a : Int) (hl : l.length ≤ 1048576) (hg : ∀ x ∈ l, (Lit.int .u16 x.f0).wf = true ∧ (Lit.int .u8 x.f1).wf = true) : ∃ k, laws_FnOdd.f k l a = some true := by
  refine Ev.rounds (g := fun k => laws_FnOdd.f k l a) ?_
  obtain ⟨r, h1, h2, hlen, hok⟩ := odd_same l a hl (inR_of hg)
  simp only [laws_FnOdd.f]
  refine Ev.bind h2 (Ev.bind h1 (Ev.bind (sameInts_ev r (by omega)) ?_))
  simp only [if_true]
  refine ev_up (r := true) r.length (fun k i => laws_FnOdd.l0 k l a r i) ?_ (fun i hi h => ?_) r.length 0 (by omega)
  · have hst : Ev (fun k => impl_Steady.f k l a) (isSz a && ((r.length : Int) == 0)) := by
      by_cases hz : isSz a = true
      · simp only [impl_Steady.f, impl_size, Option.bind_some, hz, if_true, Bool.true_and]
        exact Ev.bind h2 (Ev.now _)
      · simp only [impl_Steady.f, impl_size, Option.bind_some, Bool.eq_false_iff.2 hz, Bool.false_eq_true, if_false, Bool.false_and]
        exact Ev.now _
    refine Ev.step (f := fun k => (impl_Steady.f k l a).bind fun t => (if (r.length : Int) = 0 then ((spec_NewRam.f a).bind fun u => (some (t == (decide ((u.length : Int) > 0))))) else (some (t == false)))) (fun k => ?_) (Ev.bind hst ?_)
    · simp only [laws_FnOdd.l0]
      rw [if_neg (by omega)]
    · by_cases hr : (r.length : Int) = 0
      · simp only [if_pos hr, spec_newRam, Option.bind_some]
        refine Ev.congr (fun k => ?_) (Ev.now true)
        rw [beq_iff_eq.2 hr, Bool.and_true]
        by_cases hz : isSz a = true
        · obtain ⟨s, rfl, h0, _⟩ := isSz_nat hz
          rw [if_pos hz, hz]
          simp
          omega
        · rw [if_neg hz, Bool.eq_false_iff.2 hz]
          simp
      · simp only [if_neg hr]
        refine Ev.congr (fun k => ?_) (Ev.now true)
        rw [beq_eq_false_iff_ne.2 hr, Bool.and_false]
        rfl
  · obtain ⟨g0, g1, g2⟩ := hok _ (rd_mem r hi)
    refine Ev.step (f := fun k => laws_FnOdd.l0 k l a r ((i + 1 : Nat) : Int)) (fun k => ?_) h
    simp only [laws_FnOdd.l0]
    rw [if_pos (by omega), if_pos (by omega), if_pos g0, if_pos g1, if_neg (by rw [g2]; decide), w1 (by omega)]
end Go.Proofs.Ytnoelppkcbelcaa.Pure
