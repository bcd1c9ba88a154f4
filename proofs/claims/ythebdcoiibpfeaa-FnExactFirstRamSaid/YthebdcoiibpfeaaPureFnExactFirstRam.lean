/-
FirstRam: the program's memory is the reference's, for all cycles and sizes.
-/
import Derived.Test.YthebdcoiibpfeaaMFx7
import Derived.Test.YthebdcoiibpfeaaFFirstRamSame
import Derived.Test.YthebdcoiibpfeaaFHarnCyc
import Derived.Test.YthebdcoiibpfeaaFHarnCycMark
import Derived.Test.YthebdcoiibpfeaaFHarnRam
import Derived.Test.YthebdcoiibpfeaaFHarnBool
set_option linter.unusedSimpArgs false
set_option linter.unusedVariables false
namespace Go.Proofs.Ythebdcoiibpfeaa.Pure
open Go.RowKit Go.Proofs.Ythebdcoiibpfeaa.MF Go.Proofs.Ythebdcoiibpfeaa.MFH Go.Proofs.YthebdcoiibpfeaaW.PrintWords Go.Proofs.YthebdcoiibpfeaaW.PrintLast Go.Proofs.Ythebdcoiibpfeaa.Bit Go.Proofs.Ythebdcoiibpfeaa.Lst
theorem FnExactFirstRam : laws_FnExactFirstRam.Pure := by
  intro l a hm hl hw ha
  refine Ev.rounds (g := fun k => laws_FnExactFirstRam.f k l a) ?_
  by_cases hs : l.length ≤ 1048576
  · have hsz := szCycS_yes l 1048576 hs (by omega)
    have hc := toCycS_ev l hl
    have hml : (l.map cycOf).length = l.length := by simp
    have hg : ∀ x ∈ l.map cycOf, 0 ≤ x.f0 ∧ x.f0 < 65536 := by
      intro x hx
      obtain ⟨y, hy, rfl⟩ := List.mem_map.1 hx
      exact wf_u16 (hw y hy).1
    obtain ⟨ram, kn, q1, q2, t1, t2⟩ := first_same (l.map cycOf) a (by omega) hg
    have h3 := eqRam_ev ram (by omega)
    have h4 := eqBoolS_ev kn (by omega)
    have h5 := eqCycS_ev (l.map cycOf) (by omega)
    have h6 := markCycS_ev (l.map cycOf) 1 (by omega) (by omega)
    have h7 := markRam_ev ram 1 (by omega) (by omega)
    have h8 := markBoolS_ev kn (1 + ram.length) (by omega) (by omega)
    have h9 := heldRam_ev ram.length 1 (by omega) (by omega)
    have h10 := heldBoolS_ev kn.length (1 + ram.length) (by omega) (by omega)
    simp only [laws_FnExactFirstRam.f, show ((1048576 : Int)) = ((1048576 : Nat) : Int) from rfl, hsz, Option.bind_some]
    simp only [if_neg (show ¬ ((1048576 - l.length : Nat) : Int) < 0 by omega)]
    refine Ev.bind hc (Ev.bind t1 (Ev.bind hc (Ev.bind t2 (Ev.bind h3 ?_))))
    simp only [if_true]
    refine Ev.bind h4 ?_
    simp only [Bool.not_true]
    refine Ev.step (fun k => by simp only [laws_FnExactFirstRam.j0, Bool.false_eq_true, if_false]; rfl) ?_
    refine Ev.bind hc (Ev.bind h5 ?_)
    simp only [if_true]
    refine Ev.bind h6 ?_
    simp only [if_neg (show ¬ ((1 + 3 * (l.map cycOf).length : Nat) : Int) < 0 by omega)]
    refine Ev.bind h3 ?_
    simp only [if_true]
    refine Ev.bind h4 ?_
    simp only [Bool.not_true]
    refine Ev.step (fun k => by simp only [laws_FnExactFirstRam.j1, Bool.false_eq_true, if_false]; rfl) ?_
    refine Ev.bind h7 (Ev.bind h8 (Ev.bind h9 ?_))
    simp only [if_neg (show ¬ ((1 + ram.length : Nat) : Int) < 0 by omega)]
    refine Ev.bind h10 ?_
    simp only [if_neg (show ¬ ((1 + ram.length + kn.length : Nat) : Int) < 0 by omega), if_true]
    refine Ev.bind hc (Ev.bind t2 (Ev.bind h3 ?_))
    simp only [if_true]
    refine Ev.bind h4 ?_
    simp only [Bool.not_true]
    refine Ev.step (fun k => by simp only [laws_FnExactFirstRam.j2, Bool.false_eq_true, if_false]; rfl) ?_
    refine Ev.bind h9 ?_
    simp only [if_neg (show ¬ ((1 + ram.length : Nat) : Int) < 0 by omega)]
    refine Ev.bind h10 ?_
    simp only [if_neg (show ¬ ((1 + ram.length + kn.length : Nat) : Int) < 0 by omega), if_true]
    exact Ev.now true
  · have hsz := szCycS_no l 1048576 (by omega) (by omega) hl
    simp only [laws_FnExactFirstRam.f, show ((1048576 : Int)) = ((1048576 : Nat) : Int) from rfl, hsz, Option.bind_some]
    exact Ev.now true
end Go.Proofs.Ythebdcoiibpfeaa.Pure
