/-
Squeeze: the program's small form is the reference's, for every list of cycles.
-/
import Derived.Test.YthebdcoiibpfeaaMAx5
import Derived.Test.YthebdcoiibpfeaaACycOk
import Derived.Test.YthebdcoiibpfeaaAHarnCycMark
import Derived.Test.YthebdcoiibpfeaaAHarnByte
set_option linter.unusedSimpArgs false
set_option linter.unusedVariables false
namespace Go.Proofs.Ythebdcoiibpfeaa.Pure
open Go.RowKit Go.Proofs.Ythebdcoiibpfeaa.MA Go.Proofs.Ythebdcoiibpfeaa.MAH Go.Proofs.YthebdcoiibpfeaaW.PrintWords Go.Proofs.YthebdcoiibpfeaaW.PrintLast Go.Proofs.Ythebdcoiibpfeaa.Bit Go.Proofs.Ythebdcoiibpfeaa.Lst
theorem FnExactSqueeze : laws_FnExactSqueeze.Pure := by
  intro l hm hl hw
  refine Ev.rounds (g := fun k => laws_FnExactSqueeze.f k l) ?_
  by_cases hs : l.length ≤ 1048576
  · have hsz := szCycS_yes l 1048576 hs (by omega)
    have hc := toCycS_ev l hl
    have hml : (l.map cycOf).length = l.length := by simp
    obtain ⟨s, h1, h2, hlen⟩ := squeeze_same (l.map cycOf) (cyOk_map hw)
    have h3 := eqByteS_ev s (by omega)
    have h4 := eqCycS_ev (l.map cycOf) (by omega)
    have h5 := markCycS_ev (l.map cycOf) 1 (by omega) (by omega)
    have h6 := markByteS_ev s 1 (by omega) (by omega)
    have h7 := heldByteS_ev s.length 1 (by omega) (by omega)
    simp only [laws_FnExactSqueeze.f, show ((1048576 : Int)) = ((1048576 : Nat) : Int) from rfl, hsz, Option.bind_some]
    simp only [if_neg (show ¬ ((1048576 - l.length : Nat) : Int) < 0 by omega)]
    refine Ev.bind hc (Ev.bind h1 (Ev.bind hc (Ev.bind h2 (Ev.bind h3 ?_))))
    simp only [if_true]
    refine Ev.bind hc (Ev.bind h4 ?_)
    simp only [if_true]
    refine Ev.bind h5 ?_
    simp only [if_neg (show ¬ ((1 + 3 * (l.map cycOf).length : Nat) : Int) < 0 by omega)]
    refine Ev.bind h3 ?_
    refine Ev.step (fun k => by simp only [laws_FnExactSqueeze.j0, Bool.not_true, Bool.false_eq_true, if_false]; rfl) ?_
    refine Ev.bind h6 (Ev.bind h7 ?_)
    simp only [if_neg (show ¬ ((1 + s.length : Nat) : Int) < 0 by omega), if_true]
    refine Ev.bind hc (Ev.bind h2 (Ev.bind h3 ?_))
    simp only [if_true]
    refine Ev.bind h7 ?_
    simp only [if_neg (show ¬ ((1 + s.length : Nat) : Int) < 0 by omega), if_true]
    exact Ev.now true
  · have hsz := szCycS_no l 1048576 (by omega) (by omega) hl
    simp only [laws_FnExactSqueeze.f, show ((1048576 : Int)) = ((1048576 : Nat) : Int) from rfl, hsz, Option.bind_some]
    exact Ev.now true
end Go.Proofs.Ythebdcoiibpfeaa.Pure
