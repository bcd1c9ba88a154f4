/-
Steady: the program tells of the same captures as the reference that they are steady.
-/
import Derived.Test.YtdedhoeaapkdiaaMCx4
import Derived.Test.YtdedhoeaapkdiaaCOddSame
set_option linter.unusedSimpArgs false
set_option linter.unusedVariables false
namespace Go.Proofs.Ytdedhoeaapkdiaa.Pure
open Go.RowKit Go.Proofs.Ytdedhoeaapkdiaa.MC Go.Proofs.Ytdedhoeaapkdiaa.MCH Go.Proofs.YtdedhoeaapkdiaaW.PrintWords Go.Proofs.YtdedhoeaapkdiaaW.PrintLast Go.Proofs.Ytdedhoeaapkdiaa.Bit Go.Proofs.Ytdedhoeaapkdiaa.Lst
theorem FnExactSteady : laws_FnExactSteady.Pure := by
  intro l a hm hl hw wa
  refine Ev.rounds (g := fun k => laws_FnExactSteady.f k l a) ?_
  by_cases hs : l.length ≤ 1048576
  · have hsz := szCycS_yes l 1048576 hs (by omega)
    have hc := toCycS_ev l hl
    have hml : (l.map cycOf).length = l.length := by simp
    obtain ⟨b, g1, g2⟩ := steady_same (l.map cycOf) a (by omega) (inR_map hw)
    have h4 := eqCycS_ev (l.map cycOf) (by omega)
    simp only [laws_FnExactSteady.f, show ((1048576 : Int)) = ((1048576 : Nat) : Int) from rfl, hsz, Option.bind_some]
    simp only [if_neg (show ¬ ((1048576 - l.length : Nat) : Int) < 0 by omega)]
    refine Ev.bind hc (Ev.bind g1 (Ev.bind hc (Ev.bind g2 ?_)))
    simp only [bne_self_eq_false, Bool.false_eq_true, if_false]
    refine Ev.bind hc (Ev.bind h4 ?_)
    simp only [if_true]
    exact Ev.now true
  · have hsz := szCycS_no l 1048576 (by omega) (by omega) hl
    simp only [laws_FnExactSteady.f, show ((1048576 : Int)) = ((1048576 : Nat) : Int) from rfl, hsz, Option.bind_some]
    exact Ev.now true
end Go.Proofs.Ytdedhoeaapkdiaa.Pure
