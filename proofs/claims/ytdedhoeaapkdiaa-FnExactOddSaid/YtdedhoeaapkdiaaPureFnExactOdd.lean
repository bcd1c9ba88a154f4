/-
Odd: the program's places are the reference's, for every list of cycles and every size.
-/
import Derived.Test.YtdedhoeaapkdiaaMCx5
import Derived.Test.YtdedhoeaapkdiaaCOddSame
import Derived.Test.YtdedhoeaapkdiaaCHarnCycMark
import Derived.Test.YtdedhoeaapkdiaaCHarnInt
set_option linter.unusedSimpArgs false
set_option linter.unusedVariables false
namespace Go.Proofs.Ytdedhoeaapkdiaa.Pure
open Go.RowKit Go.Proofs.Ytdedhoeaapkdiaa.MC Go.Proofs.Ytdedhoeaapkdiaa.MCH Go.Proofs.YtdedhoeaapkdiaaW.PrintWords Go.Proofs.YtdedhoeaapkdiaaW.PrintLast Go.Proofs.Ytdedhoeaapkdiaa.Bit Go.Proofs.Ytdedhoeaapkdiaa.Lst
theorem FnExactOdd : laws_FnExactOdd.Pure := by
  intro l a hm hl hw wa
  refine Ev.rounds (g := fun k => laws_FnExactOdd.f k l a) ?_
  by_cases hs : l.length ≤ 1048576
  · have hsz := szCycS_yes l 1048576 hs (by omega)
    have hc := toCycS_ev l hl
    have hml : (l.map cycOf).length = l.length := by simp
    obtain ⟨s, h1, h2, hlen⟩ := odd_same (l.map cycOf) a (by omega) (inR_map hw)
    have h3 := eqIntS_ev s (by omega)
    have h4 := eqCycS_ev (l.map cycOf) (by omega)
    have h5 := markCycS_ev (l.map cycOf) 1 (by omega) (by omega)
    have h6 := markIntS_ev s 1 (by omega) (by omega)
    have h7 := heldIntS_ev s.length 1 (by omega) (by omega)
    simp only [laws_FnExactOdd.f, show ((1048576 : Int)) = ((1048576 : Nat) : Int) from rfl, hsz, Option.bind_some]
    simp only [if_neg (show ¬ ((1048576 - l.length : Nat) : Int) < 0 by omega)]
    refine Ev.bind hc (Ev.bind h1 (Ev.bind hc (Ev.bind h2 (Ev.bind h3 ?_))))
    simp only [if_true]
    refine Ev.bind hc (Ev.bind h4 ?_)
    simp only [if_true]
    refine Ev.bind h5 ?_
    simp only [if_neg (show ¬ ((1 + 3 * (l.map cycOf).length : Nat) : Int) < 0 by omega)]
    refine Ev.bind h3 ?_
    refine Ev.step (fun k => by simp only [laws_FnExactOdd.j0, Bool.not_true, Bool.false_eq_true, if_false]; rfl) ?_
    refine Ev.bind h6 (Ev.bind h7 ?_)
    simp only [if_neg (show ¬ ((1 + s.length : Nat) : Int) < 0 by omega), if_true]
    refine Ev.bind hc (Ev.bind h2 (Ev.bind h3 ?_))
    simp only [if_true]
    refine Ev.bind h7 ?_
    simp only [if_neg (show ¬ ((1 + s.length : Nat) : Int) < 0 by omega), if_true]
    exact Ev.now true
  · have hsz := szCycS_no l 1048576 (by omega) (by omega) hl
    simp only [laws_FnExactOdd.f, show ((1048576 : Int)) = ((1048576 : Nat) : Int) from rfl, hsz, Option.bind_some]
    exact Ev.now true
end Go.Proofs.Ytdedhoeaapkdiaa.Pure
