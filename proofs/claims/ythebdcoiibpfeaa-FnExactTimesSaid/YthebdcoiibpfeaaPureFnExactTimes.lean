/-
Times: the program tells as often as the reference, for all rules and cycles.
-/
import Derived.Test.YthebdcoiibpfeaaMTx5
import Derived.Test.YthebdcoiibpfeaaTTimesSame
import Derived.Test.YthebdcoiibpfeaaTHarnRule
import Derived.Test.YthebdcoiibpfeaaTHarnCyc
set_option linter.unusedSimpArgs false
set_option linter.unusedVariables false
namespace Go.Proofs.Ythebdcoiibpfeaa.Pure
open Go.RowKit Go.Proofs.Ythebdcoiibpfeaa.MT Go.Proofs.Ythebdcoiibpfeaa.MTH Go.Proofs.YthebdcoiibpfeaaW.PrintWords Go.Proofs.YthebdcoiibpfeaaW.PrintLast Go.Proofs.Ythebdcoiibpfeaa.Bit Go.Proofs.Ythebdcoiibpfeaa.Lst
theorem FnExactTimes : laws_FnExactTimes.Pure := by
  intro R l hmR hlR hwR hm hl hw
  refine Ev.rounds (g := fun k => laws_FnExactTimes.f k R l) ?_
  by_cases hsR : R.length ≤ 1048576
  · have hszR := szRuleS_yes R 1048576 hsR (by omega)
    simp only [laws_FnExactTimes.f, show ((1048576 : Int)) = ((1048576 : Nat) : Int) from rfl, hszR, Option.bind_some]
    simp only [if_neg (show ¬ ((1048576 - R.length : Nat) : Int) < 0 by omega)]
    by_cases hs : l.length ≤ 1048576 - R.length
    · have hsz := szCycS_yes l (1048576 - R.length) hs (by omega)
      have hc := toCycS_ev l hl
      have hr := toRuleS_ev R hlR
      have hml : (l.map cycOf).length = l.length := by simp
      have hmR' : (R.map ruleOf).length = R.length := by simp
      obtain ⟨t, t0, t1, t2⟩ := times_same (R.map ruleOf) (l.map cycOf) (by omega) (by omega) (ruIn_map hwR)
      have h4 := eqCycS_ev (l.map cycOf) (by omega)
      have h5 := eqRuleS_ev (R.map ruleOf) (by omega)
      simp only [hsz, Option.bind_some]
      simp only [if_neg (show ¬ ((1048576 - R.length - l.length : Nat) : Int) < 0 by omega)]
      refine Ev.bind hr (Ev.bind hc (Ev.bind t1 (Ev.bind hr (Ev.bind hc (Ev.bind t2 ?_)))))
      simp only [if_true]
      refine Ev.bind hr (Ev.bind h5 ?_)
      simp only [if_true]
      refine Ev.bind hc (Ev.bind h4 ?_)
      simp only [if_true]
      exact Ev.now true
    · have hsz := szCycS_no l (1048576 - R.length) (by omega) (by omega) hl
      simp only [hsz, Option.bind_some]
      exact Ev.now true
  · have hsz := szRuleS_no R 1048576 (by omega) (by omega) hlR
    simp only [laws_FnExactTimes.f, show ((1048576 : Int)) = ((1048576 : Nat) : Int) from rfl, hsz, Option.bind_some]
    exact Ev.now true
end Go.Proofs.Ythebdcoiibpfeaa.Pure
