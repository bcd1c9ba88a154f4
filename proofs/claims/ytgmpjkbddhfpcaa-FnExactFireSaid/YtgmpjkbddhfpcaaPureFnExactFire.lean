/-
Fire: the program's places are the reference's, for all rules and cycles.
-/
import Derived.Test.YtgmpjkbddhfpcaaMEx2
import Derived.Test.YtgmpjkbddhfpcaaMEx4
import Derived.Test.YtgmpjkbddhfpcaaMEx5
import Derived.Test.YtgmpjkbddhfpcaaMEx7
import Derived.Test.YtgmpjkbddhfpcaaEFireSame
import Derived.Test.YtgmpjkbddhfpcaaEHarnRule
import Derived.Test.YtgmpjkbddhfpcaaEHarnRuleMark
import Derived.Test.YtgmpjkbddhfpcaaEHarnCyc
import Derived.Test.YtgmpjkbddhfpcaaEHarnCycMark
import Derived.Test.YtgmpjkbddhfpcaaEHarnInt
set_option linter.unusedSimpArgs false
set_option linter.unusedVariables false
namespace Go.Proofs.Ytgmpjkbddhfpcaa.Pure
open Go.RowKit Go.Proofs.Ytgmpjkbddhfpcaa.ME Go.Proofs.Ytgmpjkbddhfpcaa.MEH Go.Proofs.YtgmpjkbddhfpcaaW.PrintWords Go.Proofs.YtgmpjkbddhfpcaaW.PrintLast Go.Proofs.Ytgmpjkbddhfpcaa.Bit Go.Proofs.Ytgmpjkbddhfpcaa.Lst
theorem fire_same (R : List Rl) (L : List Cl) (hRl : R.length ≤ 1048576) (hL : L.length ≤ 1048576) (hg : ∀ x ∈ R, RuIn x) : ∃ (r : List Int) (ok : Bool), r.length ≤ 8 ∧ Ev (fun k => spec_Fire.f k R L) (r, ok) ∧ Ev (fun k => impl_Fire.f k R L) (r, ok) := by
  have s := spec_right_ev R hg hRl
  have m := impl_right_ev R hg hRl
  by_cases h : allOk R = true
  · obtain ⟨h1, h2, h3⟩ := allOk_at h
    obtain ⟨r, ok, r1, r2, r3, _⟩ := fire_from R L h2 hL hg h3 L.length 0 [] (by omega) (by simp)
    refine ⟨if ok then r else [], ok, ?_, ?_, ?_⟩
    · cases ok
      · simp
      · simp; omega
    · simp only [spec_Fire.f]
      refine Ev.bind s ?_
      simp only [h, if_true]
      refine Ev.bind (a := (r, ok)) (by simp only [spec_l15From.f]; exact r1) ?_
      cases ok
      · simp only [Bool.false_eq_true, if_false]
        exact Ev.now _
      · simp only [if_true]
        exact Ev.now _
    · simp only [impl_Fire.f]
      refine Ev.bind m ?_
      simp only [h, if_true]
      refine Ev.bind (a := (if ok then r else [], ok)) (by simp only [impl_fire.f]; exact r2) ?_
      exact Ev.now _
  · refine ⟨[], false, by simp, ?_, ?_⟩
    · simp only [spec_Fire.f]
      refine Ev.bind s ?_
      simp only [h]
      exact Ev.now _
    · simp only [impl_Fire.f]
      refine Ev.bind m ?_
      simp only [h]
      exact Ev.now _
theorem FnExactFire : laws_FnExactFire.Pure := by
  intro R l hmR hlR hwR hm hl hw
  refine Ev.rounds (g := fun k => laws_FnExactFire.f k R l) ?_
  by_cases hsR : R.length ≤ 1048576
  · have hszR := szRuleS_yes R 1048576 hsR (by omega)
    simp only [laws_FnExactFire.f, show ((1048576 : Int)) = ((1048576 : Nat) : Int) from rfl, hszR, Option.bind_some]
    simp only [if_neg (show ¬ ((1048576 - R.length : Nat) : Int) < 0 by omega)]
    by_cases hs : l.length ≤ 1048576 - R.length
    · have hsz := szCycS_yes l (1048576 - R.length) hs (by omega)
      have hc := toCycS_ev l hl
      have hr := toRuleS_ev R hlR
      have hml : (l.map cycOf).length = l.length := by simp
      have hmR' : (R.map ruleOf).length = R.length := by simp
      obtain ⟨t, ok, t0, t1, t2⟩ := fire_same (R.map ruleOf) (l.map cycOf) (by omega) (by omega) (ruIn_map hwR)
      have h3 := eqIntS_ev t (by omega)
      have h4 := eqCycS_ev (l.map cycOf) (by omega)
      have h5 := eqRuleS_ev (R.map ruleOf) (by omega)
      have h6 := markRuleS_ev (R.map ruleOf) 1 (by omega) (by omega)
      have h7 := markCycS_ev (l.map cycOf) (1 + 5 * (R.map ruleOf).length) (by omega) (by omega)
      have h8 := markIntS_ev t 1 (by omega) (by omega)
      have h9 := heldIntS_ev t.length 1 (by omega) (by omega)
      simp only [hsz, Option.bind_some]
      simp only [if_neg (show ¬ ((1048576 - R.length - l.length : Nat) : Int) < 0 by omega)]
      refine Ev.bind hr (Ev.bind hc (Ev.bind t1 (Ev.bind hr (Ev.bind hc (Ev.bind t2 (Ev.bind h3 ?_))))))
      simp only [if_true, bne_self_eq_false]
      refine Ev.step (fun k => by simp only [laws_FnExactFire.j0, Bool.false_eq_true, if_false]; rfl) ?_
      refine Ev.bind hr (Ev.bind h5 ?_)
      simp only [if_true]
      refine Ev.bind hc (Ev.bind h4 ?_)
      simp only [if_true]
      refine Ev.bind h6 (Ev.bind h7 ?_)
      simp only [if_neg (show ¬ ((1 + 5 * (R.map ruleOf).length + 3 * (l.map cycOf).length : Nat) : Int) < 0 by omega)]
      refine Ev.bind h3 ?_
      simp only [if_true, bne_self_eq_false]
      refine Ev.step (fun k => by simp only [laws_FnExactFire.j1, Bool.false_eq_true, if_false]; rfl) ?_
      refine Ev.bind h8 (Ev.bind h9 ?_)
      simp only [if_neg (show ¬ ((1 + t.length : Nat) : Int) < 0 by omega), if_true]
      refine Ev.bind hr (Ev.bind hc (Ev.bind t2 (Ev.bind h3 ?_)))
      simp only [if_true, bne_self_eq_false]
      refine Ev.step (fun k => by simp only [laws_FnExactFire.j2, Bool.false_eq_true, if_false]; rfl) ?_
      refine Ev.bind h9 ?_
      simp only [if_neg (show ¬ ((1 + t.length : Nat) : Int) < 0 by omega), if_true]
      exact Ev.now true
    · have hsz := szCycS_no l (1048576 - R.length) (by omega) (by omega) hl
      simp only [hsz, Option.bind_some]
      exact Ev.now true
  · have hsz := szRuleS_no R 1048576 (by omega) (by omega) hlR
    simp only [laws_FnExactFire.f, show ((1048576 : Int)) = ((1048576 : Nat) : Int) from rfl, hsz, Option.bind_some]
    exact Ev.now true
end Go.Proofs.Ytgmpjkbddhfpcaa.Pure
