/-
Gain: the program tells as many bytes fewer as the reference, for every list of cycles.
-/
import Derived.Test.YthebdcoiibpfeaaMAx2
import Derived.Test.YthebdcoiibpfeaaMAx4
import Derived.Test.YthebdcoiibpfeaaAPackSame
import Derived.Test.YthebdcoiibpfeaaACycOk
set_option linter.unusedSimpArgs false
set_option linter.unusedVariables false
namespace Go.Proofs.Ythebdcoiibpfeaa.Pure
open Go.RowKit Go.Proofs.Ythebdcoiibpfeaa.MA Go.Proofs.Ythebdcoiibpfeaa.MAH Go.Proofs.YthebdcoiibpfeaaW.PrintWords Go.Proofs.YthebdcoiibpfeaaW.PrintLast Go.Proofs.Ythebdcoiibpfeaa.Bit Go.Proofs.Ythebdcoiibpfeaa.Lst
theorem FnExactGain : laws_FnExactGain.Pure := by
  intro l hm hl hw
  refine Ev.rounds (g := fun k => laws_FnExactGain.f k l) ?_
  by_cases hs : l.length ≤ 1048576
  · have hsz := szCycS_yes l 1048576 hs (by omega)
    have hc := toCycS_ev l hl
    have hml : (l.map cycOf).length = l.length := by simp
    obtain ⟨p, p1, p2⟩ := pack_same (l.map cycOf) (cyOk_map hw)
    obtain ⟨s, s1, s2, _⟩ := squeeze_same (l.map cycOf) (cyOk_map hw)
    have g1 : Ev (fun k => spec_Gain.f k (l.map cycOf)) (wrap64 ((p.length : Int) - (s.length : Int))) := by
      simp only [spec_Gain.f]
      exact Ev.bind p1 (Ev.bind s1 (Ev.now _))
    have g2 : Ev (fun k => impl_Gain.f k (l.map cycOf)) (wrap64 ((p.length : Int) - (s.length : Int))) := by
      simp only [impl_Gain.f]
      exact Ev.bind p2 (Ev.bind s2 (Ev.now _))
    have h4 := eqCycS_ev (l.map cycOf) (by omega)
    simp only [laws_FnExactGain.f, show ((1048576 : Int)) = ((1048576 : Nat) : Int) from rfl, hsz, Option.bind_some]
    simp only [if_neg (show ¬ ((1048576 - l.length : Nat) : Int) < 0 by omega)]
    refine Ev.bind hc (Ev.bind g1 (Ev.bind hc (Ev.bind g2 ?_)))
    simp only [if_true]
    refine Ev.bind hc (Ev.bind h4 ?_)
    simp only [if_true]
    exact Ev.now true
  · have hsz := szCycS_no l 1048576 (by omega) (by omega) hl
    simp only [laws_FnExactGain.f, show ((1048576 : Int)) = ((1048576 : Nat) : Int) from rfl, hsz, Option.bind_some]
    exact Ev.now true
end Go.Proofs.Ythebdcoiibpfeaa.Pure
