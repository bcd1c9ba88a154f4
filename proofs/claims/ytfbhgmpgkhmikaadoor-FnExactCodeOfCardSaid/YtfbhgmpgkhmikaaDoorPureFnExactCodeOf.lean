/-
The law FnExactCodeOf as a statement on texts and numbers alone: the program's search ends where the reference's does.
-/
import Derived.Test.YtfbhgmpgkhmikaaDoorMAx4
import Derived.Test.YtfbhgmpgkhmikaaDoorACodeSame
namespace Go.Proofs.YtfbhgmpgkhmikaaDoor.Pure
open Go.RowKit Go.Proofs.YtfbhgmpgkhmikaaDoor.MA Go.Proofs.YtfbhgmpgkhmikaaDoorW.PrintWords Go.Proofs.YtfbhgmpgkhmikaaDoorW.PrintLast Go.Proofs.YtfbhgmpgkhmikaaDoor.MAO

theorem FnExactCodeOf : laws_FnExactCodeOf.Pure := by
  intro a0 a1 h0 h1
  refine Ev.rounds (g := fun k => laws_FnExactCodeOf.f k a0 a1) ?_
  unfold laws_FnExactCodeOf.f
  by_cases hb : (a0.size : Int) > 1048576
  · simp only [hb, if_true]
    exact Ev.now _
  · simp only [hb, if_false]
    refine Ev.bind (spec_codeOf a0 a1) (Ev.bind (impl_codeOf a0 a1) ?_)
    simp only [if_true]
    exact Ev.now _

end Go.Proofs.YtfbhgmpgkhmikaaDoor.Pure
