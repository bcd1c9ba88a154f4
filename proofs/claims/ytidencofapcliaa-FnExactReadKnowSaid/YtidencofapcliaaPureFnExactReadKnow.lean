/-
ReadKnow: the program's Know of a text is the reference's, for every text.
-/
import Derived.Test.YtidencofapcliaaMRx8
import Derived.Test.YtidencofapcliaaRReadKnowBoth
set_option linter.unusedSimpArgs false
set_option linter.unusedVariables false
namespace Go.Proofs.Ytidencofapcliaa.Pure
open Go.RowKit Go.Proofs.Ytidencofapcliaa.MR Go.Proofs.Ytidencofapcliaa.MRB Go.Proofs.YtidencofapcliaaW.PrintWords Go.Proofs.YtidencofapcliaaW.PrintLast Go.Proofs.Ytidencofapcliaa.Bit Go.Proofs.Ytidencofapcliaa.Lst
theorem eq_self (a0 a1 a2 a3 a4 a5 a6 a7 a8 a9 a10 : Int) : laws_eqKnow.f a0 a1 a2 a3 a4 a5 a6 a7 a8 a9 a10 a0 a1 a2 a3 a4 a5 a6 a7 a8 a9 a10 = some true := by
  unfold laws_eqKnow.f
  simp only [if_true]
theorem FnExactReadKnow : laws_FnExactReadKnow.Pure := by
  intro s hs
  apply Ev.rounds
  unfold laws_FnExactReadKnow.f
  by_cases c : (s.size : Int) > 1048576
  · simp only [if_pos c]; exact Ev.now _
  · simp only [if_neg c]
    refine Ev.bind (spec_read s) (Ev.bind (impl_read s) ?_)
    simp only [eq_self, Option.bind_some, if_true]
    rw [show ((answer s).2.2.2.2.2.2.2.2.2.2.2 != (answer s).2.2.2.2.2.2.2.2.2.2.2) = false from by simp]
    exact Ev.now _
end Go.Proofs.Ytidencofapcliaa.Pure
