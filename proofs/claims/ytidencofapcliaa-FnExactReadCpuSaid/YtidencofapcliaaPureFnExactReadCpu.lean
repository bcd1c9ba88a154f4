/-
ReadCpu: the program's processor of a text is the reference's, for every text.
-/
import Derived.Test.YtidencofapcliaaMCx7
import Derived.Test.YtidencofapcliaaMCx8
import Derived.Test.YtidencofapcliaaCCpuRead
set_option linter.unusedSimpArgs false
set_option linter.unusedVariables false
namespace Go.Proofs.Ytidencofapcliaa.Pure
open Go.RowKit Go.Proofs.Ytidencofapcliaa.MC Go.Proofs.Ytidencofapcliaa.MCR Go.Proofs.YtidencofapcliaaW.PrintWords Go.Proofs.YtidencofapcliaaW.PrintLast Go.Proofs.Ytidencofapcliaa.Bit Go.Proofs.Ytidencofapcliaa.Lst
theorem eq_flags (f0 f1 f2 f3 f4 f5 : Bool) : laws_eqFlags.f f0 f1 f2 f3 f4 f5 f0 f1 f2 f3 f4 f5 = some true := by
  unfold laws_eqFlags.f
  simp
theorem eq_cpu (a0 a1 a2 a3 a4 : Int) (f0 f1 f2 f3 f4 f5 : Bool) : laws_eqCpu.f a0 a1 a2 a3 a4 f0 f1 f2 f3 f4 f5 a0 a1 a2 a3 a4 f0 f1 f2 f3 f4 f5 = some true := by
  unfold laws_eqCpu.f
  simp only [if_true, eq_flags, Option.bind_some]
theorem FnExactReadCpu : laws_FnExactReadCpu.Pure := by
  intro s hs
  apply Ev.rounds
  unfold laws_FnExactReadCpu.f
  by_cases c : (s.size : Int) > 1048576
  · simp only [if_pos c]; exact Ev.now _
  · simp only [if_neg c]
    refine Ev.bind (spec_read s) (Ev.bind (impl_read s) ?_)
    simp only [eq_cpu, Option.bind_some, if_true]
    rw [show ((cans s).2.2.2.2.2.2.2.2.2.2.2 != (cans s).2.2.2.2.2.2.2.2.2.2.2) = false from by simp]
    exact Ev.now _
end Go.Proofs.Ytidencofapcliaa.Pure
