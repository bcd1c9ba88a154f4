/-
The law FnExactShowOp as a statement on lists of bytes alone: the program's text of an operation is the reference's.
-/
import Derived.Test.YtfbhgmpgkhmikaaDoorMSx8
import Derived.Test.YtfbhgmpgkhmikaaDoorSShowBoth
import Derived.Test.YtfbhgmpgkhmikaaDoorSShowImpl
import Derived.Test.YtfbhgmpgkhmikaaDoorSHarnByteEq
import Derived.Test.YtfbhgmpgkhmikaaDoorSHarnToByte
set_option linter.unusedSimpArgs false
namespace Go.Proofs.YtfbhgmpgkhmikaaDoor.Pure
open Go.RowKit Go.Proofs.YtfbhgmpgkhmikaaDoor.MS Go.Proofs.YtfbhgmpgkhmikaaDoorW.PrintWords Go.Proofs.YtfbhgmpgkhmikaaDoorW.PrintLast Go.Proofs.YtfbhgmpgkhmikaaDoor.MSS

theorem FnExactShowOp : laws_FnExactShowOp.Pure := by
  intro l0 a1 h0 h1 h2 h3
  refine Ev.rounds (g := fun k => laws_FnExactShowOp.f k l0 a1) ?_
  unfold laws_FnExactShowOp.f
  by_cases hb : (l0.length : Int) > 1048576
  · simp only [hb, if_true]
    exact Ev.now _
  · simp only [hb, if_false]
    have hx : ∀ x ∈ l0, 0 ≤ x ∧ x < 256 := fun x hx => Bit.wf_u8 (h2 x hx)
    have hp := Bit.wf_u16 h3
    have ht := MSH.toByteS_ev l0 (by omega)
    refine Ev.bind ht (Ev.bind (spec_show l0 a1 hp hx (by omega)) (Ev.bind ht (Ev.bind (impl_show l0 a1 hp hx) ?_)))
    simp only [if_true]
    refine Ev.bind ht (Ev.bind (MSH.eqByteS_ev l0 (by omega)) ?_)
    simp only [if_true]
    exact Ev.now _

end Go.Proofs.YtfbhgmpgkhmikaaDoor.Pure
