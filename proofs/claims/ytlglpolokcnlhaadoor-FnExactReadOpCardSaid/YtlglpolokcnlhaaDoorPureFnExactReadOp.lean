/-
ReadOp: the program's bytes of the text of an operation are the reference's, for every text and place.
-/
import Derived.Test.YtlglpolokcnlhaaDoorMRx12
import Derived.Test.YtlglpolokcnlhaaDoorRReadOpBoth
import Derived.Test.YtlglpolokcnlhaaDoorRHarnByte
set_option linter.unusedSimpArgs false
set_option linter.unusedVariables false
namespace Go.Proofs.YtlglpolokcnlhaaDoor.Pure
open Go.RowKit Go.Proofs.YtlglpolokcnlhaaDoor.MR Go.Proofs.YtlglpolokcnlhaaDoor.MRV Go.Proofs.YtlglpolokcnlhaaDoor.MRH Go.Proofs.YtlglpolokcnlhaaDoor.MRO Go.Proofs.YtlglpolokcnlhaaDoor.MRS Go.Proofs.YtlglpolokcnlhaaDoorW.PrintWords Go.Proofs.YtlglpolokcnlhaaDoorW.PrintLast Go.Proofs.YtlglpolokcnlhaaDoor.Lst

theorem FnExactReadOp : laws_FnExactReadOp.Pure := by
  intro a0 a1 _ hw
  refine Ev.rounds (g := fun k => laws_FnExactReadOp.f k a0 a1) ?_
  have hp := Go.Proofs.YtlglpolokcnlhaaDoor.Bit.wf_u16 hw
  unfold laws_FnExactReadOp.f
  by_cases c : (a0.size : Int) > 1048576
  · simp only [if_pos c]
    exact Ev.now _
  · obtain ⟨⟨L, b⟩, e1, e2, h⟩ := readOp_both a0 (by omega) a1 hp
    have hlen : L.length ≤ 3 := by
      rcases h with h | ⟨i, _, _, h, _⟩
      · have : L = [] := congrArg Prod.fst h
        rw [this]
        simp
      · have : L = BI i (numI a0.data.toList) a1 := congrArg Prod.fst h
        rw [this, len_BI]
        exact sz_le _
    have h3 := eqByteS_ev L (by omega)
    have h6 := markByteS_ev L 1 (by omega) (by omega)
    have h7 := heldByteS_ev L.length 1 (by omega) (by omega)
    have hb : (b != b) = false := by simp
    simp only [if_neg c]
    refine Ev.bind e1 (Ev.bind e2 (Ev.bind h3 ?_))
    simp only [if_true, hb]
    refine Ev.step (fun k => by simp only [laws_FnExactReadOp.j0, Bool.false_eq_true, if_false]; rfl) ?_
    refine Ev.bind h6 (Ev.bind h7 ?_)
    simp only [if_neg (show ¬ ((1 + L.length : Nat) : Int) < 0 by omega), if_true]
    refine Ev.bind e2 (Ev.bind h3 ?_)
    simp only [if_true, hb]
    refine Ev.step (fun k => by simp only [laws_FnExactReadOp.j1, Bool.false_eq_true, if_false]; rfl) ?_
    refine Ev.bind h7 ?_
    simp only [if_neg (show ¬ ((1 + L.length : Nat) : Int) < 0 by omega), if_true]
    exact Ev.now true
end Go.Proofs.YtlglpolokcnlhaaDoor.Pure
