/-
Unsqueeze: the program's cycles out of a small form are the reference's, for all bytes.
-/
import Derived.Test.YthebdcoiibpfeaaMUx8
import Derived.Test.YthebdcoiibpfeaaUUnsqSame
import Derived.Test.YthebdcoiibpfeaaUHarnToByte
import Derived.Test.YthebdcoiibpfeaaUHarnByteMark
import Derived.Test.YthebdcoiibpfeaaUHarnCycEq
import Derived.Test.YthebdcoiibpfeaaUHarnCycMark
import Derived.Test.YthebdcoiibpfeaaUHarnCycHeld
set_option linter.unusedSimpArgs false
set_option linter.unusedVariables false
namespace Go.Proofs.Ythebdcoiibpfeaa.Pure
open Go.RowKit Go.Proofs.Ythebdcoiibpfeaa.MU Go.Proofs.Ythebdcoiibpfeaa.MUH Go.Proofs.YthebdcoiibpfeaaW.PrintWords Go.Proofs.YthebdcoiibpfeaaW.PrintLast Go.Proofs.Ythebdcoiibpfeaa.Bit Go.Proofs.Ythebdcoiibpfeaa.Lst
theorem FnExactUnsqueeze : laws_FnExactUnsqueeze.Pure := by
  intro l hm hl hw
  refine Ev.rounds (g := fun k => laws_FnExactUnsqueeze.f k l) ?_
  by_cases hs : l.length ≤ 1048576
  · have hb := toByteS_ev l hl
    have hin : BIn l := fun x hx => wf_u8 (hw x hx)
    obtain ⟨R, ok, r1, t1, t2⟩ := unsq_same l hin
    have h3 := eqCycS_ev R (by omega)
    have h4 := eqByteS_ev l (by omega)
    have h5 := markByteS_ev l 1 (by omega) (by omega)
    have h6 := markCycS_ev R 1 (by omega) (by omega)
    have h7 := heldCycS_ev R.length 1 (by omega) (by omega)
    simp only [laws_FnExactUnsqueeze.f]
    simp only [if_neg (show ¬ (l.length : Int) > 1048576 by omega)]
    refine Ev.bind hb (Ev.bind t1 (Ev.bind hb (Ev.bind t2 (Ev.bind h3 ?_))))
    simp only [if_true, bne_self_eq_false]
    refine Ev.step (fun k => by simp only [laws_FnExactUnsqueeze.j0, Bool.false_eq_true, if_false]; rfl) ?_
    refine Ev.bind hb (Ev.bind h4 ?_)
    simp only [if_true]
    refine Ev.bind h5 ?_
    simp only [if_neg (show ¬ ((1 + l.length : Nat) : Int) < 0 by omega)]
    refine Ev.bind h3 ?_
    simp only [if_true, bne_self_eq_false]
    refine Ev.step (fun k => by simp only [laws_FnExactUnsqueeze.j1, Bool.false_eq_true, if_false]; rfl) ?_
    refine Ev.bind h6 (Ev.bind h7 ?_)
    simp only [if_neg (show ¬ ((1 + 3 * R.length : Nat) : Int) < 0 by omega), if_true]
    refine Ev.bind hb (Ev.bind t2 (Ev.bind h3 ?_))
    simp only [if_true, bne_self_eq_false]
    refine Ev.step (fun k => by simp only [laws_FnExactUnsqueeze.j2, Bool.false_eq_true, if_false]; rfl) ?_
    refine Ev.bind h7 ?_
    simp only [if_neg (show ¬ ((1 + 3 * R.length : Nat) : Int) < 0 by omega), if_true]
    exact Ev.now true
  · refine Ev.congr (fun k => ?_) (Ev.now true)
    simp only [laws_FnExactUnsqueeze.f]
    rw [if_pos (by omega)]
end Go.Proofs.Ythebdcoiibpfeaa.Pure
