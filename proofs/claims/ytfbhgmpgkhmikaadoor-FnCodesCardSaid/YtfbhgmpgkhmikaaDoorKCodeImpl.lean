/-
CodeOf: where the program's search for a byte with a name and a mode ends.
-/
import Derived.Test.YtfbhgmpgkhmikaaDoorMKx3
import Derived.Test.YtfbhgmpgkhmikaaDoorKOpSame
set_option linter.unusedSimpArgs false
set_option linter.unusedVariables false
namespace Go.Proofs.YtfbhgmpgkhmikaaDoor.MKO
open Go.RowKit Go.Proofs.YtfbhgmpgkhmikaaDoor.MK Go.Proofs.YtfbhgmpgkhmikaaDoorW.PrintWords Go.Proofs.YtfbhgmpgkhmikaaDoorW.PrintLast Go.Proofs.YtfbhgmpgkhmikaaDoor.Lst

/-- The byte from j on, or -1. -/
def codeFrom (a0 : ByteArray) (a1 : Int) : Nat → Nat → Int
  | 0, _ => -1
  | d + 1, j => if (nm j).toList = a0.toList ∧ md j = a1 ∧ ¬ a0.toList = [] then (j : Int) else codeFrom a0 a1 d (j + 1)
theorem mod256 {j : Nat} (h : j < 256) : (j : Int) % 256 = (j : Int) := by omega
theorem impl_code (a0 : ByteArray) (a1 : Int) : ∀ (d j : Nat), j + d = 256 → Ev (fun k => impl_CodeOf.l0 k a0 a1 (j : Int)) (codeFrom a0 a1 d j)
  | 0, j, h => by
    refine Ev.step (f := fun _ => some (-1)) (fun k => ?_) (Ev.now _)
    simp only [impl_CodeOf.l0]
    rw [if_neg (by omega)]
  | d + 1, j, h => by
    have ih := impl_code a0 a1 d (j + 1) (by omega)
    have w := w1 (i := j) (by omega)
    refine Ev.step (f := fun k => (impl_operation.f k (j : Int)).bind fun t => if t.1.toList = a0.toList then (if t.2 = a1 then (if t.1.toList = [] then impl_CodeOf.l0 k a0 a1 ((j + 1 : Nat) : Int) else some (j : Int)) else impl_CodeOf.l0 k a0 a1 ((j + 1 : Nat) : Int)) else impl_CodeOf.l0 k a0 a1 ((j + 1 : Nat) : Int)) (fun k => ?_) (Ev.bind (op_ev (by omega)) ?_)
    · simp only [impl_CodeOf.l0]
      rw [if_pos (by omega), w, mod256 (by omega)]
    · by_cases e1 : (nm j).toList = a0.toList
      · by_cases e2 : md j = a1
        · by_cases e : a0.toList = []
          · have hc : codeFrom a0 a1 (d + 1) j = codeFrom a0 a1 d (j + 1) := by
              simp only [codeFrom]
              rw [if_neg (by simp [e])]
            simp only [hc, e1, e2, e, if_true]
            exact ih
          · have hc : codeFrom a0 a1 (d + 1) j = (j : Int) := by
              simp only [codeFrom]
              rw [if_pos ⟨e1, e2, e⟩]
            simp only [hc, e1, e2, e, if_true, if_false]
            exact Ev.now _
        · have hc : codeFrom a0 a1 (d + 1) j = codeFrom a0 a1 d (j + 1) := by
            simp only [codeFrom]
            rw [if_neg (by simp [e2])]
          simp only [hc, e1, e2, if_true, if_false]
          exact ih
      · have hc : codeFrom a0 a1 (d + 1) j = codeFrom a0 a1 d (j + 1) := by
          simp only [codeFrom]
          rw [if_neg (by simp [e1])]
        simp only [hc, e1, if_false]
        exact ih
theorem impl_codeOf (a0 : ByteArray) (a1 : Int) : Ev (fun k => impl_CodeOf.f k a0 a1) (codeFrom a0 a1 256 0) := impl_code a0 a1 256 0 rfl
end Go.Proofs.YtfbhgmpgkhmikaaDoor.MKO
