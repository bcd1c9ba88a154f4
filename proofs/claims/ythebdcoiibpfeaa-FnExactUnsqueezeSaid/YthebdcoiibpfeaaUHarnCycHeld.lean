/-
The laws' helpers over cycles: marks are held.
-/
import Derived.Test.YthebdcoiibpfeaaMUx0
import Derived.Test.YthebdcoiibpfeaaMUx7
import Derived.Test.YthebdcoiibpfeaaUHarnCycMark
set_option linter.unusedSimpArgs false
set_option linter.unusedVariables false
namespace Go.Proofs.Ythebdcoiibpfeaa.MUH
open Go.RowKit Go.Proofs.Ythebdcoiibpfeaa.MU Go.Proofs.YthebdcoiibpfeaaW.PrintWords Go.Proofs.YthebdcoiibpfeaaW.PrintLast Go.Proofs.Ythebdcoiibpfeaa.Bit Go.Proofs.Ythebdcoiibpfeaa.Lst

theorem rd_markCyc (n a i : Nat) (h : i < n) : rd_T57 ((List.range n).map (markCyc a)) i = markCyc a i := by
  unfold rd_T57
  rw [Int.toNat_natCast]
  simp [List.getD_eq_getElem?_getD, h]
theorem wrap3 (a i : Nat) (ha : a ≤ 1000000000000000) (hi : i ≤ 1000000000000000) : wrap64 (wrap64 (wrap64 (((a + 3 * i : Nat) : Int) + 1) + 1) + 1) = ((a + 3 * (i + 1) : Nat) : Int) := by
  rw [w1 (i := a + 3 * i) (by omega), w1 (i := a + 3 * i + 1) (by omega), w1 (i := a + 3 * i + 1 + 1) (by omega)]
  rfl
theorem heldCycS_ev (n a : Nat) (hl : n ≤ 1000000000000) (ha : a ≤ 1000000000000000) : Ev (fun k => laws_heldCycS.f k ((List.range n).map (markCyc a)) a) ((a + 3 * n : Nat) : Int) := by
  have h := ev_for (r := ((a + 3 * n : Nat) : Int)) n (fun k i => laws_heldCycS.l0 k ((List.range n).map (markCyc a)) ((a + 3 * i : Nat) : Int) i)
    (fun k => by
      simp only [laws_heldCycS.l0]
      rw [if_neg (by simp)])
    (fun i hi k => by
      simp only [laws_heldCycS.l0]
      rw [if_pos (by simp; omega), if_pos (by omega), rd_markCyc n a i hi, wrap3 a i ha (by omega), w1 (i := i) (by omega)]
      simp only [markCyc, if_true, bne_self_eq_false, Bool.false_eq_true, if_false])
  exact h
end Go.Proofs.Ythebdcoiibpfeaa.MUH
