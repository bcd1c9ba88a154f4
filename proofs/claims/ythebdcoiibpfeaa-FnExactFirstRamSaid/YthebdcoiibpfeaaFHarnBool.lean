/-
The laws' helpers over truth values: equal lists are told equal, marks are held.
-/
import Derived.Test.YthebdcoiibpfeaaMFx2
import Derived.Test.YthebdcoiibpfeaaBit
import Derived.Test.YthebdcoiibpfeaaLst
set_option linter.unusedSimpArgs false
set_option linter.unusedVariables false
namespace Go.Proofs.Ythebdcoiibpfeaa.MFH
open Go.RowKit Go.Proofs.Ythebdcoiibpfeaa.MF Go.Proofs.YthebdcoiibpfeaaW.PrintWords Go.Proofs.YthebdcoiibpfeaaW.PrintLast Go.Proofs.Ythebdcoiibpfeaa.Bit Go.Proofs.Ythebdcoiibpfeaa.Lst

theorem eqBoolS_ev (l : List Bool) (hl : l.length < 9223372036854775807) : Ev (fun k => laws_eqBoolS.f k l l) true := by
  have h := ev_for (r := true) l.length (fun k i => laws_eqBoolS.l0 k l l i)
    (fun k => by
      simp only [laws_eqBoolS.l0]
      rw [if_neg (by omega)])
    (fun i hi k => by
      simp only [laws_eqBoolS.l0, bne_self_eq_false, Bool.false_eq_true, if_false]
      rw [if_pos (by omega), if_pos (by omega), if_pos (by omega), w1 (by omega)])
  refine Ev.congr (fun k => ?_) h
  unfold laws_eqBoolS.f
  rw [if_pos rfl]
  rfl
def markBool (a : Nat) (j : Nat) : Bool := Int.tmod ((a + j : Nat) : Int) 3 == 0
theorem markBoolS_ev (l : List Bool) (a : Nat) (hl : l.length ≤ 1000000000000000) (ha : a ≤ 1000000000000000) : Ev (fun k => laws_markBoolS.f k l a) (((a + l.length : Nat) : Int), (List.range l.length).map (markBool a)) := by
  have h := ev_for (r := (((a + l.length : Nat) : Int), (List.range l.length).map (markBool a))) l.length (fun k i => laws_markBoolS.l0 k (run (markBool a) l i) ((a + i : Nat) : Int) i)
    (fun k => by
      simp only [laws_markBoolS.l0]
      rw [run_full, if_neg (by simp)])
    (fun i hi k => by
      have hlen := run_length (markBool a) l (show i ≤ l.length by omega)
      simp only [laws_markBoolS.l0, Int.toNat_natCast]
      rw [if_pos (by omega), if_pos (by omega), show (Int.tmod ((a + i : Nat) : Int) 3 == 0) = markBool a i from rfl, run_set _ _ hi, w1 (i := i) (by omega), w1 (i := a + i) (by omega)]
      rfl)
  rw [run_zero] at h
  exact h
theorem heldBoolS_ev (n a : Nat) (hl : n ≤ 1000000000000000) (ha : a ≤ 1000000000000000) : Ev (fun k => laws_heldBoolS.f k ((List.range n).map (markBool a)) a) ((a + n : Nat) : Int) := by
  have h := ev_for (r := ((a + n : Nat) : Int)) n (fun k i => laws_heldBoolS.l0 k ((List.range n).map (markBool a)) ((a + i : Nat) : Int) i)
    (fun k => by
      simp only [laws_heldBoolS.l0]
      rw [if_neg (by simp)])
    (fun i hi k => by
      simp only [laws_heldBoolS.l0]
      have hrd : rdOf false ((List.range n).map (markBool a)) i = (Int.tmod ((a + i : Nat) : Int) 3 == 0) := by
        unfold rdOf
        rw [Int.toNat_natCast]
        simp [List.getD_eq_getElem?_getD, hi, markBool]
      rw [if_pos (by simp; omega), if_pos (by omega), hrd, bne_self_eq_false, if_neg (by simp), w1 (by omega), w1 (by omega)]
      rfl)
  exact h
end Go.Proofs.Ythebdcoiibpfeaa.MFH
