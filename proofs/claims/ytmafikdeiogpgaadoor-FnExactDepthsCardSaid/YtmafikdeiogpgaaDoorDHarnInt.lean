/-
The laws' helpers over whole numbers: equal lists are told equal, marks are held.
-/
import Derived.Test.YtmafikdeiogpgaaDoorMDx7
import Derived.Test.YtmafikdeiogpgaaDoorMDx8
import Derived.Test.YtmafikdeiogpgaaDoorBit
import Derived.Test.YtmafikdeiogpgaaDoorLst
set_option linter.unusedSimpArgs false
set_option linter.unusedVariables false
namespace Go.Proofs.YtmafikdeiogpgaaDoor.MDH
open Go.RowKit Go.Proofs.YtmafikdeiogpgaaDoor.MD Go.Proofs.YtmafikdeiogpgaaDoorW.PrintWords Go.Proofs.YtmafikdeiogpgaaDoorW.PrintLast Go.Proofs.YtmafikdeiogpgaaDoor.Bit Go.Proofs.YtmafikdeiogpgaaDoor.Lst

theorem eqIntS_ev (l : List Int) (hl : l.length < 9223372036854775807) : Ev (fun k => laws_eqIntS.f k l l) true := by
  have h := ev_for (r := true) l.length (fun k i => laws_eqIntS.l0 k l l i)
    (fun k => by
      simp only [laws_eqIntS.l0]
      rw [if_neg (by omega)])
    (fun i hi k => by
      simp only [laws_eqIntS.l0, if_true]
      rw [if_pos (by omega), if_pos (by omega), if_pos (by omega), w1 (by omega)])
  refine Ev.congr (fun k => ?_) h
  unfold laws_eqIntS.f
  rw [if_pos rfl]
  rfl
def markInt (a : Nat) (j : Nat) : Int := ((a + j : Nat) : Int)
theorem markIntS_ev (l : List Int) (a : Nat) (hl : l.length ≤ 1000000000000000) (ha : a ≤ 1000000000000000) : Ev (fun k => laws_markIntS.f k l a) (((a + l.length : Nat) : Int), (List.range l.length).map (markInt a)) := by
  have h := ev_for (r := (((a + l.length : Nat) : Int), (List.range l.length).map (markInt a))) l.length (fun k i => laws_markIntS.l0 k (run (markInt a) l i) ((a + i : Nat) : Int) i)
    (fun k => by
      simp only [laws_markIntS.l0]
      rw [run_full, if_neg (by simp)])
    (fun i hi k => by
      have hlen := run_length (markInt a) l (show i ≤ l.length by omega)
      simp only [laws_markIntS.l0, Int.toNat_natCast]
      rw [if_pos (by omega), if_pos (by omega), show (((a + i : Nat) : Int)) = markInt a i from rfl, run_set _ _ hi, w1 (i := i) (by omega)]
      congr 1
      unfold markInt wrap64
      omega)
  rw [run_zero] at h
  exact h
theorem heldIntS_ev (n a : Nat) (hl : n ≤ 1000000000000000) (ha : a ≤ 1000000000000000) : Ev (fun k => laws_heldIntS.f k ((List.range n).map (markInt a)) a) ((a + n : Nat) : Int) := by
  have h := ev_for (r := ((a + n : Nat) : Int)) n (fun k i => laws_heldIntS.l0 k ((List.range n).map (markInt a)) ((a + i : Nat) : Int) i)
    (fun k => by
      simp only [laws_heldIntS.l0]
      rw [if_neg (by simp)])
    (fun i hi k => by
      simp only [laws_heldIntS.l0]
      have hrd : rd ((List.range n).map (markInt a)) i = ((a + i : Nat) : Int) := by
        unfold rd
        rw [Int.toNat_natCast]
        simp [List.getD_eq_getElem?_getD, hi, markInt]
      rw [if_pos (by simp; omega), if_pos (by omega), hrd, if_pos rfl, w1 (by omega), w1 (by omega)]
      rfl)
  exact h
end Go.Proofs.YtmafikdeiogpgaaDoor.MDH
