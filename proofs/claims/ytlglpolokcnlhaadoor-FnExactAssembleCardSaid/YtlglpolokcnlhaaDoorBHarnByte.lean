/-
The laws' helpers over bytes: equal lists are told equal, marks are held.
-/
import Derived.Test.YtlglpolokcnlhaaDoorMBx1
import Derived.Test.YtlglpolokcnlhaaDoorBit
import Derived.Test.YtlglpolokcnlhaaDoorLst
set_option linter.unusedSimpArgs false
set_option linter.unusedVariables false
namespace Go.Proofs.YtlglpolokcnlhaaDoor.MBH
open Go.RowKit Go.Proofs.YtlglpolokcnlhaaDoor.MB Go.Proofs.YtlglpolokcnlhaaDoorW.PrintWords Go.Proofs.YtlglpolokcnlhaaDoorW.PrintLast Go.Proofs.YtlglpolokcnlhaaDoor.Bit Go.Proofs.YtlglpolokcnlhaaDoor.Lst

theorem eqByteS_ev (l : List Int) (hl : l.length < 9223372036854775807) : Ev (fun k => laws_eqByteS.f k l l) true := by
  have h := ev_for (r := true) l.length (fun k i => laws_eqByteS.l0 k l l i)
    (fun k => by
      simp only [laws_eqByteS.l0]
      rw [if_neg (by omega)])
    (fun i hi k => by
      simp only [laws_eqByteS.l0, if_true]
      rw [if_pos (by omega), if_pos (by omega), if_pos (by omega), w1 (by omega)])
  refine Ev.congr (fun k => ?_) h
  unfold laws_eqByteS.f
  rw [if_pos rfl]
  rfl
def markByte (a : Nat) (j : Nat) : Int := ((a + j : Nat) : Int) % 256
theorem markByteS_ev (l : List Int) (a : Nat) (hl : l.length ≤ 1000000000000000) (ha : a ≤ 1000000000000000) : Ev (fun k => laws_markByteS.f k l a) (((a + l.length : Nat) : Int), (List.range l.length).map (markByte a)) := by
  have h := ev_for (r := (((a + l.length : Nat) : Int), (List.range l.length).map (markByte a))) l.length (fun k i => laws_markByteS.l0 k (run (markByte a) l i) ((a + i : Nat) : Int) i)
    (fun k => by
      simp only [laws_markByteS.l0]
      rw [run_full, if_neg (by simp)])
    (fun i hi k => by
      have hlen := run_length (markByte a) l (show i ≤ l.length by omega)
      simp only [laws_markByteS.l0, Int.toNat_natCast]
      rw [if_pos (by omega), if_pos (by omega), show (((a + i : Nat) : Int)) % 256 = markByte a i from rfl, run_set _ _ hi, w1 (i := i) (by omega)]
      congr 1
      unfold wrap64
      omega)
  rw [run_zero] at h
  exact h
theorem heldByteS_ev (n a : Nat) (hl : n ≤ 1000000000000000) (ha : a ≤ 1000000000000000) : Ev (fun k => laws_heldByteS.f k ((List.range n).map (markByte a)) a) ((a + n : Nat) : Int) := by
  have h := ev_for (r := ((a + n : Nat) : Int)) n (fun k i => laws_heldByteS.l0 k ((List.range n).map (markByte a)) ((a + i : Nat) : Int) i)
    (fun k => by
      simp only [laws_heldByteS.l0]
      rw [if_neg (by simp)])
    (fun i hi k => by
      simp only [laws_heldByteS.l0]
      have hrd : rd ((List.range n).map (markByte a)) i = ((a + i : Nat) : Int) % 256 := by
        unfold rd
        rw [Int.toNat_natCast]
        simp [List.getD_eq_getElem?_getD, hi, markByte]
      rw [if_pos (by simp; omega), if_pos (by omega), hrd, if_pos rfl, w1 (by omega), w1 (by omega)]
      rfl)
  exact h
end Go.Proofs.YtlglpolokcnlhaaDoor.MBH
