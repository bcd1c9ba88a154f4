/-
The laws' helpers over numbers of sixteen bits: equal lists are told equal, marks are held.
-/
import Derived.Test.YtfahgmdnmceleaaDoorMDx7
import Derived.Test.YtfahgmdnmceleaaDoorMDx8
import Derived.Test.YtfahgmdnmceleaaDoorMDx9
import Derived.Test.YtfahgmdnmceleaaDoorBit
import Derived.Test.YtfahgmdnmceleaaDoorLst
set_option linter.unusedSimpArgs false
set_option linter.unusedVariables false
namespace Go.Proofs.YtfahgmdnmceleaaDoor.MDH
open Go.RowKit Go.Proofs.YtfahgmdnmceleaaDoor.MD Go.Proofs.YtfahgmdnmceleaaDoorW.PrintWords Go.Proofs.YtfahgmdnmceleaaDoorW.PrintLast Go.Proofs.YtfahgmdnmceleaaDoor.Bit Go.Proofs.YtfahgmdnmceleaaDoor.Lst

theorem eqUint16S_ev (l : List Int) (hl : l.length < 9223372036854775807) : Ev (fun k => laws_eqUint16S.f k l l) true := by
  have h := ev_for (r := true) l.length (fun k i => laws_eqUint16S.l0 k l l i)
    (fun k => by
      simp only [laws_eqUint16S.l0]
      rw [if_neg (by omega)])
    (fun i hi k => by
      simp only [laws_eqUint16S.l0, if_true]
      rw [if_pos (by omega), if_pos (by omega), if_pos (by omega), w1 (by omega)])
  refine Ev.congr (fun k => ?_) h
  unfold laws_eqUint16S.f
  rw [if_pos rfl]
  rfl
def markU16 (a : Nat) (j : Nat) : Int := IntKind.u16.wrap ((a + j : Nat) : Int)
theorem markUint16S_ev (l : List Int) (a : Nat) (hl : l.length ≤ 1000000000000000) (ha : a ≤ 1000000000000000) : Ev (fun k => laws_markUint16S.f k l a) (((a + l.length : Nat) : Int), (List.range l.length).map (markU16 a)) := by
  have h := ev_for (r := (((a + l.length : Nat) : Int), (List.range l.length).map (markU16 a))) l.length (fun k i => laws_markUint16S.l0 k (run (markU16 a) l i) ((a + i : Nat) : Int) i)
    (fun k => by
      simp only [laws_markUint16S.l0]
      rw [run_full, if_neg (by simp)])
    (fun i hi k => by
      have hlen := run_length (markU16 a) l (show i ≤ l.length by omega)
      simp only [laws_markUint16S.l0, Int.toNat_natCast]
      rw [if_pos (by omega), if_pos (by omega), show IntKind.u16.wrap (((a + i : Nat) : Int)) = markU16 a i from rfl, run_set _ _ hi, w1 (i := i) (by omega)]
      congr 1
      unfold wrap64
      omega)
  rw [run_zero] at h
  exact h
theorem heldUint16S_ev (n a : Nat) (hl : n ≤ 1000000000000000) (ha : a ≤ 1000000000000000) : Ev (fun k => laws_heldUint16S.f k ((List.range n).map (markU16 a)) a) ((a + n : Nat) : Int) := by
  have h := ev_for (r := ((a + n : Nat) : Int)) n (fun k i => laws_heldUint16S.l0 k ((List.range n).map (markU16 a)) ((a + i : Nat) : Int) i)
    (fun k => by
      simp only [laws_heldUint16S.l0]
      rw [if_neg (by simp)])
    (fun i hi k => by
      simp only [laws_heldUint16S.l0]
      have hrd : rd ((List.range n).map (markU16 a)) i = IntKind.u16.wrap ((a + i : Nat) : Int) := by
        unfold rd
        rw [Int.toNat_natCast]
        simp [List.getD_eq_getElem?_getD, hi, markU16]
      rw [if_pos (by simp; omega), if_pos (by omega), hrd, if_pos rfl, w1 (by omega), w1 (by omega)]
      rfl)
  exact h
end Go.Proofs.YtfahgmdnmceleaaDoor.MDH
