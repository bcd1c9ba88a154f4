/-
The laws' helpers over whole numbers: equal lists are told equal, marks are held.
-/
import Derived.Test.YtfahgmdnmceleaaDoorMDx8
import Derived.Test.YtfahgmdnmceleaaDoorBit
import Derived.Test.YtfahgmdnmceleaaDoorLst
set_option linter.unusedSimpArgs false
set_option linter.unusedVariables false
namespace Go.Proofs.YtfahgmdnmceleaaDoor.MDH
open Go.RowKit Go.Proofs.YtfahgmdnmceleaaDoor.MD Go.Proofs.YtfahgmdnmceleaaDoorW.PrintWords Go.Proofs.YtfahgmdnmceleaaDoorW.PrintLast Go.Proofs.YtfahgmdnmceleaaDoor.Bit Go.Proofs.YtfahgmdnmceleaaDoor.Lst

theorem eqIntS_ev (l : List Int) (hl : l.length < 9223372036854775807) : Ev (fun k => laws_eqIntS.f k l l) true := by
  have h := ev_for (r := true) l.length (fun k i => laws_eqIntS.l0 k l l i)
    (fun k => by
      simp only [laws_eqIntS.l0]
      rw [if_neg (by omega)])
    (fun i hi k => by
      simp only [laws_eqIntS.l0, if_true]
      rw [if_pos (by omega), if_pos (by omega), if_pos (by omega), w1 (by omega)])
  refine Ev.congr (fun k => ?_) h
  unfold laws_eqIntS.f
  rw [if_pos rfl]
  rfl
def markInt (a : Nat) (j : Nat) : Int := ((a + j : Nat) : Int)
theorem markIntS_ev (l : List Int) (a : Nat) (hl : l.length ≤ 1000000000000000) (ha : a ≤ 1000000000000000) : Ev (fun k => laws_markIntS.f k l a) (((a + l.length : Nat) : Int), (List.range l.length).map (markInt a)) := by
  have h := ev_for (r := (((a + l.length : Nat) : Int), (List.range l.length).map (markInt a))) l.length (fun k i => laws_markIntS.l0 k (run (markInt a) l i) ((a + i : Nat) : Int) i)
    (fun k => by
      simp only [laws_markIntS.l0]
      rw [run_full, if_neg (by simp)])
    (fun i hi k => by
      have hlen := run_length (markInt a) l (show i ≤ l.length by omega)
      simp only [laws_markIntS.l0, Int.toNat_natCast]
      rw [if_pos (by omega), if_pos (by omega), show (((a + i : Nat) : Int)) = markInt a i from rfl, run_set _ _ hi, w1 (i := i) (by omega)]
      congr 1
      unfold markInt wrap64
      omega)
  rw [run_zero] at h
  exact h
end Go.Proofs.YtfahgmdnmceleaaDoor.MDH
