/-
The laws' copying of whole numbers.
-/
import Derived.Test.YtfahgmdnmceleaaDoorMDx4
import Derived.Test.YtfahgmdnmceleaaDoorBit
import Derived.Test.YtfahgmdnmceleaaDoorLst
set_option linter.unusedSimpArgs false
set_option linter.unusedVariables false
namespace Go.Proofs.YtfahgmdnmceleaaDoor.MDH
open Go.RowKit Go.Proofs.YtfahgmdnmceleaaDoor.MD Go.Proofs.YtfahgmdnmceleaaDoorW.PrintWords Go.Proofs.YtfahgmdnmceleaaDoorW.PrintLast Go.Proofs.YtfahgmdnmceleaaDoor.Bit Go.Proofs.YtfahgmdnmceleaaDoor.Lst

theorem toIntS_ev (l : List Int) (hl : l.length * 8 ≤ 140737488351232) : Ev (fun k => laws_toIntS.f k l) l := by
  have hb : (List.replicate l.length (0 : Int)).length = l.length := by simp
  have h := ev_for (r := l) l.length (fun k i => laws_toIntS.l0 k l (run (fun j => rd l j) (List.replicate l.length 0) i) i)
    (fun k => by
      simp only [laws_toIntS.l0]
      rw [if_neg (by omega)]
      congr 1
      have hr := run_full (fun j => rd l ((j : Nat) : Int)) (List.replicate l.length 0)
      rw [hb] at hr
      rw [hr]
      have := map_range_self l 0
      unfold rd
      simp only [Int.toNat_natCast]
      exact this)
    (fun i hi k => by
      simp only [laws_toIntS.l0]
      rw [if_pos (by omega), if_pos (by omega), run_length _ _ (by omega), hb, if_pos (by omega), w1 (by omega), Int.toNat_natCast]
      rw [run_set (fun j => rd l ((j : Nat) : Int)) _ (by omega)])
  rw [run_zero] at h
  refine Ev.congr (fun k => ?_) h
  unfold laws_toIntS.f
  rw [if_pos (by omega), Int.toNat_natCast, if_pos (by omega)]
  rfl
end Go.Proofs.YtfahgmdnmceleaaDoor.MDH
