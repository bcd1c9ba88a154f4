/-
The laws' helpers over cycles: what they answer, for every list.
-/
import Derived.Test.YtfahgmdnmceleaaDoorMDx0
import Derived.Test.YtfahgmdnmceleaaDoorMDx1
import Derived.Test.YtfahgmdnmceleaaDoorMDx4
import Derived.Test.YtfahgmdnmceleaaDoorMDx7
import Derived.Test.YtfahgmdnmceleaaDoorMDx8
import Derived.Test.YtfahgmdnmceleaaDoorBit
import Derived.Test.YtfahgmdnmceleaaDoorLst
set_option linter.unusedSimpArgs false
set_option linter.unusedVariables false
namespace Go.Proofs.YtfahgmdnmceleaaDoor.MDH
open Go.RowKit Go.Proofs.YtfahgmdnmceleaaDoor.MD Go.Proofs.YtfahgmdnmceleaaDoorW.PrintWords Go.Proofs.YtfahgmdnmceleaaDoorW.PrintLast Go.Proofs.YtfahgmdnmceleaaDoor.Bit Go.Proofs.YtfahgmdnmceleaaDoor.Lst

def cycOf (x : S47) : S44 := ⟨x.f0, x.f1, x.f2⟩
theorem cycOf_f0 (x : S47) : (cycOf x).f0 = x.f0 := rfl
theorem cycOf_f1 (x : S47) : (cycOf x).f1 = x.f1 := rfl
theorem cycOf_f2 (x : S47) : (cycOf x).f2 = x.f2 := rfl
theorem rd_cyc_of (l : List S47) (i : Nat) (h : i < l.length) : rd_T44 (l.map cycOf) i = cycOf (rd_T47 l i) := by
  unfold rd_T44 rd_T47
  rw [Int.toNat_natCast]
  simp [List.getD_eq_getElem?_getD, h]

theorem szCycS_yes (l : List S47) (left : Nat) (h : l.length ≤ left) (hb : left ≤ 1048576) : laws_szCycS.f l left = some ((left - l.length : Nat) : Int) := by
  unfold laws_szCycS.f
  have e : wrap64 ((left : Int) - l.length) = ((left - l.length : Nat) : Int) := by unfold wrap64; omega
  rw [e, if_neg (by omega)]
theorem szCycS_no (l : List S47) (left : Nat) (h : left < l.length) (hb : left ≤ 1048576) (hl : l.length * 4 ≤ 140737488351232) : laws_szCycS.f l left = some (-1) := by
  unfold laws_szCycS.f
  rw [if_pos (by unfold wrap64; omega)]

theorem toCycS_ev (l : List S47) (hl : l.length * 4 ≤ 140737488351232) : Ev (fun k => laws_toCycS.f k l) (l.map cycOf) := by
  have hb : (List.replicate l.length z44).length = l.length := by simp
  have h := ev_for (r := l.map cycOf) l.length (fun k i => laws_toCycS.l0 k l (run (fun j => cycOf (rd_T47 l j)) (List.replicate l.length z44) i) i)
    (fun k => by
      simp only [laws_toCycS.l0]
      rw [if_neg (by omega)]
      congr 1
      have hr := run_full (fun j => cycOf (rd_T47 l j)) (List.replicate l.length z44)
      rw [hb] at hr
      rw [hr]
      have := map_range_getD l z47 cycOf
      unfold rd_T47
      simp only [Int.toNat_natCast]
      exact this)
    (fun i hi k => by
      simp only [laws_toCycS.l0, laws_toCyc.f, Option.bind_some]
      rw [if_pos (by omega), if_pos (by omega), run_length _ _ (by omega), hb, if_pos (by omega), w1 (by omega), Int.toNat_natCast]
      rw [show (⟨(rd_T47 l i).f0, (rd_T47 l i).f1, (rd_T47 l i).f2⟩ : S44) = cycOf (rd_T47 l i) from rfl]
      rw [run_set (fun j => cycOf (rd_T47 l j)) _ (by omega)])
  rw [run_zero] at h
  refine Ev.congr (fun k => ?_) h
  unfold laws_toCycS.f
  rw [if_pos (by omega), Int.toNat_natCast, if_pos (by omega)]
  rfl

theorem eqCyc_self (x : S44) : laws_eqCyc.f x.f0 x.f1 x.f2 x.f0 x.f1 x.f2 = some true := by
  unfold laws_eqCyc.f
  simp
theorem eqCycS_ev (l : List S44) (hl : l.length < 9223372036854775807) : Ev (fun k => laws_eqCycS.f k l l) true := by
  have h := ev_for (r := true) l.length (fun k i => laws_eqCycS.l0 k l l i)
    (fun k => by
      simp only [laws_eqCycS.l0]
      rw [if_neg (by omega)])
    (fun i hi k => by
      simp only [laws_eqCycS.l0, eqCyc_self, Option.bind_some, if_true]
      rw [if_pos (by omega), if_pos (by omega), if_pos (by omega), w1 (by omega)])
  refine Ev.congr (fun k => ?_) h
  unfold laws_eqCycS.f
  rw [if_pos rfl]
  rfl
end Go.Proofs.YtfahgmdnmceleaaDoor.MDH
