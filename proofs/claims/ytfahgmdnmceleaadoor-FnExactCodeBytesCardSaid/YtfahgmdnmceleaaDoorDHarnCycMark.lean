/-
The laws' marking of cycles: it ends, with a number that is not below nought.
-/
import Derived.Test.YtfahgmdnmceleaaDoorMDx0
import Derived.Test.YtfahgmdnmceleaaDoorMDx8
import Derived.Test.YtfahgmdnmceleaaDoorBit
import Derived.Test.YtfahgmdnmceleaaDoorLst
set_option linter.unusedSimpArgs false
set_option linter.unusedVariables false
namespace Go.Proofs.YtfahgmdnmceleaaDoor.MDH
open Go.RowKit Go.Proofs.YtfahgmdnmceleaaDoor.MD Go.Proofs.YtfahgmdnmceleaaDoorW.PrintWords Go.Proofs.YtfahgmdnmceleaaDoorW.PrintLast Go.Proofs.YtfahgmdnmceleaaDoor.Bit Go.Proofs.YtfahgmdnmceleaaDoor.Lst

theorem set_rd_cyc (l : List S44) (v : S44) (i : Nat) (h : i < l.length) : rd_T44 (l.set i v) i = v := by
  unfold rd_T44
  rw [Int.toNat_natCast]
  exact getD_set_self l _ v h
def markCyc (a : Nat) (j : Nat) : S44 := ⟨IntKind.u16.wrap ((a + 3 * j : Nat) : Int), wrap64 (((a + 3 * j : Nat) : Int) + 1) % 256, (Int.tmod (wrap64 (wrap64 (((a + 3 * j : Nat) : Int) + 1) + 1)) 3) == 0⟩
theorem markCycS_ev (l : List S44) (a : Nat) (hl : l.length * 4 ≤ 140737488351232) (ha : a ≤ 1000000000000000) : Ev (fun k => laws_markCycS.f k l a) (((a + 3 * l.length : Nat) : Int), (List.range l.length).map (markCyc a)) := by
  have h := ev_for (r := (((a + 3 * l.length : Nat) : Int), (List.range l.length).map (markCyc a))) l.length (fun k i => laws_markCycS.l0 k (run (markCyc a) l i) ((a + 3 * i : Nat) : Int) i)
    (fun k => by
      simp only [laws_markCycS.l0]
      rw [run_full, if_neg (by simp)])
    (fun i hi k => by
      have hlen := run_length (markCyc a) l (show i ≤ l.length by omega)
      simp only [laws_markCycS.l0, Option.bind_some, Int.toNat_natCast]
      rw [if_pos (by omega), if_pos (by omega), set_rd_cyc _ _ _ (by rw [hlen]; exact hi)]
      simp only [List.set_set]
      rw [set_rd_cyc _ _ _ (by rw [hlen]; exact hi)]
      simp only []
      rw [show (⟨IntKind.u16.wrap ((a + 3 * i : Nat) : Int), wrap64 (((a + 3 * i : Nat) : Int) + 1) % 256, (Int.tmod (wrap64 (wrap64 (((a + 3 * i : Nat) : Int) + 1) + 1)) 3) == 0⟩ : S44) = markCyc a i from rfl, run_set _ _ hi, w1 (i := i) (by omega)]
      congr 1
      unfold wrap64
      omega)
  rw [run_zero] at h
  exact h
end Go.Proofs.YtfahgmdnmceleaaDoor.MDH
