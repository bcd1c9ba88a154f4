/-
The laws' marking of rules: it ends, with a number that is not below nought.
-/
import Derived.Test.YtgmpjkbddhfpcaaMEx0
import Derived.Test.YtgmpjkbddhfpcaaMEx6
import Derived.Test.YtgmpjkbddhfpcaaBit
import Derived.Test.YtgmpjkbddhfpcaaLst
set_option linter.unusedSimpArgs false
set_option linter.unusedVariables false
namespace Go.Proofs.Ytgmpjkbddhfpcaa.MEH
open Go.RowKit Go.Proofs.Ytgmpjkbddhfpcaa.ME Go.Proofs.YtgmpjkbddhfpcaaW.PrintWords Go.Proofs.YtgmpjkbddhfpcaaW.PrintLast Go.Proofs.Ytgmpjkbddhfpcaa.Bit Go.Proofs.Ytgmpjkbddhfpcaa.Lst

theorem set_rd_rule (l : List S24) (v : S24) (i : Nat) (h : i < l.length) : rd_T24 (l.set i v) i = v := by
  unfold rd_T24
  rw [Int.toNat_natCast]
  exact getD_set_self l _ v h
def markRule (a : Nat) (j : Nat) : S24 := ⟨IntKind.u16.wrap ((a + 5 * j : Nat) : Int), IntKind.u16.wrap ((a + 5 * j + 1 : Nat) : Int), ((a + 5 * j + 2 : Nat) : Int) % 256, ((a + 5 * j + 3 : Nat) : Int) % 256, ((a + 5 * j + 4 : Nat) : Int)⟩
theorem markRuleS_ev (l : List S24) (a : Nat) (hl : l.length * 16 ≤ 140737488351232) (ha : a ≤ 1000000000000000) : Ev (fun k => laws_markRuleS.f k l a) (((a + 5 * l.length : Nat) : Int), (List.range l.length).map (markRule a)) := by
  have h := ev_for (r := (((a + 5 * l.length : Nat) : Int), (List.range l.length).map (markRule a))) l.length (fun k i => laws_markRuleS.l0 k (run (markRule a) l i) ((a + 5 * i : Nat) : Int) i)
    (fun k => by
      simp only [laws_markRuleS.l0]
      rw [run_full, if_neg (by simp)])
    (fun i hi k => by
      have hlen := run_length (markRule a) l (show i ≤ l.length by omega)
      simp only [laws_markRuleS.l0, Option.bind_some, Int.toNat_natCast]
      rw [if_pos (by omega), if_pos (by omega)]
      simp only [set_rd_rule _ _ _ (show i < (run (markRule a) l i).length by rw [hlen]; exact hi), List.set_set]
      rw [w1 (i := a + 5 * i) (by omega), w1 (i := a + 5 * i + 1) (by omega), w1 (i := a + 5 * i + 2) (by omega), w1 (i := a + 5 * i + 3) (by omega), w1 (i := a + 5 * i + 4) (by omega), w1 (i := i) (by omega)]
      rw [show (⟨IntKind.u16.wrap ((a + 5 * i : Nat) : Int), IntKind.u16.wrap ((a + 5 * i + 1 : Nat) : Int), ((a + 5 * i + 2 : Nat) : Int) % 256, ((a + 5 * i + 3 : Nat) : Int) % 256, ((a + 5 * i + 4 : Nat) : Int)⟩ : S24) = markRule a i from rfl, run_set _ _ hi]
      rfl)
  rw [run_zero] at h
  exact h
end Go.Proofs.Ytgmpjkbddhfpcaa.MEH
