/-
A draw: its cursor is laid over the bytes that came in, and a byte is drawn of it.
-/
import Derived.Test.YtfbhgmpgkhmikaaDoorMKx4
import Derived.Test.YtfbhgmpgkhmikaaDoorMKx5
import Derived.Test.YtfbhgmpgkhmikaaDoorLst
set_option linter.unusedSimpArgs false
set_option linter.unusedVariables false
namespace Go.Proofs.YtfbhgmpgkhmikaaDoor.MKD
open Go.RowKit Go.Proofs.YtfbhgmpgkhmikaaDoor.MK Go.Proofs.YtfbhgmpgkhmikaaDoorW.PrintWords Go.Proofs.YtfbhgmpgkhmikaaDoorW.PrintLast Go.Proofs.YtfbhgmpgkhmikaaDoor.Lst

theorem new_from (l0 : List Int) (hl : l0.length < 4611686018427387904) : ∀ (d j : Nat) (h : Int), j + d = min l0.length 4000 → ∃ h', Ev (fun k => spec_l01New.l0 k l0 h (j : Int)) (l0, 0, h')
  | 0, j, h, hj => by
    refine ⟨h, Ev.step (f := fun _ => some (l0, 0, h)) (fun k => ?_) (Ev.now _)⟩
    simp only [spec_l01New.l0]
    by_cases c : (j : Int) < (l0.length : Int)
    · rw [if_pos c, if_neg (by omega)]
    · rw [if_neg c]
  | d + 1, j, h, hj => by
    have w := w1 (i := j) (by omega)
    obtain ⟨h', ih⟩ := new_from l0 hl d (j + 1) (Go.bits .and .i64 (wrap64 ((wrap64 ((wrap64 (h * 131)) + (wrap64 (rd l0 (j : Int))))) + 7)) 1073741823) (by omega)
    refine ⟨h', Ev.step (fun k => ?_) ih⟩
    simp only [spec_l01New.l0]
    rw [if_pos (by omega), if_pos (by omega), if_pos (by omega), w]
theorem new_ev (l0 : List Int) (hl : l0.length < 4611686018427387904) : ∃ h, Ev (fun k => spec_l01New.f k l0) (l0, 0, h) := new_from l0 hl _ 0 _ (Nat.zero_add _)
theorem byte_some (l0 : List Int) (i h : Int) (hi : 0 ≤ i) (hl : i < 4611686018427387904) : ∃ x i' h', spec_l01Byte.f l0 i h = some (x, i', h') ∧ 0 ≤ i' ∧ i' ≤ i + 1 := by
  unfold spec_l01Byte.f
  by_cases c : i < (l0.length : Int)
  · rw [if_pos c, if_pos hi]
    refine ⟨_, _, _, rfl, ?_, ?_⟩
    · rw [wrap_in (by omega) (by omega)]
      omega
    · rw [wrap_in (by omega) (by omega)]
      omega
  · rw [if_neg c]
    exact ⟨_, _, _, rfl, hi, by omega⟩
end Go.Proofs.YtfbhgmpgkhmikaaDoor.MKD
