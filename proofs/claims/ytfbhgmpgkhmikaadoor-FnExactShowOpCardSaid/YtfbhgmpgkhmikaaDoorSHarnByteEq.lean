/-
The laws' helpers over bytes: equal lists are told equal.
-/
import Derived.Test.YtfbhgmpgkhmikaaDoorMSx8
import Derived.Test.YtfbhgmpgkhmikaaDoorBit
import Derived.Test.YtfbhgmpgkhmikaaDoorLst
set_option linter.unusedSimpArgs false
set_option linter.unusedVariables false
namespace Go.Proofs.YtfbhgmpgkhmikaaDoor.MSH
open Go.RowKit Go.Proofs.YtfbhgmpgkhmikaaDoor.MS Go.Proofs.YtfbhgmpgkhmikaaDoorW.PrintWords Go.Proofs.YtfbhgmpgkhmikaaDoorW.PrintLast Go.Proofs.YtfbhgmpgkhmikaaDoor.Bit Go.Proofs.YtfbhgmpgkhmikaaDoor.Lst

theorem eqByteS_ev (l : List Int) (hl : l.length < 9223372036854775807) : Ev (fun k => laws_eqByteS.f k l l) true := by
  have h := ev_for (r := true) l.length (fun k i => laws_eqByteS.l0 k l l i)
    (fun k => by
      simp only [laws_eqByteS.l0]
      rw [if_neg (by omega)])
    (fun i hi k => by
      simp only [laws_eqByteS.l0, if_true]
      rw [if_pos (by omega), if_pos (by omega), if_pos (by omega), w1 (by omega)])
  refine Ev.congr (fun k => ?_) h
  unfold laws_eqByteS.f
  rw [if_pos rfl]
  rfl
end Go.Proofs.YtfbhgmpgkhmikaaDoor.MSH
