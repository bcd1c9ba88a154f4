/-
The laws' helpers over cycles: equal lists are told equal.
-/
import Derived.Test.YthebdcoiibpfeaaMUx0
import Derived.Test.YthebdcoiibpfeaaMUx1
import Derived.Test.YthebdcoiibpfeaaBit
import Derived.Test.YthebdcoiibpfeaaLst
set_option linter.unusedSimpArgs false
set_option linter.unusedVariables false
namespace Go.Proofs.Ythebdcoiibpfeaa.MUH
open Go.RowKit Go.Proofs.Ythebdcoiibpfeaa.MU Go.Proofs.YthebdcoiibpfeaaW.PrintWords Go.Proofs.YthebdcoiibpfeaaW.PrintLast Go.Proofs.Ythebdcoiibpfeaa.Bit Go.Proofs.Ythebdcoiibpfeaa.Lst

theorem eqCyc_self (x : S57) : laws_eqCyc.f x.f0 x.f1 x.f2 x.f0 x.f1 x.f2 = some true := by
  unfold laws_eqCyc.f
  simp
theorem eqCycS_ev (l : List S57) (hl : l.length < 9223372036854775807) : Ev (fun k => laws_eqCycS.f k l l) true := by
  have h := ev_for (r := true) l.length (fun k i => laws_eqCycS.l0 k l l i)
    (fun k => by
      simp only [laws_eqCycS.l0]
      rw [if_neg (by omega)])
    (fun i hi k => by
      simp only [laws_eqCycS.l0, eqCyc_self, Option.bind_some, if_true]
      rw [if_pos (by omega), if_pos (by omega), if_pos (by omega), w1 (by omega)])
  refine Ev.congr (fun k => ?_) h
  unfold laws_eqCycS.f
  rw [if_pos rfl]
  rfl
end Go.Proofs.Ythebdcoiibpfeaa.MUH
