-- Written by this session's own program (wip/myprint.py) over the kit's print of the translation. Lean checks it.
import Derived.Test.YtfahgmdnmceleaaDoorMDx6
import Derived.Test.YtfahgmdnmceleaaDoorDSrtK
import Derived.Test.YtfahgmdnmceleaaDoorAscF
import Derived.Test.YtfahgmdnmceleaaDoorMDx0
import Derived.Test.YtfahgmdnmceleaaDoorMDx5
namespace Go.Proofs.YtfahgmdnmceleaaDoor.MD
open Go.Proofs.YtfahgmdnmceleaaDoor Go.RowKit Go.Proofs.YtfahgmdnmceleaaDoorW.PrintWords Go.Proofs.YtfahgmdnmceleaaDoorW.PrintLast Go.Proofs.YtfahgmdnmceleaaDoorW.PrintMore
attribute [local go_sem] max2_int min2_int max_two min_two max_three min_three max_four min_four   -- for this text's walks alone
set_option linter.unusedVariables false
set_option linter.unusedSimpArgs false

/-! ### impl_ascending: function 24 -/
def impl_ascending.f (l0 : List Int) : Option (List Int) := if l0.length < 4611686018427387904 then (if AscF.small l0 = true then some (AscF.asc l0) else none) else none
theorem impl_ascending.owned (N : Nat) (v : Value) (l r : List Int) (w : World) (hR : Kd.R (Kd.int .u16) 42 w N (fun _ => True) v l) (h : impl_ascending.f l = some r) :
    Calls Tryd.prog 24 #[v] w fun e w' => ∃ v0_ : Value, e = .returned (v0_) ∧ Kd.R (Kd.int .u16) 42 w' N (fun _ => True) v0_ r ∧ Below N w w' := by
  unfold impl_ascending.f at h
  by_cases h1 : l.length < 4611686018427387904
  · rw [if_pos h1] at h
    by_cases h2 : AscF.small l = true
    · rw [if_pos h2] at h
      obtain rfl := Option.some.inj h
      refine (Srt.asc_calls N v l w hR h1).mono ?_
      rintro e w' ⟨v', M, rfl, hM, hR', hB⟩
      rw [← AscF.asc_eq h2 hM.out.1 hM.out.2]
      exact ⟨v', rfl, hR'.out, hB.out⟩
    · rw [if_neg h2] at h
      cases h
  · rw [if_neg h1] at h
    cases h

end Go.Proofs.YtfahgmdnmceleaaDoor.MD
