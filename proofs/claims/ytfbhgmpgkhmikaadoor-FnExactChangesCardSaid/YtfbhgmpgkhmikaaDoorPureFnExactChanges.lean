/-
The law FnExactChanges as a statement on numbers alone: for every byte the program's answer is the reference's: all 256 reckoned.
-/
import Derived.Test.YtfbhgmpgkhmikaaDoorMCx6
namespace Go.Proofs.YtfbhgmpgkhmikaaDoor.Pure
open Go.RowKit Go.Proofs.YtfbhgmpgkhmikaaDoor.MC Go.Proofs.YtfbhgmpgkhmikaaDoorW.PrintWords Go.Proofs.YtfbhgmpgkhmikaaDoorW.PrintLast

set_option maxRecDepth 100000 in
theorem allChanges : ∀ i : Fin 256, laws_FnExactChanges.f 20 (i.val : Int) = some true := by decide +kernel
theorem FnExactChanges : laws_FnExactChanges.Pure := by
  intro a0 h
  have h' : 0 ≤ a0 ∧ a0 ≤ 255 := by simpa [Lit.wf, IntKind.min, IntKind.max, IntKind.bits, IntKind.signed] using h
  refine ⟨20, ?_⟩
  have hk := allChanges ⟨a0.toNat, by omega⟩
  have he : ((a0.toNat : Nat) : Int) = a0 := by omega
  simp only [he] at hk
  exact hk

end Go.Proofs.YtfbhgmpgkhmikaaDoor.Pure
