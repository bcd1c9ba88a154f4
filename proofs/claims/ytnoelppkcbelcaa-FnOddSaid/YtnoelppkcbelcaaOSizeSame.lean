/-
Sizes of memory: both sides take the same five.
-/
import Derived.Test.YtnoelppkcbelcaaMOx1
import Derived.Test.YtnoelppkcbelcaaMOx3
import Derived.Test.YtnoelppkcbelcaaLst
set_option linter.unusedSimpArgs false
set_option linter.unusedVariables false
namespace Go.Proofs.Ytnoelppkcbelcaa.MOH
open Go.RowKit Go.Proofs.Ytnoelppkcbelcaa.MO Go.Proofs.YtnoelppkcbelcaaW.PrintWords Go.Proofs.YtnoelppkcbelcaaW.PrintLast Go.Proofs.Ytnoelppkcbelcaa.Lst
def isSz (a : Int) : Bool := a == 256 || a == 512 || a == 1024 || a == 2048 || a == 4096
theorem isSz_nat {a : Int} (h : isSz a = true) : ∃ s : Nat, a = (s : Int) ∧ 0 < s ∧ s ≤ 4096 := by
  unfold isSz at h
  simp only [Bool.or_eq_true, beq_iff_eq] at h
  refine ⟨a.toNat, ?_, ?_, ?_⟩ <;> omega
theorem spec_newRam (a : Int) : spec_NewRam.f a = some (if isSz a then List.replicate a.toNat 0 else []) := by
  unfold spec_NewRam.f isSz
  by_cases h1 : a = 256
  · subst h1; rfl
  · by_cases h2 : a = 512
    · subst h2; rfl
    · by_cases h3 : a = 1024
      · subst h3; rfl
      · by_cases h4 : a = 2048
        · subst h4; rfl
        · by_cases h5 : a = 4096
          · subst h5; rfl
          · simp [h1, h2, h3, h4, h5]
theorem spec_size (a : Int) : spec_l13Size.f a = some (isSz a) := by
  unfold spec_l13Size.f
  rw [spec_newRam]
  simp only [Option.bind_some]
  congr 1
  by_cases h : isSz a = true
  · obtain ⟨s, rfl, h1, _⟩ := isSz_nat h
    rw [if_pos h, h]
    simp
    omega
  · rw [if_neg h]
    simp [h]
theorem impl_ramSize (a : Int) : impl_isRamSize.f a = some (isSz a) := by
  unfold impl_isRamSize.f isSz
  by_cases h1 : a = 256 <;> by_cases h2 : a = 512 <;> by_cases h3 : a = 1024 <;> by_cases h4 : a = 2048 <;> simp [h1, h2, h3, h4]
theorem impl_size (a : Int) : impl_isSize.f a = some (isSz a) := by
  unfold impl_isSize.f
  rw [impl_ramSize]
  rfl
end Go.Proofs.Ytnoelppkcbelcaa.MOH
