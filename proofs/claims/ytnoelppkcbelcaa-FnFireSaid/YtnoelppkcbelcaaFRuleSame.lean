/-
Rules: the program's check and taking answer as the reference's.
-/
import Derived.Test.YtnoelppkcbelcaaMFx1
import Derived.Test.YtnoelppkcbelcaaMFx3
import Derived.Test.YtnoelppkcbelcaaBit
set_option linter.unusedSimpArgs false
set_option linter.unusedVariables false
namespace Go.Proofs.Ytnoelppkcbelcaa.MFH
open Go.RowKit Go.Proofs.Ytnoelppkcbelcaa.MF Go.Proofs.YtnoelppkcbelcaaW.PrintWords Go.Proofs.YtnoelppkcbelcaaW.PrintLast Go.Proofs.Ytnoelppkcbelcaa.Bit

theorem ruleOk_same (a0 a1 a2 a3 a4 : Int) (h2 : 0 ≤ a2 ∧ a2 < 256) (h3 : 0 ≤ a3 ∧ a3 < 256) : ∃ b, spec_RuleOk.f a0 a1 a2 a3 a4 = some b ∧ impl_RuleOk.f a0 a1 a2 a3 a4 = some b := by
  unfold spec_RuleOk.f impl_RuleOk.f
  simp only [spec_l01In.f, impl_isHalf.f, impl_within.f, tdiv16 h2, andNot_zero h3]
  by_cases c1 : a0 ≤ a1 <;> simp only [c1, if_true, if_false]
  · by_cases c2 : Go.bits .and .u8 a2 15 = 0
    · by_cases c3 : a2 / 16 = 0
      · by_cases c4 : Go.bits .and .u8 a3 a2 = a3 <;> by_cases c5 : a4 ≥ 0 <;> simp [c2, c3, c4, c5]
      · by_cases c6 : a2 / 16 = 15 <;> by_cases c4 : Go.bits .and .u8 a3 a2 = a3 <;> by_cases c5 : a4 ≥ 0 <;> simp [c2, c3, c4, c5, c6]
    · by_cases c7 : Go.bits .and .u8 a2 15 = 15
      · by_cases c3 : a2 / 16 = 0
        · by_cases c4 : Go.bits .and .u8 a3 a2 = a3 <;> by_cases c5 : a4 ≥ 0 <;> simp [c7, c3, c4, c5]
        · by_cases c6 : a2 / 16 = 15 <;> by_cases c4 : Go.bits .and .u8 a3 a2 = a3 <;> by_cases c5 : a4 ≥ 0 <;> simp [c7, c3, c4, c5, c6]
      · by_cases c3 : a2 / 16 = 0
        · simp [c2, c7, c3]
        · by_cases c6 : a2 / 16 = 15 <;> simp [c2, c7, c3, c6]
  · exact ⟨_, rfl, rfl⟩

/-- What a right rule says, and which cycle it takes. -/
def takesB (a0 a1 a2 a3 a4 b0 b1 : Int) (b2 : Bool) : Bool := decide (b0 ≥ a0) && decide (b0 ≤ a1) && decide (Go.bits .and .u8 b1 a2 = a3) && (a4 == 2 || (b2 == (a4 == 1)))
theorem rule_takes_eq (a0 a1 a2 a3 a4 b0 b1 : Int) (b2 : Bool) : impl_Rule_takes.f a0 a1 a2 a3 a4 b0 b1 b2 = some (takesB a0 a1 a2 a3 a4 b0 b1 b2) := by
  unfold impl_Rule_takes.f takesB
  by_cases c1 : b0 ≥ a0 <;> by_cases c2 : b0 ≤ a1 <;> by_cases c3 : Go.bits .and .u8 b1 a2 = a3 <;> by_cases c4 : a4 = 2 <;> simp [c1, c2, c3, c4]
end Go.Proofs.Ytnoelppkcbelcaa.MFH
