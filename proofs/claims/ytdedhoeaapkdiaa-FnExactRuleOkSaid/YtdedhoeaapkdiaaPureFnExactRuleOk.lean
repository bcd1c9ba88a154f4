/-
RuleOk: the program's rule check answers as the reference's, for every rule.
-/
import Derived.Test.YtdedhoeaapkdiaaMFnExactRuleOkx1
import Derived.Test.YtdedhoeaapkdiaaBit
namespace Go.Proofs.Ytdedhoeaapkdiaa.Pure
open Go.RowKit Go.Proofs.Ytdedhoeaapkdiaa.MFnExactRuleOk Go.Proofs.YtdedhoeaapkdiaaW.PrintWords Go.Proofs.YtdedhoeaapkdiaaW.PrintLast Go.Proofs.Ytdedhoeaapkdiaa.Bit

theorem ruleOk_same (a0 a1 a2 a3 a4 : Int) (h2 : 0 ≤ a2 ∧ a2 < 256) (h3 : 0 ≤ a3 ∧ a3 < 256) : ∃ b, spec_RuleOk.f a0 a1 a2 a3 a4 = some b ∧ impl_RuleOk.f a0 a1 a2 a3 a4 = some b := by
  unfold spec_RuleOk.f impl_RuleOk.f
  simp only [spec_l01In.f, impl_isHalf.f, impl_within.f, tdiv16 h2, andNot_zero h3]
  by_cases c1 : a0 ≤ a1 <;> simp only [c1, if_true, if_false]
  · by_cases c2 : Go.bits .and .u8 a2 15 = 0
    · by_cases c3 : a2 / 16 = 0
      · by_cases c4 : Go.bits .and .u8 a3 a2 = a3 <;> by_cases c5 : a4 ≥ 0 <;> simp [c2, c3, c4, c5]
      · by_cases c6 : a2 / 16 = 15 <;> by_cases c4 : Go.bits .and .u8 a3 a2 = a3 <;> by_cases c5 : a4 ≥ 0 <;> simp [c2, c3, c4, c5, c6]
    · by_cases c7 : Go.bits .and .u8 a2 15 = 15
      · by_cases c3 : a2 / 16 = 0
        · by_cases c4 : Go.bits .and .u8 a3 a2 = a3 <;> by_cases c5 : a4 ≥ 0 <;> simp [c7, c3, c4, c5]
        · by_cases c6 : a2 / 16 = 15 <;> by_cases c4 : Go.bits .and .u8 a3 a2 = a3 <;> by_cases c5 : a4 ≥ 0 <;> simp [c7, c3, c4, c5, c6]
      · by_cases c3 : a2 / 16 = 0
        · simp [c2, c7, c3]
        · by_cases c6 : a2 / 16 = 15 <;> simp [c2, c7, c3, c6]
  · exact ⟨_, rfl, rfl⟩

theorem FnExactRuleOk : laws_FnExactRuleOk.Pure := by
  intro a0 a1 a2 a3 a4 w0 w1 w2 w3 w4
  obtain ⟨b, h1, h2⟩ := ruleOk_same a0 a1 a2 a3 a4 (wf_u8 w2) (wf_u8 w3)
  unfold laws_FnExactRuleOk.f laws_toRule.f
  simp only [Option.bind_some, h1, h2]
  simp

end Go.Proofs.Ytdedhoeaapkdiaa.Pure
