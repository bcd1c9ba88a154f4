/-
Takes: the program's rule takes the same cycles as the reference's, for every rule and cycle.
-/
import Derived.Test.YtdedhoeaapkdiaaMAx1
import Derived.Test.YtdedhoeaapkdiaaMAx2
import Derived.Test.YtdedhoeaapkdiaaBit
import Derived.Test.YtdedhoeaapkdiaaARuleSame
set_option linter.unusedSimpArgs false
set_option linter.unusedVariables false
namespace Go.Proofs.Ytdedhoeaapkdiaa.Pure
open Go.RowKit Go.Proofs.Ytdedhoeaapkdiaa.MA Go.Proofs.Ytdedhoeaapkdiaa.MAH Go.Proofs.YtdedhoeaapkdiaaW.PrintWords Go.Proofs.YtdedhoeaapkdiaaW.PrintLast Go.Proofs.Ytdedhoeaapkdiaa.Bit

theorem FnExactTakes : laws_FnExactTakes.Pure := by
  intro a0 a1 a2 a3 a4 b0 b1 b2 w0 w1 w2 w3 w4 w5 w6
  obtain ⟨b, h1, h2⟩ := takes_same a0 a1 a2 a3 a4 b0 b1 b2 (wf_u8 w2) (wf_u8 w3)
  unfold laws_FnExactTakes.f laws_toRule.f laws_toCyc.f
  simp only [Option.bind_some, h1, h2]
  simp

end Go.Proofs.Ytdedhoeaapkdiaa.Pure
