/-
The laws' cycles, turned to the program's, are in range.
-/
import Derived.Test.YthebdcoiibpfeaaMAx0
import Derived.Test.YthebdcoiibpfeaaMAx4
import Derived.Test.YthebdcoiibpfeaaASqueezeSame
import Derived.Test.YthebdcoiibpfeaaAHarnCyc
set_option linter.unusedSimpArgs false
set_option linter.unusedVariables false
namespace Go.Proofs.Ythebdcoiibpfeaa.MAH
open Go.RowKit Go.Proofs.Ythebdcoiibpfeaa.MA Go.Proofs.YthebdcoiibpfeaaW.PrintWords Go.Proofs.YthebdcoiibpfeaaW.PrintLast Go.Proofs.Ythebdcoiibpfeaa.Bit Go.Proofs.Ythebdcoiibpfeaa.Lst
theorem cyOk_map {l : List S59} (h : ∀ x ∈ l, Good59 x) : ∀ x ∈ l.map cycOf, CyOk x := by
  intro x hx
  obtain ⟨y, hy, rfl⟩ := List.mem_map.1 hx
  obtain ⟨h1, h2⟩ := h y hy
  exact ⟨wf_u16 h1, wf_u8 h2⟩
end Go.Proofs.Ythebdcoiibpfeaa.MAH
