/-
Cycles in range.
-/
import Derived.Test.YtnoelppkcbelcaaMHx0
import Derived.Test.YtnoelppkcbelcaaBit
import Derived.Test.YtnoelppkcbelcaaLst
set_option linter.unusedSimpArgs false
set_option linter.unusedVariables false
namespace Go.Proofs.Ytnoelppkcbelcaa.MHH
open Go.RowKit Go.Proofs.Ytnoelppkcbelcaa.MH Go.Proofs.YtnoelppkcbelcaaW.PrintWords Go.Proofs.YtnoelppkcbelcaaW.PrintLast Go.Proofs.Ytnoelppkcbelcaa.Bit Go.Proofs.Ytnoelppkcbelcaa.Lst
abbrev Cyc' := S32
def InR (x : Cyc') : Prop := (0 ≤ x.f0 ∧ x.f0 < 65536) ∧ (0 ≤ x.f1 ∧ x.f1 < 256)
theorem inR_of {l : List Cyc'} (h : ∀ x ∈ l, (Lit.int .u16 x.f0).wf = true ∧ (Lit.int .u8 x.f1).wf = true) : ∀ x ∈ l, InR x := fun x hx => ⟨wf_u16 (h x hx).1, wf_u8 (h x hx).2⟩
theorem inR_rd {l : List Cyc'} (h : ∀ x ∈ l, InR x) {i : Nat} (hi : i < l.length) : InR (rd_T32 l i) := by
  unfold rd_T32
  rw [Int.toNat_natCast, List.getD_eq_getElem?_getD, List.getElem?_eq_getElem hi]
  exact h _ (List.getElem_mem hi)
/-- The cell of an address. -/
theorem cell_nat {a : Int} {s : Nat} (h0 : 0 ≤ a) (h1 : a < 65536) (hs : 0 < s) : Int.tmod (wrap64 a) (s : Int) = ((a.toNat % s : Nat) : Int) := by
  rw [wrap_in (by omega) (by omega), Int.tmod_eq_emod_of_nonneg h0]
  obtain ⟨n, rfl⟩ := Int.eq_ofNat_of_zero_le h0
  rw [Int.toNat_natCast]
  exact (Int.natCast_emod n s).symm
end Go.Proofs.Ytnoelppkcbelcaa.MHH
