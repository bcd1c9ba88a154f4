/-
Cycles in range.
-/
import Derived.Test.YtfahgmdnmceleaaDoorMDx0
import Derived.Test.YtfahgmdnmceleaaDoorMDx9
import Derived.Test.YtfahgmdnmceleaaDoorDHarnCyc
set_option linter.unusedSimpArgs false
set_option linter.unusedVariables false
namespace Go.Proofs.YtfahgmdnmceleaaDoor.MDH
open Go.RowKit Go.Proofs.YtfahgmdnmceleaaDoor.MD Go.Proofs.YtfahgmdnmceleaaDoorW.PrintWords Go.Proofs.YtfahgmdnmceleaaDoorW.PrintLast Go.Proofs.YtfahgmdnmceleaaDoor.Bit Go.Proofs.YtfahgmdnmceleaaDoor.Lst
abbrev Cyc' := S44
def InR (x : Cyc') : Prop := (0 ≤ x.f0 ∧ x.f0 < 65536) ∧ (0 ≤ x.f1 ∧ x.f1 < 256)
theorem inR_map {l : List S47} (h : ∀ x ∈ l, Good47 x) : ∀ x ∈ l.map cycOf, InR x := by
  intro x hx
  obtain ⟨y, hy, rfl⟩ := List.mem_map.1 hx
  obtain ⟨h1, h2⟩ := h y hy
  exact ⟨wf_u16 h1, wf_u8 h2⟩
theorem inR_rd {l : List Cyc'} (h : ∀ x ∈ l, InR x) {i : Nat} (hi : i < l.length) : InR (rd_T44 l i) := by
  unfold rd_T44
  rw [Int.toNat_natCast, List.getD_eq_getElem?_getD, List.getElem?_eq_getElem hi]
  exact h _ (List.getElem_mem hi)
/-- The cell of an address. -/
theorem cell_nat {a : Int} {s : Nat} (h0 : 0 ≤ a) (h1 : a < 65536) (hs : 0 < s) : Int.tmod (wrap64 a) (s : Int) = ((a.toNat % s : Nat) : Int) := by
  rw [wrap_in (by omega) (by omega), Int.tmod_eq_emod_of_nonneg h0]
  obtain ⟨n, rfl⟩ := Int.eq_ofNat_of_zero_le h0
  rw [Int.toNat_natCast]
  exact (Int.natCast_emod n s).symm
end Go.Proofs.YtfahgmdnmceleaaDoor.MDH
