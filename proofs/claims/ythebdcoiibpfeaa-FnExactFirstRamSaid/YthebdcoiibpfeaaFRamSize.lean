/-
The sizes a memory may have: the same on both sides.
-/
import Derived.Test.YthebdcoiibpfeaaMFx0
import Derived.Test.YthebdcoiibpfeaaMFx3
import Derived.Test.YthebdcoiibpfeaaMFx5
import Derived.Test.YthebdcoiibpfeaaBit
import Derived.Test.YthebdcoiibpfeaaLst
set_option linter.unusedSimpArgs false
set_option linter.unusedVariables false
namespace Go.Proofs.Ythebdcoiibpfeaa.MFH
open Go.RowKit Go.Proofs.Ythebdcoiibpfeaa.MF Go.Proofs.YthebdcoiibpfeaaW.PrintWords Go.Proofs.YthebdcoiibpfeaaW.PrintLast Go.Proofs.Ythebdcoiibpfeaa.Bit Go.Proofs.Ythebdcoiibpfeaa.Lst
def Sz (n : Nat) : Prop := n = 256 ∨ n = 512 ∨ n = 1024 ∨ n = 2048 ∨ n = 4096
theorem spec_new {n : Nat} (h : Sz n) : spec_NewRam.f n = some (List.replicate n 0) := by
  unfold Sz at h
  unfold spec_NewRam.f
  rw [Int.toNat_natCast, if_pos (show 0 ≤ (n : Int) by omega), if_pos (show n ≤ 281474976710656 by omega)]
  repeat' split
  all_goals first | rfl | (exfalso; omega)
theorem spec_size {n : Nat} (h : Sz n) : spec_l13Size.f n = some true := by
  unfold spec_l13Size.f
  rw [spec_new h]
  simp only [Option.bind_some, List.length_replicate]
  unfold Sz at h
  rw [decide_eq_true (by omega)]
theorem impl_ramSize {n : Nat} (h : Sz n) : impl_isRamSize.f n = some true := by
  unfold Sz at h
  unfold impl_isRamSize.f
  repeat' split
  all_goals first | rfl | (have e : (n : Int) = 4096 := by omega
                           rw [e]
                           rfl)
theorem impl_size {n : Nat} (h : Sz n) : impl_isSize.f n = some true := by
  unfold impl_isSize.f
  rw [impl_ramSize h]
  rfl
theorem impl_new {n : Nat} (h : Sz n) : impl_NewRam.f n = some (List.replicate n 0) := by
  unfold impl_NewRam.f
  rw [impl_ramSize h]
  unfold Sz at h
  simp only [Option.bind_some, if_true]
  rw [Int.toNat_natCast, if_pos (show 0 ≤ (n : Int) by omega), if_pos (show n ≤ 281474976710656 by omega)]
theorem no_size {a : Int} (h : ¬ (a = 256 ∨ a = 512 ∨ a = 1024 ∨ a = 2048 ∨ a = 4096)) : spec_l13Size.f a = some false ∧ impl_isSize.f a = some false := by
  constructor
  · unfold spec_l13Size.f spec_NewRam.f
    rw [if_neg (by omega), if_neg (by omega), if_neg (by omega), if_neg (by omega), if_neg (by omega)]
    rfl
  · unfold impl_isSize.f impl_isRamSize.f
    rw [if_neg (by omega), if_neg (by omega), if_neg (by omega), if_neg (by omega)]
    have e : (a == 4096) = false := by
      have : a ≠ 4096 := by omega
      simp [this]
    rw [e]
    rfl
theorem size_or (a : Int) : (∃ n : Nat, a = n ∧ Sz n) ∨ ¬ (a = 256 ∨ a = 512 ∨ a = 1024 ∨ a = 2048 ∨ a = 4096) := by
  by_cases h : a = 256 ∨ a = 512 ∨ a = 1024 ∨ a = 2048 ∨ a = 4096
  · refine Or.inl ⟨a.toNat, by omega, ?_⟩
    unfold Sz
    omega
  · exact Or.inr h
abbrev Cl := S57
/-- The cell of a cycle. -/
theorem cell_in {n : Nat} (h : Sz n) {x : Int} (h0 : 0 ≤ x) (h1 : x < 65536) : 0 ≤ Int.tmod (wrap64 x) n ∧ Int.tmod (wrap64 x) n < n := by
  rw [wrap_in (by omega) (by omega)]
  unfold Sz at h
  rw [Int.tmod_eq_emod_of_nonneg h0]
  exact ⟨Int.emod_nonneg _ (by omega), Int.emod_lt_of_pos _ (by omega)⟩
theorem rdC {l : List Cl} {P : Cl → Prop} (h : ∀ x ∈ l, P x) {i : Nat} (hi : i < l.length) : P (rd_T57 l i) := by
  unfold rd_T57
  rw [Int.toNat_natCast, List.getD_eq_getElem?_getD, List.getElem?_eq_getElem hi]
  exact h _ (List.getElem_mem hi)
end Go.Proofs.Ythebdcoiibpfeaa.MFH
