/-
Plain facts on texts: two texts with the same bytes are the same text.
-/
import Derived.Test.YtidencofapcliaaDoorWWords
set_option linter.unusedSimpArgs false
set_option linter.unusedVariables false
namespace Go.Proofs.YtidencofapcliaaDoor.Txt
open Go.RowKit Go.Proofs.YtidencofapcliaaDoorW.PrintWords
theorem toList_data (s : ByteArray) : s.toList = s.data.toList := by
  have go : ∀ (d i : Nat) (r : List UInt8), i + d = s.size → ByteArray.toList.loop s i r = r.reverse ++ s.data.toList.drop i := by
    intro d
    induction d with
    | zero =>
      intro i r h
      unfold ByteArray.toList.loop
      rw [if_neg (by omega), List.drop_eq_nil_of_le (by rw [Array.length_toList]; exact Nat.le_of_eq (show s.size = i by omega)), List.append_nil]
    | succ d ih =>
      intro i r h
      unfold ByteArray.toList.loop
      rw [if_pos (by omega), ih (i + 1) _ (by omega)]
      have hl : i < s.data.toList.length := by rw [Array.length_toList]; exact (by omega : i < s.size)
      rw [List.drop_eq_getElem_cons hl, List.reverse_cons, List.append_assoc]
      congr 1
      have e : s.get! i = s.data.toList[i] := by
        have : s.get! i = s.data[i]! := rfl
        rw [this, getElem!_pos s.data i (by simpa using hl)]
        simp
      rw [e]
      rfl
  have h := go s.size 0 [] (by omega)
  simpa [ByteArray.toList] using h
theorem toList_iff (s t : ByteArray) : t.toList = s.toList ↔ t = s := by
  rw [toList_data, toList_data]
  constructor
  · intro h
    apply ByteArray.ext
    exact Array.ext' h
  · intro h
    rw [h]
theorem ev_uniq {α : Type} {g : Nat → Option α} {a b : α} (h1 : Ev g a) (h2 : Ev g b) : a = b := by
  obtain ⟨K, hK⟩ := h1
  obtain ⟨K', hK'⟩ := h2
  exact Option.some.inj ((hK (max K K') (by omega)).symm.trans (hK' (max K K') (by omega)))
theorem two_bytes (s : ByteArray) (h : s.size = 2) : ∃ a b : UInt8, s = ⟨#[a, b]⟩ := by
  obtain ⟨d⟩ := s
  obtain ⟨l⟩ := d
  match l, h with
  | [a, b], _ => exact ⟨a, b, rfl⟩
theorem four_bytes (s : ByteArray) (h : s.size = 4) : ∃ a b c d : UInt8, s = ⟨#[a, b, c, d]⟩ := by
  obtain ⟨d⟩ := s
  obtain ⟨l⟩ := d
  match l, h with
  | [a, b, c, d], _ => exact ⟨a, b, c, d, rfl⟩
end Go.Proofs.YtidencofapcliaaDoor.Txt
