/-
ReadKnow, the plain side: digits, the test of a Know, its text; the program's and the reference's are one and the same.
-/
import Derived.Test.YtidencofapcliaaDoorMTx3
import Derived.Test.YtidencofapcliaaDoorMTx4
import Derived.Test.YtidencofapcliaaDoorTHexSame
import Derived.Lib.Repeat
set_option linter.unusedSimpArgs false
set_option linter.unusedVariables false
namespace Go.Proofs.YtidencofapcliaaDoor.MTK
open Go.RowKit Go.Proofs.YtidencofapcliaaDoor.MT Go.Proofs.YtidencofapcliaaDoor.MTH Go.Proofs.YtidencofapcliaaDoorW.PrintWords Go.Proofs.YtidencofapcliaaDoorW.PrintLast Go.Proofs.YtidencofapcliaaDoor.Bit Go.Proofs.YtidencofapcliaaDoor.Lst

def qm (n : Nat) : ByteArray := if n = 2 then ⟨#[63, 63]⟩ else ⟨#[63, 63, 63, 63]⟩
/-- Digits, or question marks. -/
def dgs (n : Nat) (v : Int) : ByteArray := if v < 0 then qm n else strOfNums (hexL n v.toNat)
theorem dgs_size {n : Nat} (hn : n = 2 ∨ n = 4) (v : Int) : (dgs n v).size = n := by
  unfold dgs
  by_cases c : v < 0
  · rw [if_pos c]; rcases hn with rfl | rfl <;> rfl
  · rw [if_neg c, str_size, hexL_len]
theorem rep2 : strings_Repeat.f (⟨#[63]⟩ : ByteArray) 2 = some (qm 2) := by
  unfold strings_Repeat.f Giv.rep
  rw [if_pos (by decide)]
  rfl
theorem rep4 : strings_Repeat.f (⟨#[63]⟩ : ByteArray) 4 = some (qm 4) := by
  unfold strings_Repeat.f Giv.rep
  rw [if_pos (by decide)]
  rfl
theorem impl_dgs {n : Nat} (hn : n = 2 ∨ n = 4) {v : Int} (hv : v < 9223372036854775808) : Ev (fun k => impl_digitsOf.f k v (n : Int)) (dgs n v) := by
  unfold impl_digitsOf.f dgs
  by_cases c : v < 0
  · simp only [if_pos c]
    rcases hn with rfl | rfl
    · exact Ev.congr (fun k => by rw [show ((2 : Nat) : Int) = 2 from rfl, rep2]; rfl) (Ev.now _)
    · exact Ev.congr (fun k => by rw [show ((4 : Nat) : Int) = 4 from rfl, rep4]; rfl) (Ev.now _)
  · simp only [if_neg c]
    have h := impl_hex (n := n) (by omega) (by omega) (u := v.toNat) (by omega)
    rw [show ((v.toNat : Nat) : Int) = v by omega] at h
    exact Ev.bind h (Ev.now _)
abbrev L11 (a0 a1 a2 a3 a4 a5 a6 a7 a8 a9 a10 : Int) : List Int := [a0, a1, a2, a3, a4, a5, a6, a7, a8, a9, a10]
abbrev okB (a0 a1 a2 a3 a4 a5 a6 a7 a8 a9 a10 : Int) : Bool := impl_KnowOk.rest [a0, a1, a2, a3, a4, a5, a6, a7, a8, a9, a10] 0
theorem ok_iff (a0 a1 a2 a3 a4 a5 a6 a7 a8 a9 a10 : Int) : okB a0 a1 a2 a3 a4 a5 a6 a7 a8 a9 a10 = true ↔
    ((-1 ≤ a0 ∧ a0 ≤ 255) ∧ (-1 ≤ a1 ∧ a1 ≤ 255) ∧ (-1 ≤ a2 ∧ a2 ≤ 255) ∧ (-1 ≤ a3 ∧ a3 ≤ 255) ∧ (-1 ≤ a4 ∧ a4 ≤ 65535) ∧ (-1 ≤ a5 ∧ a5 ≤ 1) ∧ (-1 ≤ a6 ∧ a6 ≤ 1) ∧ (-1 ≤ a7 ∧ a7 ≤ 1) ∧ (-1 ≤ a8 ∧ a8 ≤ 1) ∧ (-1 ≤ a9 ∧ a9 ≤ 1) ∧ (-1 ≤ a10 ∧ a10 ≤ 1)) := by
  simp only [okB, impl_KnowOk.rest, impl_KnowOk.most, Bool.and_eq_true, decide_eq_true_eq, and_true]
  simp only [show (0 : Nat) < 4 from by decide, show (0 + 1 : Nat) < 4 from by decide, show (0 + 1 + 1 : Nat) < 4 from by decide, show (0 + 1 + 1 + 1 : Nat) < 4 from by decide, if_true]
  simp only [show ¬ ((0 + 1 + 1 + 1 + 1 : Nat) < 4) from by decide, show ¬ ((0 + 1 + 1 + 1 + 1 + 1 : Nat) < 4) from by decide, show ¬ ((0 + 1 + 1 + 1 + 1 + 1 + 1 : Nat) < 4) from by decide, show ¬ ((0 + 1 + 1 + 1 + 1 + 1 + 1 + 1 : Nat) < 4) from by decide, show ¬ ((0 + 1 + 1 + 1 + 1 + 1 + 1 + 1 + 1 : Nat) < 4) from by decide, show ¬ ((0 + 1 + 1 + 1 + 1 + 1 + 1 + 1 + 1 + 1 : Nat) < 4) from by decide, show ¬ ((0 + 1 + 1 + 1 + 1 + 1 + 1 + 1 + 1 + 1 + 1 : Nat) < 4) from by decide, if_false]
  simp only [show ((0 + 1 + 1 + 1 + 1 : Nat) = 4) = True from by decide, show ((0 + 1 + 1 + 1 + 1 + 1 : Nat) = 4) = False from by decide, show ((0 + 1 + 1 + 1 + 1 + 1 + 1 : Nat) = 4) = False from by decide, show ((0 + 1 + 1 + 1 + 1 + 1 + 1 + 1 : Nat) = 4) = False from by decide, show ((0 + 1 + 1 + 1 + 1 + 1 + 1 + 1 + 1 : Nat) = 4) = False from by decide, show ((0 + 1 + 1 + 1 + 1 + 1 + 1 + 1 + 1 + 1 : Nat) = 4) = False from by decide, show ((0 + 1 + 1 + 1 + 1 + 1 + 1 + 1 + 1 + 1 + 1 : Nat) = 4) = False from by decide, if_true, if_false, decide_eq_true_eq]
/-- The text of a Know. -/
def KT (a0 a1 a2 a3 a4 a5 a6 a7 a8 a9 a10 : Int) : ByteArray :=
  if okB a0 a1 a2 a3 a4 a5 a6 a7 a8 a9 a10 = true then impl_KnowText.signs [a5, a6, a7, a8, a9, a10] 0 (impl_KnowText.head (dgs 2 a0) (dgs 2 a1) (dgs 2 a2) (dgs 2 a3) (dgs 4 a4)) else ⟨#[]⟩
theorem impl_text (a0 a1 a2 a3 a4 a5 a6 a7 a8 a9 a10 : Int) : Ev (fun k => impl_KnowText.f k a0 a1 a2 a3 a4 a5 a6 a7 a8 a9 a10) (KT a0 a1 a2 a3 a4 a5 a6 a7 a8 a9 a10) := by
  unfold impl_KnowText.f KT
  by_cases c : okB a0 a1 a2 a3 a4 a5 a6 a7 a8 a9 a10 = true
  · have h := (ok_iff a0 a1 a2 a3 a4 a5 a6 a7 a8 a9 a10).mp c
    obtain ⟨h0, h1, h2, h3, h4, _⟩ := h
    simp only [show impl_KnowOk.rest [a0, a1, a2, a3, a4, a5, a6, a7, a8, a9, a10] 0 = true from c, if_true]
    refine Ev.bind (impl_dgs (n := 2) (Or.inl rfl) (by omega)) (Ev.bind (impl_dgs (n := 2) (Or.inl rfl) (by omega)) (Ev.bind (impl_dgs (n := 2) (Or.inl rfl) (by omega)) (Ev.bind (impl_dgs (n := 2) (Or.inl rfl) (by omega)) (Ev.bind (impl_dgs (n := 4) (Or.inr rfl) (by omega)) ?_))))
    refine Ev.congr (fun k => if_pos ?_) (Ev.now _)
    rw [dgs_size (Or.inl rfl), dgs_size (Or.inl rfl), dgs_size (Or.inl rfl), dgs_size (Or.inl rfl), dgs_size (Or.inr rfl)]
    omega
  · simp only [if_neg c]
    exact Ev.now _
theorem sign_size (x : Int) (i : Nat) : (impl_KnowText.sign x i).size ≤ 1 := by
  unfold impl_KnowText.sign
  by_cases c : x = -1
  · rw [if_pos c]; exact Nat.le_refl 1
  · rw [if_neg c]
    by_cases d : x = 0
    · rw [if_pos d]; exact Nat.le_refl 1
    · rw [if_neg d, ByteArray.size_extract]; omega
end Go.Proofs.YtidencofapcliaaDoor.MTK
