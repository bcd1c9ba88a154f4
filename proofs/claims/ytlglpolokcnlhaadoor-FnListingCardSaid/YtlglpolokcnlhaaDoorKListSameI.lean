/-
Listing: the reference's lines and the program's lines are the same.
-/

import Derived.Test.YtlglpolokcnlhaaDoorKShowImplI
import Derived.Laws.Strings
set_option linter.unusedSimpArgs false
set_option linter.unusedVariables false
namespace Go.Proofs.YtlglpolokcnlhaaDoor.MKS
open Go.RowKit Go.Proofs.YtlglpolokcnlhaaDoor.MK Go.Proofs.YtlglpolokcnlhaaDoorW.PrintWords Go.Proofs.YtlglpolokcnlhaaDoorW.PrintLast Go.Proofs.YtlglpolokcnlhaaDoor.Lst Go.Proofs.YtlglpolokcnlhaaDoor.MKO Go.Proofs.YtlglpolokcnlhaaDoor.MKH

def sp (n : Nat) : ByteArray := ⟨(List.replicate n (32 : UInt8)).toArray⟩
theorem sp_size (n : Nat) : (sp n).size = n := by simp [sp, ByteArray.size]
theorem sp_zero : sp 0 = ⟨#[]⟩ := rfl
theorem sp_succ (x : ByteArray) (n : Nat) : x ++ sp (n + 1) = (x ++ ⟨#[32]⟩) ++ sp n := by
  rw [ByteArray.append_assoc]
  congr 1
theorem nil_append (x : ByteArray) : x ++ (⟨#[]⟩ : ByteArray) = x := by apply ByteArray.ext; simp
theorem rep_sp (n : Nat) : (⟨(Lib.repeatL (⟨#[32]⟩ : ByteArray).data.toList n).toArray⟩ : ByteArray) = sp n := by
  apply ByteArray.ext
  have h : ∀ m, Lib.repeatL [32] m = List.replicate m 32 := fun m => by
    induction m with
    | zero => rfl
    | succ m ih => rw [Lib.repeatL, ih, List.replicate_succ]; rfl
  simp [sp, h]
/-- The place of a byte, as a number of 16 bits. -/
def P (pc : Int) (p : Nat) : Int := IntKind.u16.wrap (pc + (IntKind.u16.wrap (p : Int)))
theorem P_range (pc : Int) (p : Nat) : 0 ≤ P pc p ∧ P pc p < 65536 := by unfold P; rw [w_u16, w_u16]; omega
def hd (pc : Int) (p : Nat) : ByteArray := strOfNums (hexL 4 (P pc p).toNat) ++ ⟨#[58]⟩
theorem hd_size (pc : Int) (p : Nat) : (hd pc p).size = 5 := by unfold hd; rw [ByteArray.size_append, hx4_size, c1]
def addB (l : List Int) (p : Nat) : Nat → Nat → ByteArray → ByteArray
  | 0, _, x => x
  | d + 1, q, x => addB l p d (q + 1) (x ++ ((⟨#[32]⟩ : ByteArray) ++ hx2 (rd l ((p + q : Nat) : Int)).toNat))
theorem addB_size (l : List Int) (p : Nat) : ∀ d q x, (addB l p d q x).size = x.size + 3 * d
  | 0, q, x => by simp [addB]
  | d + 1, q, x => by
    rw [addB, addB_size l p d (q + 1), ByteArray.size_append, ByteArray.size_append, c1, hx2_size]
    omega
def lineOf (l : List Int) (pc : Int) (p n : Nat) (text : ByteArray) : ByteArray := (addB l p n 0 (hd pc p) ++ sp (15 - (5 + 3 * n))) ++ text
def isW (l : List Int) (p : Nat) : Prop := (l.drop p).length ≠ 0 ∧ sz (md (rd (l.drop p) 0).toNat) ≠ 0 ∧ sz (md (rd (l.drop p) 0).toNat) ≤ (l.drop p).length
instance (l : List Int) (p : Nat) : Decidable (isW l p) := by unfold isW; exact inferInstance
def nOf (l : List Int) (p : Nat) : Nat := if isW l p then sz (md (rd l (p : Int)).toNat) else 1
def tOf (l : List Int) (pc : Int) (p : Nat) : ByteArray := if isW l p then showL (l.drop p) (P pc p) else (⟨#[46, 98, 121, 116, 101, 32, 36]⟩ : ByteArray) ++ hx2 (rd l (p : Int)).toNat
/-- The lines from a place on. -/
def listL (l : List Int) (pc : Int) : Nat → Nat → List ByteArray
  | 0, _ => []
  | d + 1, p => if p < l.length then lineOf l pc p (nOf l p) (tOf l pc p) :: listL l pc d (p + nOf l p) else []
theorem rd_drop (l : List Int) (p : Nat) : rd (l.drop p) 0 = rd l (p : Int) := by
  unfold rd
  rw [List.getD_eq_getElem?_getD, List.getD_eq_getElem?_getD, List.getElem?_drop]
  simp
set_option maxRecDepth 100000 in
theorem name_some : ∀ i : Fin 256, sz (md i.val) = 0 ∨ (nm i.val).size = 3 := by decide +kernel
theorem sz_le (m : Int) : sz m ≤ 3 := by
  unfold sz
  repeat' split
  all_goals decide
theorem toList_nil (x : ByteArray) : x.toList = [] ↔ x.size = 0 := by
  rw [ByteArray.toList_eq]
  have e : x.size = x.data.toList.length := by rw [Array.length_toList]; rfl
  rw [e]
  exact List.length_eq_zero_iff.symm
theorem show_size (l : List Int) (pc : Int) (hb : ∀ x ∈ l, 0 ≤ x ∧ x < 256) : (showL l pc).size ≤ 24 := by
  unfold showL
  by_cases h : l.length = 0
  · rw [if_pos h]; decide
  rw [if_neg h]
  by_cases h : sz (md (rd l 0).toNat) = 0
  · simp only [h, if_true]; decide
  simp only [h, if_false]
  by_cases h : l.length < sz (md (rd l 0).toNat)
  · simp only [h, if_true]; decide
  simp only [h, if_false]
  have hs := opnd_size (md (rd l 0).toNat) (rd l 1).toNat (rd l 2).toNat (tg pc (rd l 1).toNat)
  have hj : (rd l 0).toNat < 256 := (rd_nat hb 0).2
  obtain ⟨_, _, _, _, hn⟩ := size_all ⟨(rd l 0).toNat, hj⟩
  have hn : (nm (rd l 0).toNat).size ≤ 3 := hn
  by_cases h : md (rd l 0).toNat = 0
  · simp only [h, if_true]; omega
  · simp only [h, if_false]
    rw [ByteArray.size_append, ByteArray.size_append, c1]
    omega
theorem show_nil (l : List Int) (pc : Int) (hb : ∀ x ∈ l, 0 ≤ x ∧ x < 256) : (showL l pc).toList = [] ↔ ¬ (l.length ≠ 0 ∧ sz (md (rd l 0).toNat) ≠ 0 ∧ sz (md (rd l 0).toNat) ≤ l.length) := by
  rw [toList_nil]
  have hj : (rd l 0).toNat < 256 := (rd_nat hb 0).2
  have hn := name_some ⟨(rd l 0).toNat, hj⟩
  simp only at hn
  unfold showL
  by_cases h0 : l.length = 0
  · rw [if_pos h0]
    exact ⟨fun _ h => h.1 h0, fun _ => rfl⟩
  rw [if_neg h0]
  by_cases h1 : sz (md (rd l 0).toNat) = 0
  · simp only [h1, if_true]
    exact ⟨fun _ h => h.2.1 rfl, fun _ => rfl⟩
  simp only [h1, if_false]
  by_cases h2 : l.length < sz (md (rd l 0).toNat)
  · simp only [h2, if_true]
    exact ⟨fun _ h => by omega, fun _ => rfl⟩
  simp only [h2, if_false]
  have hn3 : (nm (rd l 0).toNat).size = 3 := hn.resolve_left h1
  constructor
  · intro h
    exfalso
    by_cases h3 : md (rd l 0).toNat = 0
    · simp only [h3, if_true] at h
      omega
    · simp only [h3, if_false] at h
      rw [ByteArray.size_append, ByteArray.size_append] at h
      omega
  · intro h
    exact absurd ⟨h0, h1, by omega⟩ h
theorem bytes_drop {l : List Int} (hb : ∀ x ∈ l, 0 ≤ x ∧ x < 256) (p : Nat) : ∀ x ∈ l.drop p, 0 ≤ x ∧ x < 256 := fun x hx => hb x (List.mem_of_mem_drop hx)
theorem n_bounds (l : List Int) (p : Nat) (hp : p < l.length) : 1 ≤ nOf l p ∧ nOf l p ≤ 3 ∧ p + nOf l p ≤ l.length := by
  unfold nOf
  by_cases h : isW l p
  · rw [if_pos h]
    unfold isW at h
    rw [rd_drop, List.length_drop] at h
    have := sz_le (md (rd l (p : Int)).toNat)
    omega
  · rw [if_neg h]
    omega
theorem t_size (l : List Int) (pc : Int) (hb : ∀ x ∈ l, 0 ≤ x ∧ x < 256) (p : Nat) : (tOf l pc p).size ≤ 24 := by
  unfold tOf
  by_cases h : isW l p
  · rw [if_pos h]
    exact show_size _ _ (bytes_drop hb p)
  · rw [if_neg h, ByteArray.size_append, hx2_size]
    decide
end Go.Proofs.YtlglpolokcnlhaaDoor.MKS
