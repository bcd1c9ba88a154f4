/-
A cycle out of its small form: plain laws.
-/
import Derived.Test.YtnoelppkcbelcaaMSx0
import Derived.Test.YtnoelppkcbelcaaMSx3
import Derived.Test.YtnoelppkcbelcaaSSqueezeSame
set_option linter.unusedSimpArgs false
set_option linter.unusedVariables false
namespace Go.Proofs.Ytnoelppkcbelcaa.MSH
open Go.RowKit Go.Proofs.Ytnoelppkcbelcaa.MS Go.Proofs.YtnoelppkcbelcaaW.PrintWords Go.Proofs.YtnoelppkcbelcaaW.PrintLast Go.Proofs.Ytnoelppkcbelcaa.Bit Go.Proofs.Ytnoelppkcbelcaa.Lst
def tb (m j : Int) : Bool := decide (m / j % 2 = 1)
def ka (m : Int) : Nat := if tb m 2 = true then 0 else if tb m 4 = true then 1 else 2
def kd (m : Int) : Nat := if tb m 8 = true then 0 else 1
def at_ (s : List Int) (j : Nat) : Int := s.getD j 0
def dAddr (a : Cy) (s : List Int) : Int := if tb (at_ s 0) 2 = true then (a.f0 + 1) % 65536 else if tb (at_ s 0) 4 = true then a.f0 / 256 * 256 + at_ s 1 else at_ s 1 + 256 * at_ s 2
def dData (a : Cy) (s : List Int) : Int := if tb (at_ s 0) 8 = true then a.f1 else at_ s (1 + ka (at_ s 0))
def dLen (s : List Int) : Nat := 1 + ka (at_ s 0) + kd (at_ s 0)
def D (a : Cy) (s : List Int) : Cy × Nat := if s.length < dLen s then (zc, 0) else (⟨dAddr a s, dData a s, tb (at_ s 0) 1⟩, dLen s)
theorem dLen_le (s : List Int) : 1 ≤ dLen s ∧ dLen s ≤ 4 := by
 unfold dLen ka kd
 repeat' split
 all_goals omega
theorem at_in {s : List Int} (h : ∀ x ∈ s, 0 ≤ x ∧ x < 256) (j : Nat) : 0 ≤ at_ s j ∧ at_ s j < 256 := by
 unfold at_
 rw [List.getD_eq_getElem?_getD]
 by_cases hj : j < s.length
 ·rw [List.getElem?_eq_getElem hj]
  exact h _ (List.getElem_mem hj)
 ·rw [List.getElem?_eq_none (by omega)]
  simp
theorem D_ok {a : Cy} {s : List Int} (ha : CyOk a) (h : ∀ x ∈ s, 0 ≤ x ∧ x < 256) : ((D a s).2 = 0 ∧ D a s = (zc, 0)) ∨ (CyOk (D a s).1 ∧ 1 ≤ (D a s).2 ∧ (D a s).2 ≤ s.length ∧ (D a s).2 = dLen s) := by
 have hl := dLen_le s
 unfold D
 by_cases hs : s.length < dLen s
 ·rw [if_pos hs]
  exact Or.inl ⟨rfl, rfl⟩
 ·rw [if_neg hs]
  refine Or.inr ⟨⟨?_, ?_⟩, hl.1, by simp only []; omega, rfl⟩
  ·have h1 := at_in h 1
   have h2 := at_in h 2
   obtain ⟨⟨a1, a2⟩, _⟩ := ha
   simp only [dAddr]
   repeat' split
   all_goals omega
  ·have h1 := at_in h (1 + ka (at_ s 0))
   obtain ⟨_, a3⟩ := ha
   simp only [dData]
   split
   ·exact a3
   ·exact h1
theorem sq_dLen (a c : Cy) (rest : List Int) : dLen (sq a c ++ rest) = (sq a c).length := by
 unfold sq dLen ka kd at_ tb wb
 by_cases h1 : c.f0 = (a.f0 + 1) % 65536 <;> by_cases h2 : c.f1 = a.f1 <;> by_cases h3 : c.f0 / 256 = a.f0 / 256 <;> cases c.f2 <;> simp [h1, h2, h3]
theorem sq_head (a c : Cy) (rest : List Int) : at_ (sq a c ++ rest) 0 ≤ 15 := by
 unfold sq at_ wb
 by_cases h1 : c.f0 = (a.f0 + 1) % 65536 <;> by_cases h2 : c.f1 = a.f1 <;> by_cases h3 : c.f0 / 256 = a.f0 / 256 <;> cases c.f2 <;> simp [h1, h2, h3]
theorem sq_in {a c : Cy} (hc : CyOk c) : ∀ x ∈ sq a c, 0 ≤ x ∧ x < 256 := by
 obtain ⟨⟨c1, c2⟩, c3, c4⟩ := hc
 have hw : 0 ≤ wb c.f2 ∧ wb c.f2 ≤ 1 := by unfold wb; cases c.f2 <;> simp
 intro x hx
 unfold sq at hx
 split at hx <;> split at hx <;> (try split at hx) <;> simp at hx <;> omega
theorem D_sq {a c : Cy} (ha : CyOk a) (hc : CyOk c) (rest : List Int) : D a (sq a c ++ rest) = (c, (sq a c).length) := by
 have hd := sq_dLen a c rest
 have hw : tb (at_ (sq a c ++ rest) 0) 1 = c.f2 := by
  unfold sq at_ tb wb
  by_cases h1 : c.f0 = (a.f0 + 1) % 65536 <;> by_cases h2 : c.f1 = a.f1 <;> by_cases h3 : c.f0 / 256 = a.f0 / 256 <;> cases c.f2 <;> simp [h1, h2, h3]
 have h0 : dAddr a (sq a c ++ rest) = c.f0 := by
  obtain ⟨⟨c1, c2⟩, c3, c4⟩ := hc
  obtain ⟨⟨a1, a2⟩, a3, a4⟩ := ha
  unfold sq dAddr at_ tb wb
  by_cases h1 : c.f0 = (a.f0 + 1) % 65536 <;> by_cases h2 : c.f1 = a.f1 <;> by_cases h3 : c.f0 / 256 = a.f0 / 256 <;> cases c.f2 <;> simp [h1, h2, h3] <;> omega
 have h1 : dData a (sq a c ++ rest) = c.f1 := by
  unfold sq dData at_ tb wb ka tb
  by_cases h1 : c.f0 = (a.f0 + 1) % 65536 <;> by_cases h2 : c.f1 = a.f1 <;> by_cases h3 : c.f0 / 256 = a.f0 / 256 <;> cases c.f2 <;> simp [h1, h2, h3]
 unfold D
 rw [hd, h0, h1, hw, if_neg (by simp)]
def sqFrom (a : Cy) : List Cy → List Int
 | [] => []
 | c :: l => sq a c ++ sqFrom c l
theorem sqFrom_len (a : Cy) : ∀ l : List Cy, l.length ≤ (sqFrom a l).length
 | [] => by simp
 | c :: l => by
  have h1 := sqFrom_len c l
  have h2 := sq_len a c
  simp only [sqFrom, List.length_append, List.length_cons]
  omega
theorem sqTo_from (l : List Cy) : ∀ d i, i + d = l.length → sqTo l i ++ sqFrom (lastOf l i) (l.drop i) = sqTo l l.length
 | 0, i, h => by
  obtain rfl : i = l.length := by omega
  simp [sqFrom]
 | d + 1, i, h => by
  have ih := sqTo_from l d (i + 1) (by omega)
  have hi : i < l.length := by omega
  rw [← ih, List.drop_eq_getElem_cons hi]
  have e : rd_T32 l i = l[i] := by
   unfold rd_T32
   rw [Int.toNat_natCast, List.getD_eq_getElem?_getD, List.getElem?_eq_getElem hi]
   rfl
  simp only [sqFrom, sqTo, lastOf, e, List.append_assoc]
theorem sqTo_all (l : List Cy) : sqTo l l.length = sqFrom zc l := by
 have := sqTo_from l l.length 0 (by omega)
 simpa [sqTo, lastOf] using this.symm
theorem str_back {xs : List Int} (h : ∀ x ∈ xs, 0 ≤ x ∧ x < 256) : (strOfNums xs).toList.map (fun b => (b.toNat : Int)) = xs := by
 rw [show (strOfNums xs).toList = xs.map (fun n => UInt8.ofNat n.toNat) by simp [strOfNums], List.map_map]
 conv => rhs; rw [← List.map_id xs]
 apply List.map_congr_left
 intro x hx
 have := h x hx
 simp
 omega
theorem bytes_eq {l m : List Int} (hl : ∀ x ∈ l, 0 ≤ x ∧ x < 256) (hm : ∀ x ∈ m, 0 ≤ x ∧ x < 256) : bytes_Equal.f l m = some (decide (l = m)) := by
 unfold bytes_Equal.f
 congr 1
 by_cases h : l = m
 ·subst h
  simp
 ·rw [decide_eq_false h]
  simp only [beq_eq_false_iff_ne, ne_eq]
  intro x
  exact h (by rw [← str_back hl, ← str_back hm, x])
end Go.Proofs.Ytnoelppkcbelcaa.MSH
