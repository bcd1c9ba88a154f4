/-
Plain facts on lists and loops: a list that is written from the front, a loop that counts up. No program in sight.
-/
import Derived.Test.YtnoelppkcbelcaaWAll
import Derived.RowKit
set_option linter.unusedSimpArgs false
set_option linter.unusedVariables false
namespace Go.Proofs.Ytnoelppkcbelcaa.Lst
open Go.RowKit Go.Proofs.YtnoelppkcbelcaaW.PrintWords

theorem wrap_in {i : Int} (h0 : -9223372036854775808 ≤ i) (h1 : i ≤ 9223372036854775807) : wrap64 i = i := by
  unfold wrap64
  omega
theorem w1 {i : Nat} (h : i < 9223372036854775807) : wrap64 ((i : Int) + 1) = ((i + 1 : Nat) : Int) := by
  unfold wrap64
  omega

/-- A loop that counts up to n. -/
theorem ev_up {α : Type} {r : α} (n : Nat) (g : Nat → Nat → Option α) (hend : Ev (fun k => g k n) r) (hstep : ∀ i, i < n → Ev (fun k => g k (i + 1)) r → Ev (fun k => g k i) r) :
    ∀ d i, i + d = n → Ev (fun k => g k i) r
  | 0, i, h => by
    obtain rfl : i = n := by omega
    exact hend
  | d + 1, i, h => hstep i (by omega) (ev_up n g hend hstep d (i + 1) (by omega))
/-- .. each of whose rounds is one step. -/
theorem ev_for {α : Type} {r : α} (n : Nat) (g : Nat → Nat → Option α) (hend : ∀ k, g (k + 1) n = some r) (hstep : ∀ i, i < n → ∀ k, g (k + 1) i = g k (i + 1)) : Ev (fun k => g k 0) r :=
  ev_up n g (Ev.step hend (Ev.now r)) (fun i hi h => Ev.step (hstep i hi) h) n 0 (by omega)

/-- A list that is written from the front, up to i. -/
def run {α : Type} (f : Nat → α) (base : List α) (i : Nat) : List α := (List.range i).map f ++ base.drop i
theorem run_zero {α : Type} (f : Nat → α) (base : List α) : run f base 0 = base := by simp [run]
theorem run_length {α : Type} (f : Nat → α) (base : List α) {i : Nat} (h : i ≤ base.length) : (run f base i).length = base.length := by
  simp [run]
  omega
theorem run_full {α : Type} (f : Nat → α) (base : List α) : run f base base.length = (List.range base.length).map f := by simp [run]
theorem run_set {α : Type} (f : Nat → α) (base : List α) {i : Nat} (h : i < base.length) : (run f base i).set i (f i) = run f base (i + 1) := by
  unfold run
  rw [List.set_append_right _ _ (by simp), List.range_succ, List.map_append, List.append_assoc]
  congr 1
  rw [List.length_map, List.length_range, Nat.sub_self, List.drop_eq_getElem_cons h]
  rfl
theorem run_getD_lo {α : Type} (f : Nat → α) (base : List α) (d : α) {i j : Nat} (h : j < i) : (run f base i).getD j d = f j := by
  unfold run
  rw [List.getD_eq_getElem?_getD, List.getElem?_append_left (by simpa using h)]
  simp [h]
theorem run_getD_hi {α : Type} (f : Nat → α) (base : List α) (d : α) {i j : Nat} (h : i ≤ j) : (run f base i).getD j d = base.getD j d := by
  unfold run
  rw [List.getD_eq_getElem?_getD, List.getElem?_append_right (by simpa using h), List.getD_eq_getElem?_getD, List.getElem?_drop]
  congr 2
  simp
  omega
theorem getD_set_self {α : Type} (l : List α) (d v : α) {i : Nat} (h : i < l.length) : (l.set i v).getD i d = v := by
  simp [List.getD_eq_getElem?_getD, h]
theorem lgetD_ne {α : Type} (l : List α) (d v : α) {i j : Nat} (h : i ≠ j) : (l.set i v).getD j d = l.getD j d := by
  simp [List.getD_eq_getElem?_getD, h]
theorem map_range_getD {α β : Type} (l : List α) (d : α) (f : α → β) : (List.range l.length).map (fun j => f (l.getD j d)) = l.map f := by
  apply List.ext_getElem (by simp)
  intro i h1 h2
  simp at h1 h2
  simp [h1]
theorem map_range_self {α : Type} (l : List α) (d : α) : (List.range l.length).map (fun j => l.getD j d) = l := by
  have := map_range_getD l d id
  simpa using this
theorem filter_range_succ (p : Nat → Bool) (i : Nat) : (List.range (i + 1)).filter p = (List.range i).filter p ++ if p i then [i] else [] := by
  rw [List.range_succ, List.filter_append]
  congr 1
  by_cases h : p i <;> simp [h]
theorem filter_range_le (p : Nat → Bool) (i : Nat) : ((List.range i).filter p).length ≤ i := by
  have := List.length_filter_le p (List.range i)
  simpa using this
theorem cast_range {i : Nat} : ((i : Nat) : Int).toNat = i := Int.toNat_natCast i
end Go.Proofs.Ytnoelppkcbelcaa.Lst
