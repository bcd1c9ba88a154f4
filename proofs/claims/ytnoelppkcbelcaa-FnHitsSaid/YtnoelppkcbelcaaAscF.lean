/-
The numbers below 65536 that a list holds, ascending.
-/
import Derived.Test.YtnoelppkcbelcaaAscP
set_option linter.unusedVariables false
namespace Go.Proofs.Ytnoelppkcbelcaa
namespace AscF
open Go.Proofs.Ytnoelppkcbelcaa.Srt
def asc (l : List Int) : List Int := ((List.range 65536).map (fun i : Nat => (i : Int))).filter (fun x => decide (x ∈ l))
def small (l : List Int) : Bool := l.all (fun x => decide (0 ≤ x) && decide (x < 65536))
theorem range_up (n : Nat) : ((List.range n).map (fun i : Nat => (i : Int))).Pairwise (· < ·) := by
  rw [List.pairwise_map]
  exact List.pairwise_lt_range.imp (fun h => by omega)
theorem mem_asc (l : List Int) (x : Int) : x ∈ asc l ↔ (0 ≤ x ∧ x < 65536) ∧ x ∈ l := by
  unfold asc
  rw [List.mem_filter, List.mem_map, decide_eq_true_iff]
  constructor
  · rintro ⟨⟨i, hi, rfl⟩, h⟩
    have := List.mem_range.1 hi
    exact ⟨⟨by omega, by omega⟩, h⟩
  · rintro ⟨⟨h0, h1⟩, h⟩
    exact ⟨⟨x.toNat, List.mem_range.2 (by omega), by omega⟩, h⟩
theorem asc_up (l : List Int) : (asc l).Pairwise (· < ·) := (range_up 65536).filter _
theorem asc_eq {l m : List Int} (hs : small l = true) (hu : m.Pairwise (· < ·)) (hm : ∀ x, x ∈ m ↔ x ∈ l) : m = asc l := by
  refine asc_one hu (asc_up l) fun x => ?_
  rw [hm, mem_asc]
  constructor
  · intro h
    have := List.all_eq_true.1 hs x h
    simp at this
    exact ⟨this, h⟩
  · exact fun h => h.2
end AscF
end Go.Proofs.Ytnoelppkcbelcaa
