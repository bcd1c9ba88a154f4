/-
Sorted, then each once: a list strictly ascending with the same members.
-/
import Derived.Sort.AssemblyPlain
import Derived.Lib.SlicesCompact
set_option linter.unusedVariables false
namespace Go.Proofs.Ytnoelppkcbelcaa.Srt
open Go Go.Lib
theorem uniq_mem (d : Array Int) (x : Int) : ∀ m, x ∈ compactUpTo d m ↔ ∃ j, j < m ∧ d[j]! = x
  | 0 => by simp [compactUpTo]
  | m + 1 => by
    rw [compactUpTo_succ, List.mem_append, uniq_mem d x m]
    by_cases h : m = 0 ∨ d[m]! ≠ d[m - 1]!
    · have hk : keeps d m = true := by simp [keeps, h]
      rw [hk, if_pos rfl, List.mem_singleton]
      constructor
      · rintro (⟨j, hj, e⟩ | e)
        · exact ⟨j, by omega, e⟩
        · exact ⟨m, by omega, e.symm⟩
      · rintro ⟨j, hj, e⟩
        rcases Nat.lt_or_ge j m with h1 | h1
        · exact .inl ⟨j, h1, e⟩
        · exact .inr (by rw [← e, show j = m by omega])
    · have hm : 0 < m := by omega
      have he : d[m]! = d[m - 1]! := by
        by_cases e : d[m]! = d[m - 1]!
        · exact e
        · exact absurd (.inr e) h
      rw [keeps_neg hm he, if_neg (by decide)]
      constructor
      · rintro (⟨j, hj, e⟩ | e)
        · exact ⟨j, by omega, e⟩
        · simp at e
      · rintro ⟨j, hj, e⟩
        rcases Nat.lt_or_ge j m with h1 | h1
        · exact .inl ⟨j, h1, e⟩
        · exact .inl ⟨m - 1, by omega, by rw [← he, ← e, show j = m by omega]⟩
theorem sorted_le {d : Array Int} {n : Nat} (h : Sort.SortedIn Sort.ltInt 0 n d) (i j : Nat) (hij : i ≤ j) (hj : j < n) : d[i]! ≤ d[j]! := by
  rcases Nat.eq_or_lt_of_le hij with e | e
  · rw [e]
    exact Int.le_refl _
  · have := h i j (Nat.zero_le _) e hj
    simp only [Sort.ltInt, decide_eq_false_iff_not] at this
    omega
theorem uniq_up {d : Array Int} {n : Nat} (h : Sort.SortedIn Sort.ltInt 0 n d) : ∀ m, m ≤ n → (compactUpTo d m).Pairwise (· < ·)
  | 0, _ => by simp [compactUpTo]
  | m + 1, hm => by
    rw [compactUpTo_succ]
    by_cases hk : keeps d m = true
    · rw [hk, if_pos rfl, List.pairwise_append]
      refine ⟨uniq_up h m (by omega), List.pairwise_singleton _ _, fun x hx y hy => ?_⟩
      rw [List.mem_singleton] at hy
      subst hy
      obtain ⟨j, hj, rfl⟩ := (uniq_mem d x m).1 hx
      have h1 := sorted_le h j (m - 1) (by omega) (by omega)
      have h2 := sorted_le h (m - 1) m (by omega) (by omega)
      have h3 : d[m]! ≠ d[m - 1]! := by
        have := of_decide_eq_true hk
        rcases this with e | e
        · omega
        · exact e
      omega
    · rw [Bool.not_eq_true] at hk
      rw [hk, if_neg (by decide), List.append_nil]
      exact uniq_up h m (by omega)
theorem mem_get (d : Array Int) (n : Nat) (hn : d.size = n) (x : Int) : (∃ j, j < n ∧ d[j]! = x) ↔ x ∈ d.toList := by
  subst hn
  constructor
  · rintro ⟨j, hj, rfl⟩
    rw [getElem!_pos d j hj]
    exact Array.mem_toList_iff.2 (Array.getElem_mem hj)
  · intro h
    obtain ⟨j, hj, e⟩ := Array.getElem_of_mem (Array.mem_toList_iff.1 h)
    exact ⟨j, hj, by rw [getElem!_pos d j hj]; exact e⟩
/-- What slices.Sort and slices.Compact leave of d. -/
theorem asc_list {d d' : Array Int} {n : Nat} (hn : d.size = n) (hp : Sort.PermIn 0 n d d') (hs : Sort.SortedIn Sort.ltInt 0 n d') :
    (compactUpTo d' n).Pairwise (· < ·) ∧ (∀ x, x ∈ compactUpTo d' n ↔ x ∈ d.toList) ∧ (compactUpTo d' n).length ≤ n := by
  refine ⟨uniq_up hs n (Nat.le_refl _), fun x => ?_, ?_⟩
  · rw [uniq_mem, mem_get d' n (by rw [hp.1]; exact hn)]
    have h := hp.2.2
    have e1 : d'.extract 0 n = d' := by
      rw [show n = d'.size by rw [hp.1]; exact hn.symm]
      simp
    have e2 : d.extract 0 n = d := by
      rw [← hn]
      simp
    rw [e1, e2] at h
    exact h.mem_iff
  · unfold compactUpTo
    rw [List.length_map]
    exact Nat.le_trans (List.length_filter_le _ _) (by simp)
/-- Two strictly ascending lists with the same members are one. -/
theorem asc_one : ∀ {l m : List Int}, l.Pairwise (· < ·) → m.Pairwise (· < ·) → (∀ x, x ∈ l ↔ x ∈ m) → l = m
  | [], [], _, _, _ => rfl
  | [], b :: m, _, _, h => absurd ((h b).2 List.mem_cons_self) (by simp)
  | a :: l, [], _, _, h => absurd ((h a).1 List.mem_cons_self) (by simp)
  | a :: l, b :: m, hl, hm, h => by
    rw [List.pairwise_cons] at hl hm
    have ab : a = b := by
      rcases List.mem_cons.1 ((h a).1 List.mem_cons_self) with e | e
      · exact e
      · rcases List.mem_cons.1 ((h b).2 List.mem_cons_self) with e2 | e2
        · exact e2.symm
        · have h1 := hm.1 a e
          have h2 := hl.1 b e2
          omega
    subst ab
    congr 1
    refine asc_one hl.2 hm.2 fun x => ?_
    constructor
    · intro hx
      rcases List.mem_cons.1 ((h x).1 (List.mem_cons_of_mem _ hx)) with e | e
      · have := hl.1 x hx
        omega
      · exact e
    · intro hx
      rcases List.mem_cons.1 ((h x).2 (List.mem_cons_of_mem _ hx)) with e | e
      · have := hm.1 x hx
        omega
      · exact e
end Go.Proofs.Ytnoelppkcbelcaa.Srt
