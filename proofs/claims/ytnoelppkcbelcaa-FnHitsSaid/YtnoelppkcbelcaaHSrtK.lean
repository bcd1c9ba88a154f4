/-
slices.Sort at []uint16: slices.Compact, impl.ascending.
-/
import Derived.Test.YtnoelppkcbelcaaHSrtJ
import Derived.IntWalk
import Derived.Below
import Derived.Test.YtnoelppkcbelcaaAscP
import Derived.Test.YtnoelppkcbelcaaCmpLay

set_option linter.unusedVariables false
set_option linter.unusedSimpArgs false
namespace Go.Proofs.Ytnoelppkcbelcaa.Srt
open Go.RowKit Go.Lib Go.Proofs.YtnoelppkcbelcaaW.PrintWords Go.Proofs.YtnoelppkcbelcaaW.PrintLast Go.Proofs.YtnoelppkcbelcaaW.PrintMore Go.Proofs.Ytnoelppkcbelcaa.MH
section
variable {w W : World} {g cap N : Nat} {cur : Array Value} {e : TypeId} {fin : Array Int} {M : List Int}
theorem at_row (hb : w.heap[g]? = some (.cells cur e (0, 0))) (hA : At w g 0 fin W) : W.heap[g]? = some (.cells (Sort.putCells E 0 fin cur) e (0, 0)) := by
  have hg : g < w.heap.size := (Array.getElem?_eq_some_iff.1 hb).1
  obtain ⟨n, os, rfl⟩ := hA
  rw [Sort.heap_grow_old _ _ (by rw [Sort.size_putRow]; exact hg)]
  simp [Sort.putRow, Sort.mapBlock, Array.getElem?_modify, hb, Sort.onCells]
theorem at_below (hN : N ≤ g) (hA : At w g 0 fin W) (hg : g < w.heap.size) : Below N w W := by
  obtain ⟨n, os, rfl⟩ := hA
  refine ⟨rfl, rfl, rfl, by rw [Sort.size_grow, Sort.size_putRow]; exact Nat.le_add_right _ _, fun k hk => ?_⟩
  rw [Sort.heap_grow_old _ _ (by rw [Sort.size_putRow]; show k < w.heap.size; omega)]
  show ((Sort.ahead w n).heap.modify g _)[k]? = _
  rw [Array.getElem?_modify, if_neg (by omega)]
  rfl
theorem at_own (hb : w.heap[g]? = some (.cells cur e (0, 0))) (hN : N ≤ g) (hA : At w g 0 fin W) (hM : M.length ≤ fin.size) (hfin : ∀ j, j < M.length → fin[j]! = M[j]!) (hc : cur.size = cap * 1) (hfc : fin.size ≤ cap) (hm : cap ≤ maxLen) :
    Kd.R (Kd.int .u16) e W N (fun _ => True) (.slice (some ⟨g, 0, none⟩) M.length cap) M := by
  refine Kd.R_of_own ⟨by simp [encs], .inr ⟨g, cap, _, rfl, hN, at_row hb hA, by omega, hm, by simp [Sort.putCells, hc], ?_⟩⟩ (fun _ _ => trivial)
  apply List.ext_getElem?
  intro j
  rw [List.getElem?_take]
  by_cases hj : j < M.length
  · rw [if_pos (by omega), encs_get (d := (0 : Int)) M j hj, Array.getElem?_toList]
    have h1 : j < cur.size := by omega
    simp only [Sort.putCells, Array.getElem?_mapIdx, Array.getElem?_eq_getElem h1, Option.map_some]
    rw [if_pos ⟨by omega, by omega⟩, Nat.sub_zero, hfin j hj, getElem!_pos M j hj, List.getD_eq_getElem?_getD, List.getElem?_eq_getElem hj]
    rfl
  · rw [if_neg (by omega), List.getElem?_eq_none (by rw [encs_length]; omega)]
end
set_option maxRecDepth 8000
theorem compact_calls (n g cap : Nat) (d : Array Int) (w : World) (hn : d.size = n) (hH : Sort.Holds E w g 0 d) (hcap : n ≤ cap) (hsz : n < 4611686018427387904) :
    Calls Try.prog 75 #[.slice (some ⟨g, 0, none⟩) n cap] w fun e w' => e = .returned (.slice (some ⟨g, 0, none⟩) (compactUpTo d n).length cap) ∧ Aside0 (∃ q, w' = Sort.putRow E (Sort.ahead w q) g 0 (compactUpTo d n ++ List.replicate (n - (compactUpTo d n).length) 0).toArray) := by
  subst hn
  have h := AnyE.slices_Compact Try.laysCompact (Value.int .u16) (fun _ => rfl) (EqlAt.intD _ _ _) (NeqAt.intD _ _ _) 0 Try.zeroValue30 g 0 cap d w hH (by omega) hcap
  exact h.mono fun e w' hh => ⟨hh.1, ⟨hh.2⟩⟩
theorem compact_nil (w : World) : Calls Try.prog 75 #[.slice none 0 0] w fun e w' => e = .returned (.slice none 0 0) ∧ w' = w := by
  go_enter Try.func75, Try.ntmps75
  go_wp2
  (try simp only [Exit.inBlock, Exit.then]); refine bodyPost_ret (results_tmp rfl _ _ _) rfl ?_
  exact ⟨rfl, rfl⟩
set_option maxHeartbeats 4000000 in
theorem asc_calls (N : Nat) (v : Value) (l : List Int) (w : World) (hR : Kd.R (Kd.int .u16) 30 w N (fun _ => True) v l) (hlen : l.length < 4611686018427387904) :
    Calls Try.prog 54 #[v] w fun e w' => ∃ (v' : Value) (M : List Int), e = .returned v' ∧ Aside0 (M.Pairwise (· < ·) ∧ (∀ x, x ∈ M ↔ x ∈ l)) ∧ Aside0 (Kd.R (Kd.int .u16) 30 w' N (fun _ => True) v' M) ∧ Aside0 (Below N w w') := by
  have ho := Kd.own_of_R hR
  rcases ho.2 with ⟨rfl, h0⟩ | ⟨g, cap, cur, rfl, hg, hh, hnc, hmax, hcs, htk⟩
  · have e : l = [] := List.eq_nil_of_length_eq_zero h0
    subst e
    clear ho hR h0
    go_enter Try.func54, Try.ntmps54
    go_wp2_with (first | (go_at_call 74; refine (sort_nil _).mono ?_; rintro e w1 ⟨rfl, rfl⟩) | (go_at_call 75; refine (compact_nil _).mono ?_; rintro e w1 ⟨rfl, rfl⟩))
    (try simp only [Exit.inBlock, Exit.then]); refine bodyPost_ret (results_tmp rfl _ _ _) rfl ?_
    exact ⟨_, [], rfl, ⟨List.Pairwise.nil, fun x => Iff.rfl⟩, ⟨Kd.R_nil _ _ _ _ _⟩, ⟨Below.refl _ _⟩⟩
  · have hlt : g < w.heap.size := (Array.getElem?_eq_some_iff.1 hh).1
    have hH : Sort.Holds E w g 0 l.toArray := by
      intro j hj
      have hj' : j < l.length := by simpa using hj
      have := Kd.R_cell (0 : Int) hR (j : Int) (by omega) (by omega)
      rw [Int.toNat_natCast] at this
      rw [Nat.zero_add, this.1]
      refine ⟨?_, this.2⟩
      rw [getElem!_pos l.toArray j hj]
      simp [rdOf, hj']
    have hc := sort_calls l.length g 0 cap l.toArray w (by simp) hH hlt (by omega)
    have HK := Aside0.mk (And.intro hh (And.intro hcs (And.intro hH hmax)))
    clear ho hR hcs htk hH hh
    go_enter Try.func54, Try.ntmps54
    go_upto_region 2 with (go_at_call 74; refine hc.mono ?_; rintro e w1 ⟨rfl, H1⟩)
    have HD : Aside0 (∃ d' : Array Int, d'.size = l.length ∧ (Sort.Holds E w1 g 0 d' ∧ (compactUpTo d' l.length).Pairwise (· < ·) ∧ (∀ x, x ∈ compactUpTo d' l.length ↔ x ∈ l) ∧ (compactUpTo d' l.length).length ≤ l.length) ∧ At w g 0 d' w1) := by
      obtain ⟨d', p, s, h⟩ := H1.out
      obtain ⟨a1, a2, a3⟩ := asc_list (by simp) p s
      exact ⟨⟨d', by rw [p.1]; simp, ⟨(h.holds HK.out.2.2.1 p.1 hlt).1, a1, fun x => (a2 x).trans (by simp), a3⟩, h⟩⟩
    obtain ⟨d', hs, HE, hat⟩ := HD.out
    have hk := compact_calls l.length g cap d' w1 hs HE.1 hnc (by omega)
    have HE := Aside0.mk HE
    have HA := Aside0.mk hat
    clear HD H1 hc hat
    go_wp2_with (go_at_call 75; refine hk.mono ?_; rintro e w2 ⟨rfl, H2⟩)
    (try simp only [Exit.inBlock, Exit.then]); refine bodyPost_ret (results_tmp rfl _ _ _) rfl ?_
    obtain ⟨h1, h2, h3, h4⟩ := HE.out
    obtain ⟨q, hq⟩ := H2.out
    obtain ⟨k1, k2, k3, k4⟩ := HK.out
    have hfs : (compactUpTo d' l.length ++ List.replicate (l.length - (compactUpTo d' l.length).length) (0 : Int)).toArray.size = l.length := by
      simp
      omega
    have hat : At w g 0 (compactUpTo d' l.length ++ List.replicate (l.length - (compactUpTo d' l.length).length) (0 : Int)).toArray w2 := HA.out.step hlt (by rw [hfs, hs]) ⟨q, hq⟩
    refine ⟨_, compactUpTo d' l.length, rfl, ⟨h2, h3⟩, ⟨at_own k1 hg hat (by rw [hfs]; exact h4) (fun j hj => ?_) k2 (by rw [hfs]; exact hnc) k4⟩, ⟨at_below hg hat hlt⟩⟩
    rw [getElem!_pos _ j (by rw [hfs]; omega), getElem!_pos _ j hj]
    simp [List.getElem_append_left hj]
end Go.Proofs.Ytnoelppkcbelcaa.Srt
