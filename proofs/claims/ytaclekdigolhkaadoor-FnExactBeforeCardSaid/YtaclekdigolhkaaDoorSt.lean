/-
What a walk has made of memory: every old block that is not in S is as it was, and these blocks hold these cells.
-/
import Derived.Below
import Derived.Laws.Tables
import Derived.Test.YtaclekdigolhkaaDoorWAll
set_option linter.unusedVariables false
set_option linter.unusedSimpArgs false
namespace Go.Proofs.YtaclekdigolhkaaDoor
open Go.RowKit Go.Proofs.YtaclekdigolhkaaDoorW.PrintWords Go.Proofs.YtaclekdigolhkaaDoorW.PrintLast Go.Proofs.YtaclekdigolhkaaDoorW.PrintMore
abbrev Bl := Nat × TypeId × Array Value
structure St (w : World) (S : List Nat) (W : World) (L : List Bl) : Prop where
  os : W.os = w.os
  tape : W.tape = w.tape
  output : W.output = w.output
  size : w.heap.size ≤ W.heap.size
  kept : ∀ i, i < w.heap.size → i ∉ S → W.heap[i]? = w.heap[i]?
  blks : ∀ x ∈ L, W.heap[x.1]? = some (.cells x.2.2 x.2.1 (0, 0))
  own : ∀ x ∈ L, x.1 ∈ S ∨ w.heap.size ≤ x.1
  nd : (L.map (·.1)).Nodup
/-- What a call has made of the block g, that it was handed: all else of old is as it was. -/
structure Mod (w : World) (g : Nat) (w' : World) (t : TypeId) (cs : Array Value) : Prop where
  os : w'.os = w.os
  tape : w'.tape = w.tape
  output : w'.output = w.output
  size : w.heap.size ≤ w'.heap.size
  kept : ∀ i, i < w.heap.size → i ≠ g → w'.heap[i]? = w.heap[i]?
  blk : w'.heap[g]? = some (.cells cs t (0, 0))
/-- A struct's value stored into a block: all its cells, one behind the other. -/
def fillW (W : World) (g : Nat) : Nat → List Value → World
  | _, [] => W
  | i, u :: us => fillW (W.setCell ⟨g, i, none⟩ u) g (i + 1) us
def fillC (cs : Array Value) : Nat → List Value → Array Value
  | _, [] => cs
  | i, u :: us => fillC (cs.setIfInBounds i u) (i + 1) us
theorem fillC_list : ∀ (us : List Value) (cs : Array Value) (i : Nat), i + us.length = cs.size → (fillC cs i us).toList = cs.toList.take i ++ us
  | [], cs, i, h => by
    simp only [List.length_nil] at h
    simp only [fillC, List.append_nil]
    rw [List.take_of_length_le (by simp; omega)]
  | u :: us, cs, i, h => by
    simp only [List.length_cons] at h
    rw [fillC, fillC_list us _ (i + 1) (by simp; omega)]
    have hi : i < cs.toList.length := by simp; omega
    rw [Array.toList_setIfInBounds, List.take_set, List.take_succ_eq_append_getElem hi, List.set_append]
    have h3 : ¬ i < (List.take i cs.toList).length := by rw [List.length_take]; omega
    rw [if_neg h3, List.length_take, Nat.min_eq_left (by omega), Nat.sub_self, List.set_cons_zero]
    simp
theorem fillC_all (cs : Array Value) (us : List Value) (h : us.length = cs.size) : fillC cs 0 us = us.toArray := by
  apply Array.ext'
  rw [fillC_list us cs 0 (by omega)]
  simp
theorem fillW_same : ∀ (us : List Value) (W : World) (g i : Nat), (fillW W g i us).os = W.os ∧ (fillW W g i us).tape = W.tape ∧ (fillW W g i us).output = W.output ∧ W.heap.size ≤ (fillW W g i us).heap.size ∧ (∀ j, j ≠ g → (fillW W g i us).heap[j]? = W.heap[j]?)
  | [], W, g, i => ⟨rfl, rfl, rfl, Nat.le_refl _, fun _ _ => rfl⟩
  | u :: us, W, g, i => by
    obtain ⟨h1, h2, h3, h4, h5⟩ := fillW_same us (W.setCell ⟨g, i, none⟩ u) g (i + 1)
    exact ⟨h1, h2, h3, Nat.le_trans (by simp [World.setCell]) h4, fun j hj => (h5 j hj).trans (Below.heap_setCell W ⟨g, i, none⟩ u j hj)⟩
theorem fillW_blk : ∀ (us : List Value) {W : World} {g : Nat} {t : TypeId} {cs : Array Value} (i : Nat), W.heap[g]? = some (.cells cs t (0, 0)) → (fillW W g i us).heap[g]? = some (.cells (fillC cs i us) t (0, 0))
  | [], _, _, _, _, _, h => h
  | u :: us, _, _, _, _, i, h => fillW_blk us (i + 1) (blk_set h i u)
namespace St
variable {w W W2 : World} {S : List Nat} {L L' : List Bl} {g i k : Nat} {t : TypeId} {cs : Array Value}
theorem start (w : World) (S : List Nat) : St w S w [] := ⟨rfl, rfl, rfl, Nat.le_refl _, fun _ _ _ => rfl, fun _ h => absurd h (by simp), fun _ h => absurd h (by simp), by simp⟩
theorem start1 (h : w.heap[g]? = some (.cells cs t (0, 0))) : St w [g] w [(g, t, cs)] := ⟨rfl, rfl, rfl, Nat.le_refl _, fun _ _ _ => rfl, fun x hx => by obtain rfl := List.mem_singleton.1 hx; exact h, fun x hx => by obtain rfl := List.mem_singleton.1 hx; left; simp, by simp⟩
theorem below (h : St w S W L) (hb : Below W.heap.size W W2) : St w S W2 L :=
  ⟨hb.os.trans h.os, hb.tape.trans h.tape, hb.output.trans h.output, Nat.le_trans h.size hb.size, fun i hi hn => (hb.block i (Nat.lt_of_lt_of_le hi h.size)).trans (h.kept i hi hn), fun x hx => (hb.block _ (blk_lt (h.blks x hx))).trans (h.blks x hx), h.own, h.nd⟩
theorem drew (h : St w S W L) : St w S W.drew L := ⟨h.os, h.tape, h.output, h.size, h.kept, h.blks, h.own, h.nd⟩
theorem drewN (h : St w S W L) (n : Nat) : St w S (W.drewN n) L := ⟨h.os, h.tape, h.output, h.size, h.kept, h.blks, h.own, h.nd⟩
theorem alloc (h : St w S W L) (o : Obj) : St w S (W.alloc o) L := h.below (below_alloc (Below.refl _ _) o)
theorem to_below (h : St w [] W L) : Below w.heap.size w W := ⟨h.os, h.tape, h.output, h.size, fun i hi => h.kept i hi (by simp)⟩
theorem add (h : St w S W L) (hg : W.heap.size ≤ g) (hx : W2.heap[g]? = some (.cells cs t (0, 0))) (hb : Below W.heap.size W W2) : St w S W2 ((g, t, cs) :: L) := by
  have h2 := h.below hb
  refine ⟨h2.os, h2.tape, h2.output, h2.size, h2.kept, ?_, ?_, ?_⟩
  · intro x hx2
    rcases List.mem_cons.1 hx2 with rfl | h3
    · exact hx
    · exact h2.blks x h3
  · intro x hx2
    rcases List.mem_cons.1 hx2 with rfl | h3
    · right; exact Nat.le_trans h.size hg
    · exact h2.own x h3
  · rw [List.map_cons, List.nodup_cons]
    refine ⟨fun hm => ?_, h.nd⟩
    obtain ⟨x, hx2, he⟩ := List.mem_map.1 hm
    have h4 := blk_lt (h.blks x hx2)
    have h5 : x.1 = g := he
    omega
theorem new (h : St w S W L) (hg : g = W.heap.size) (hx : W2.heap[g]? = some (.cells cs t (0, 0))) (hb : Below W.heap.size W W2) : St w S W2 ((g, t, cs) :: L) := h.add (Nat.le_of_eq hg.symm) hx hb
theorem below_row {B : Nat} {a W : World} (h : Below B a W) {q : Nat} (hq : B ≤ q) (us : Array Value) : Below B a (W.setRow q us) :=
  ⟨h.os, h.tape, h.output, by have := h.size; simpa [World.setRow] using this, fun i hi => by
    have e : (W.setRow q us).heap[i]? = W.heap[i]? := by simp only [World.setRow, Array.getElem?_modify]; rw [if_neg (by omega)]
    exact e.trans (h.block i hi)⟩
theorem at_ (h : St w S W L) (k : Nat) (hk : L[k]? = some (g, t, cs)) : W.heap[g]? = some (.cells cs t (0, 0)) := h.blks (g, t, cs) (List.mem_of_getElem? hk)
theorem cell (h : St w S W L) (k i : Nat) {v : Value} (hk : L[k]? = some (g, t, cs)) (hv : cs[i]? = some v) : W.cell? ⟨g, i, none⟩ = some v := (blk_cell (h.at_ k hk) i).trans hv
theorem froz (h : St w S W L) (k i : Nat) (hk : L[k]? = some (g, t, cs)) : W.frozen? ⟨g, i, none⟩ = false := blk_frozen (h.at_ k hk) i
theorem ne (h : St w S W L) {j k : Nat} {a b : Bl} (hj : L[j]? = some a) (hk : L[k]? = some b) (hjk : j ≠ k) : a.1 ≠ b.1 := by
  intro he
  have h1 : (L.map (·.1))[j]? = some a.1 := by rw [List.getElem?_map, hj]; rfl
  have h2 : (L.map (·.1))[k]? = some b.1 := by rw [List.getElem?_map, hk]; rfl
  have hl : j < (L.map (·.1)).length := (List.getElem?_eq_some_iff.1 h1).1
  have := (List.getElem?_inj hl h.nd).1 (h1.trans ((congrArg some he).trans h2.symm))
  exact hjk this
/-- Whatever turns the k-th block alone. -/
theorem turn (h : St w S W L) (k : Nat) (hk : L[k]? = some (g, t, cs)) {cs' : Array Value} (ho : W2.os = W.os) (ht : W2.tape = W.tape) (hp : W2.output = W.output) (hs : W.heap.size ≤ W2.heap.size)
    (hkp : ∀ i, i < W.heap.size → i ≠ g → W2.heap[i]? = W.heap[i]?) (hb : W2.heap[g]? = some (.cells cs' t (0, 0))) (hL : L.set k (g, t, cs') = L') : St w S W2 L' := by
  subst hL
  have hm := List.mem_of_getElem? hk
  refine ⟨ho.trans h.os, ht.trans h.tape, hp.trans h.output, Nat.le_trans h.size hs, ?_, ?_, ?_, ?_⟩
  · intro i hi hn
    by_cases hig : i = g
    · subst hig
      rcases h.own _ hm with h1 | h1
      · exact absurd h1 hn
      · exact absurd hi (Nat.not_lt.2 h1)
    · exact (hkp i (Nat.lt_of_lt_of_le hi h.size) hig).trans (h.kept i hi hn)
  · intro x hx
    obtain ⟨j, hj, he⟩ := List.mem_iff_getElem.1 hx
    have hj2 : (L.set k (g, t, cs'))[j]? = some x := by rw [List.getElem?_eq_getElem hj, he]
    by_cases hjk : j = k
    · subst hjk
      have hl : j < L.length := (List.getElem?_eq_some_iff.1 hk).1
      rw [List.getElem?_set_self hl] at hj2
      obtain rfl := Option.some.inj hj2
      exact hb
    · rw [List.getElem?_set_ne (Ne.symm hjk)] at hj2
      have hne : x.1 ≠ g := h.ne hj2 hk hjk
      have h1 := h.blks x (List.mem_of_getElem? hj2)
      exact (hkp _ (blk_lt h1) hne).trans h1
  · intro x hx
    rcases List.mem_or_eq_of_mem_set hx with h1 | rfl
    · exact h.own x h1
    · exact h.own (g, t, cs) hm
  · have : (L.set k (g, t, cs')).map (·.1) = L.map (·.1) := by
      rw [List.map_set]
      apply List.ext_getElem?
      intro j
      by_cases hjk : j = k
      · subst hjk
        have hl : j < L.length := (List.getElem?_eq_some_iff.1 hk).1
        rw [List.getElem?_set_self (by simpa using hl), List.getElem?_map, hk]
        rfl
      · rw [List.getElem?_set_ne (Ne.symm hjk)]
    rw [this]
    exact h.nd
theorem put (h : St w S W L) (k : Nat) (hk : L[k]? = some (g, t, cs)) (i : Nat) (u : Value) {cs' : Array Value} (hc : cs.setIfInBounds i u = cs') (hL : L.set k (g, t, cs') = L') : St w S (W.setCell ⟨g, i, none⟩ u) L' :=
  h.turn k hk rfl rfl rfl (by simp [World.setCell]) (fun j _ hj => Below.heap_setCell W ⟨g, i, none⟩ u j hj) (blk_put (h.at_ k hk) i u hc) hL
theorem mod (h : St w S W L) (k : Nat) (hk : L[k]? = some (g, t, cs)) {cs' : Array Value} (hm : Mod W g W2 t cs') (hL : L.set k (g, t, cs') = L') : St w S W2 L' :=
  h.turn k hk hm.os hm.tape hm.output hm.size hm.kept hm.blk hL
theorem to_mod (h : St w [g] W L) (k : Nat) (hk : L[k]? = some (g, t, cs)) : Mod w g W t cs :=
  ⟨h.os, h.tape, h.output, h.size, fun i hi hn => h.kept i hi (by simpa using hn), h.at_ k hk⟩
theorem fill (h : St w S W L) (k : Nat) (hk : L[k]? = some (g, t, cs)) (us : List Value) (hs : us.length = cs.size) (hL : L.set k (g, t, us.toArray) = L') : St w S (fillW W g 0 us) L' := by
  obtain ⟨h1, h2, h3, h4, h5⟩ := fillW_same us W g 0
  refine h.turn k hk h1 h2 h3 h4 (fun i _ hn => h5 i hn) ?_ hL
  rw [← fillC_all cs us hs]
  exact fillW_blk us 0 (h.at_ k hk)
/-- A struct's value stored whole. -/
theorem row (h : St w S W L) (k : Nat) (hk : L[k]? = some (g, t, cs)) (us : Array Value) (hL : L.set k (g, t, us) = L') : St w S (W.setRow g us) L' :=
  h.turn k hk rfl rfl rfl (by simp [World.setRow]) (fun i _ hn => by simp only [World.setRow, Array.getElem?_modify]; rw [if_neg (Ne.symm hn)]) (setRow_heap W g cs us t (0, 0) (h.at_ k hk)) hL
/-- The blocks are told anew: one that is equal. -/
theorem as_ (h : St w S W L) (e : L = L') : St w S W L' := e ▸ h
/-- A cell of old, that no block of S holds. -/
theorem old (h : St w S W L) {a : Addr} {v : Value} (hc : w.cell? a = some v) (hn : a.block ∉ S) : W.cell? a = some v := by
  have := h.kept a.block (World.block_lt_of_cell? w a hc) hn
  simpa [World.cell?, this] using hc
end St
end Go.Proofs.YtaclekdigolhkaaDoor
