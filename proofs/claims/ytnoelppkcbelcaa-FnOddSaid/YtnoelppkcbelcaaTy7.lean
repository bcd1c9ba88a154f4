/-
Memory: new blocks, cells written, rows.
-/
import Derived.Test.YtnoelppkcbelcaaTy6
import Derived.Laws.Append
import Derived.Laws.IdiomCopy
set_option linter.unusedVariables false
set_option linter.unusedSimpArgs false
namespace Go.Proofs.Ytnoelppkcbelcaa.Ty
open Go Go.RowKit

def CT.sv : CT → SV
  | .bool => .bool none [] []
  | .int k lo hi => .int k lo hi none
  | .str => .str
theorem CT.sv_ok {E : Env} {c : CT} {v : Value} (h : hasCT c v) : hasSV E c.sv v := by
  cases c with
  | bool => obtain ⟨b, rfl⟩ := h; exact ⟨b, rfl, fun c hc => (by cases hc), fun _ f hf => absurd hf (by simp), fun _ f hf => absurd hf (by simp)⟩
  | int k lo hi => obtain ⟨n, rfl, h1, h2⟩ := h; exact ⟨n, rfl, h1, h2, fun s d hs => (by cases hs)⟩
  | str => exact h
theorem CT.one {c : CT} {v : Value} (h : hasCT c v) : v.oneCell' = true := by
  cases c with
  | bool => obtain ⟨b, rfl⟩ := h; rfl
  | int k lo hi => obtain ⟨n, rfl, _⟩ := h; rfl
  | str => obtain ⟨n, rfl⟩ := h; rfl
def leCT : SV → CT → Bool
  | .bool _ _ _, .bool => true
  | .int k lo hi _, .int k' lo' hi' => decide (k = k') && (decide (lo' ≤ lo) && decide (hi ≤ hi'))
  | .str, .str => true
  | _, _ => false
theorem leCT_ok {E : Env} {s : SV} {c : CT} (h : leCT s c = true) {v : Value} (hv : hasSV E s v) : hasCT c v := by
  cases s <;> cases c <;> first | (simp [leCT] at h; done) | skip
  · obtain ⟨b, rfl, _⟩ := hv; exact ⟨b, rfl⟩
  · simp only [leCT, Bool.and_eq_true, decide_eq_true_eq] at h
    obtain ⟨rfl, h1, h2⟩ := h
    obtain ⟨n, rfl, h3, h4, _⟩ := hv
    exact ⟨n, rfl, by omega, by omega⟩
  · exact hv
/-- The cells of a row from a place on, as its element says. -/
def Pat (cts : List CT) (o : Nat) (us : List Value) : Prop := ∀ i v, us[i]? = some v → ∃ c, cts[(o + i) % cts.length]? = some c ∧ hasCT c v
theorem Pat.one {cts : List CT} {o : Nat} {us : List Value} (h : Pat cts o us) : ∀ v ∈ us, v.oneCell' = true := by
  intro v hv
  obtain ⟨i, hi, rfl⟩ := List.mem_iff_getElem.1 hv
  obtain ⟨c, _, h2⟩ := h i us[i] (List.getElem?_eq_getElem hi)
  exact CT.one h2
theorem setV_length : ∀ (us vs : List Value) (o : Nat), (setV vs o us).length = vs.length
  | [], _, _ => rfl
  | u :: us, vs, o => by rw [setV, setV_length us, List.length_set]
theorem setV_lt : ∀ (us vs : List Value) (o i : Nat), i < o → (setV vs o us)[i]? = vs[i]?
  | [], _, _, _, _ => rfl
  | u :: us, vs, o, i, h => by rw [setV, setV_lt us _ _ _ (by omega), List.getElem?_set_ne (by omega)]
theorem setV_ge : ∀ (us vs : List Value) (o i : Nat), o + us.length ≤ i → (setV vs o us)[i]? = vs[i]?
  | [], _, _, _, _ => rfl
  | u :: us, vs, o, i, h => by
    rw [List.length_cons] at h
    rw [setV, setV_ge us _ _ _ (by omega), List.getElem?_set_ne (by omega)]
theorem setV_in : ∀ (us vs : List Value) (o i : Nat), o + us.length ≤ vs.length → o ≤ i → i < o + us.length → (setV vs o us)[i]? = us[i - o]?
  | [], _, _, _, _, _, h => by simp at h; omega
  | u :: us, vs, o, i, h, h0, h1 => by
    rw [List.length_cons] at h h1
    rw [setV]
    by_cases hi : i = o
    · subst hi
      rw [setV_lt us _ _ _ (by omega), List.getElem?_set_self (by omega), Nat.sub_self]
      rfl
    · rw [setV_in us _ _ _ (by rw [List.length_set]; omega) (by omega) (by omega), show i - o = (i - (o + 1)) + 1 by omega]
      rfl
/-- Memory as it was, but for one block's cells. -/
structure Upd (g : Nat) (w w' : World) : Prop where
  os : w'.os = w.os
  tape : w'.tape = w.tape
  output : w'.output = w.output
  size : w'.heap.size = w.heap.size
  other : ∀ k, k ≠ g → w'.heap[k]? = w.heap[k]?
theorem Upd.refl (g : Nat) (w : World) : Upd g w w := ⟨rfl, rfl, rfl, rfl, fun _ _ => rfl⟩
theorem run_storeCells_at {P : Program} {g o : Nat} {t : TypeId} : ∀ (vs : List Value) (i : Nat) (w : World) (cs : Array Value), w.heap[g]? = some (.cells cs t (0, 0)) → o + i + vs.length ≤ cs.size → (∀ v ∈ vs, v.oneCell' = true) →
    ∃ w' cs', (storeCells ⟨g, o, none⟩ vs i).run P w = .ok () w' ∧ Upd g w w' ∧ w'.heap[g]? = some (.cells cs' t (0, 0)) ∧ cs'.toList = setV cs.toList (o + i) vs
  | [], i, w, cs, h, _, _ => ⟨w, cs, rfl, Upd.refl g w, h, rfl⟩
  | v :: vs, i, w, cs, h, hl, h1 => by
    rw [List.length_cons] at hl
    have hadd : (⟨g, o, none⟩ : Addr).add i = ⟨g, o + i, none⟩ := Addr.add_lit g o i
    have hc : w.cell? ⟨g, o + i, none⟩ = some (cs[o + i]'(by omega)) := by
      simp only [World.cell?, h]
      simp [show o + i < cs.size by omega]
    have hf : w.frozen? ⟨g, o + i, none⟩ = false := by
      simp only [World.frozen?, h]
      simp
    have hs : (store ⟨g, o + i, none⟩ v .plain).run P w = .ok () (w.setCell ⟨g, o + i, none⟩ v) := by
      rw [run_store P w _ v _ (h1 v List.mem_cons_self), hc, hf]
      simp
    have hg : (w.setCell ⟨g, o + i, none⟩ v).heap[g]? = some (.cells (cs.setIfInBounds (o + i) v) t (0, 0)) := by
      simp [World.setCell, Array.getElem?_modify, h]
    obtain ⟨w', cs', r1, r2, r3, r4⟩ := run_storeCells_at (P := P) (g := g) (o := o) (t := t) vs (i + 1) (w.setCell ⟨g, o + i, none⟩ v) _ hg (by simp; omega) (fun u hu => h1 u (List.mem_cons_of_mem _ hu))
    refine ⟨w', cs', ?_, ⟨r2.os, r2.tape, r2.output, r2.size.trans (by simp [World.setCell]), fun k hk => (r2.other k hk).trans (Below.heap_setCell w ⟨g, o + i, none⟩ v k hk)⟩, r3, ?_⟩
    · rw [storeCells]
      simp only [Sem.run_bind, hadd, hs, Result.andThen_ok]
      exact r1
    · rw [r4, Array.toList_setIfInBounds]
      rfl
theorem run_loadCells_at {P : Program} {w : World} {g o n : Nat} {t : TypeId} {cs : Array Value} {fr : Nat × Nat} (h : w.heap[g]? = some (.cells cs t fr)) (hn : o + n ≤ cs.size) :
    (loadCells ⟨g, o, none⟩ n).run P w = .ok ((cs.toList.drop o).take n).toArray w := by
  have hl : ((cs.toList.drop o).take n).length = n := by simp; omega
  have h1 := run_loadCells_list (P := P) w ⟨g, o, none⟩ ((cs.toList.drop o).take n) (fun j v hv => by
    have hj : j < n := by
      have := (List.getElem?_eq_some_iff.1 hv).1
      omega
    rw [Addr.add_lit]
    simp only [World.cell?, h]
    rw [List.getElem?_take_of_lt hj, List.getElem?_drop] at hv
    simpa using hv)
  rw [hl] at h1
  exact h1
theorem run_load_at {P : Program} {w : World} {g o : Nat} {t : TypeId} {cs : Array Value} {fr : Nat × Nat} {v : Value} (h : w.heap[g]? = some (.cells cs t fr)) (hv : cs[o]? = some v) : (load ⟨g, o, none⟩).run P w = .ok v w := by
  have hc : w.cell? ⟨g, o, none⟩ = some v := by
    simp only [World.cell?, h]
    simpa using hv
  rw [run_load, hc]
section
variable {X : Ctx} {E : Env} {S : St} {a : Act} {w w' : World}
theorem Good.blk_lt (h : Good X E S a w) {b : Nat} {t : TypeId} {cs : List SV} (hb : S.bl[b]? = some (t, cs)) : E.β b < w.heap.size := by
  obtain ⟨_, _, vs, h1, _⟩ := h.blks.at_ b t cs hb
  exact (Array.getElem?_eq_some_iff.1 h1).1
/-- What only counts draws. -/
theorem Good.draw (h : Good X E S a w) (n : Nat) : Good X E S a { w with drawn := n } :=
  ⟨h.defers, h.len, h.nx, h.tmps, ⟨h.kinv.rows, h.kinv.curs, h.kinv.ros⟩, ⟨h.fr.os, h.fr.tape, h.fr.output, h.fr.size, h.fr.kept, h.fr.kext⟩, ⟨h.blks.nb, h.blks.at_, h.blks.inj, h.blks.first⟩, h.lts, h.held⟩
def Env.blk (E : Env) (g : Nat) : Env := { E with β := fun b => if b = E.nb then g else E.β b, nb := E.nb + 1 }
theorem Ext.blk (E : Env) (g : Nat) : Ext E (E.blk g) := ⟨Nat.le_refl _, fun _ _ => rfl, Nat.le_succ _, fun b hb => if_neg (Nat.ne_of_lt hb), fun _ _ h => h⟩
/-- A new variable. -/
theorem Good.newBlk (h : Good X E S a w) (t : TypeId) {cs : List SV} {vs : Array Value} (hL : hasL E cs vs.toList) :
    Good X (E.blk w.heap.size) { S with bl := S.bl ++ [(t, cs)] } a (w.alloc (.cells vs t (0, 0))) := by
  have hx := Ext.blk E w.heap.size
  have hold : ∀ k, k < w.heap.size → (w.alloc (.cells vs t (0, 0))).heap[k]? = w.heap[k]? := fun k hk => Below.heap_alloc w _ k hk
  have hnew : (w.alloc (.cells vs t (0, 0))).heap[w.heap.size]? = some (.cells vs t (0, 0)) := by
    show (w.heap.push _)[w.heap.size]? = _
    simp
  have hKn : E.K w.heap.size = none := by
    cases hk : E.K w.heap.size with
    | none => rfl
    | some k => exact absurd (h.kinv.lt hk) (Nat.lt_irrefl _)
  refine ⟨h.defers, h.len, h.nx, fun i => (h.tmps i).ext hx, ⟨fun g cts n hg => ?_, fun g hg => ?_, fun g o hg => ?_⟩, ⟨h.fr.os, h.fr.tape, h.fr.output, Nat.le_trans h.fr.size (by show _ ≤ (w.heap.push _).size; simp), fun g hg h0 hp => ?_, h.fr.kext⟩, ⟨?_, fun b t' cs' hb => ?_, fun b c hb hc he => ?_, fun g0 hg0 => ?_⟩, h.lts, fun b hb => ?_⟩
  · rw [hold g (h.kinv.lt hg)]; exact h.kinv.rows g cts n hg
  · rw [hold g (h.kinv.lt hg)]; exact h.kinv.curs g hg
  · rw [hold g (h.kinv.lt hg)]; exact h.kinv.ros g o hg
  · rw [hold g (Nat.lt_of_lt_of_le hg h.fr.size)]; exact h.fr.kept g hg h0 hp
  · simp [Env.blk, h.blks.nb]
  · rw [List.getElem?_append] at hb
    by_cases hlt : b < S.bl.length
    · rw [if_pos hlt] at hb
      obtain ⟨h1, h2, us, h3, h4⟩ := h.blks.at_ b t' cs' hb
      have e : (E.blk w.heap.size).β b = E.β b := hx.β b (by rw [h.blks.nb]; exact hlt)
      rw [e]
      exact ⟨h1, h2, us, by rw [hold _ (h.blk_lt hb)]; exact h3, h4.ext hx⟩
    · rw [if_neg hlt] at hb
      have hb0 : b = S.bl.length := by
        have := (List.getElem?_eq_some_iff.1 hb).1
        simp at this
        omega
      subst hb0
      have : (t, cs) = (t', cs') := by simpa using hb
      cases this
      have e : (E.blk w.heap.size).β S.bl.length = w.heap.size := by simp [Env.blk, h.blks.nb]
      rw [e]
      exact ⟨hKn, .inl h.fr.size, vs, hnew, hL.ext hx⟩
  · have key : ∀ b, b < S.bl.length → (E.blk w.heap.size).β b = E.β b ∧ E.β b < w.heap.size := fun b hb => by
      refine ⟨hx.β b (by rw [h.blks.nb]; exact hb), ?_⟩
      exact h.blk_lt (t := (S.bl[b]).1) (cs := (S.bl[b]).2) (by rw [List.getElem?_eq_getElem hb])
    have e : (E.blk w.heap.size).β S.bl.length = w.heap.size := by simp [Env.blk, h.blks.nb]
    simp only [List.length_append, List.length_cons, List.length_nil] at hb hc
    by_cases hb1 : b < S.bl.length
    · by_cases hc1 : c < S.bl.length
      · rw [(key b hb1).1, (key c hc1).1] at he
        exact h.blks.inj b c hb1 hc1 he
      · obtain rfl : c = S.bl.length := by omega
        rw [(key b hb1).1, e] at he
        have := (key b hb1).2
        omega
    · obtain rfl : b = S.bl.length := by omega
      by_cases hc1 : c < S.bl.length
      · rw [(key c hc1).1, e] at he
        have := (key c hc1).2
        omega
      · omega
  · obtain ⟨h1, cs0, h2⟩ := h.blks.first g0 hg0
    have h3 : 0 < S.bl.length := (List.getElem?_eq_some_iff.1 h2).1
    exact ⟨(hx.β 0 (by rw [h.blks.nb]; exact h3)).trans h1, cs0, by rw [List.getElem?_append_left h3]; exact h2⟩
  · obtain ⟨h1, h2, h3⟩ := h.held b hb
    have h4 := h.blk_lt (t := (S.bl[b]).1) (cs := (S.bl[b]).2) (b := b) (by rw [List.getElem?_eq_getElem h1])
    refine ⟨by simp; omega, (hx.β b (by rw [h.blks.nb]; exact h1)).trans h2, ?_⟩
    rw [← h3, ← h2]
    exact hold _ h4
def Env.row (E : Env) (g : Nat) (k : KT) : Env := { E with K := fun x => if x = g then some k else E.K x }
theorem Good.newRow_ext (h : Good X E S a w) (k : KT) : Ext E (E.row w.heap.size k) :=
  ⟨Nat.le_refl _, fun _ _ => rfl, Nat.le_refl _, fun _ _ => rfl, fun g x hg => by
    have := h.kinv.lt hg
    simp only [Env.row]
    rw [if_neg (by omega)]
    exact hg⟩
/-- A new row. -/
theorem Good.newRow (h : Good X E S a w) (t : TypeId) {cts : List CT} {vs : Array Value} (h0 : 0 < cts.length) (hn : vs.size % cts.length = 0) (hp : Pat cts 0 vs.toList) :
    Good X (E.row w.heap.size (.row cts vs.size)) S a (w.alloc (.cells vs t (0, 0))) := by
  have hx := h.newRow_ext (.row cts vs.size)
  have hold : ∀ k, k < w.heap.size → (w.alloc (.cells vs t (0, 0))).heap[k]? = w.heap[k]? := fun k hk => Below.heap_alloc w _ k hk
  have hnew : (w.alloc (.cells vs t (0, 0))).heap[w.heap.size]? = some (.cells vs t (0, 0)) := by
    show (w.heap.push _)[w.heap.size]? = _
    simp
  have hK : ∀ g x, (E.row w.heap.size (.row cts vs.size)).K g = some x → (g = w.heap.size ∧ x = .row cts vs.size) ∨ (g < w.heap.size ∧ E.K g = some x) := fun g x hg => by
    simp only [Env.row] at hg
    split at hg
    · rename_i he; cases hg; exact .inl ⟨he, rfl⟩
    · exact .inr ⟨h.kinv.lt hg, hg⟩
  refine ⟨h.defers, h.len, h.nx, fun i => (h.tmps i).ext hx, ⟨fun g c n hg => ?_, fun g hg => ?_, fun g o hg => ?_⟩, ⟨h.fr.os, h.fr.tape, h.fr.output, Nat.le_trans h.fr.size (by show _ ≤ (w.heap.push _).size; simp), fun g hg h0 hp => ?_, fun g hg => ?_⟩, ⟨h.blks.nb, fun b t' cs' hb => ?_, h.blks.inj, h.blks.first⟩, h.lts, fun b hb => ?_⟩
  · rcases hK g _ hg with ⟨rfl, he⟩ | ⟨h1, h2⟩
    · cases he
      refine ⟨vs, t, hnew, rfl, h0, hn, fun i hi => ?_⟩
      obtain ⟨c, h3, h4⟩ := hp i vs[i] (by simp [hi])
      exact ⟨c, vs[i], by simpa using h3, by simp [hi], h4⟩
    · rw [hold g h1]; exact h.kinv.rows g c n h2
  · rcases hK g _ hg with ⟨rfl, he⟩ | ⟨h1, h2⟩
    · cases he
    · obtain ⟨cs, t', h3, h4⟩ := h.kinv.curs g h2
      rw [hold g h1]
      exact ⟨cs, t', h3, X.cpm _ _ hx.K _ h4⟩
  · rcases hK g _ hg with ⟨rfl, he⟩ | ⟨h1, h2⟩
    · cases he
    · rw [hold g h1]; exact h.kinv.ros g o h2
  · rw [hold g (Nat.lt_of_lt_of_le hg h.fr.size)]; exact h.fr.kept g hg h0 hp
  · have := h.fr.size
    simp only [Env.row]
    rw [if_neg (by omega)]
    exact h.fr.kext g hg
  · obtain ⟨h1, h2, us, h3, h4⟩ := h.blks.at_ b t' cs' hb
    have h5 := h.blk_lt hb
    refine ⟨?_, h2, us, (hold _ h5).trans h3, h4.ext hx⟩
    show (if E.β b = w.heap.size then _ else E.K (E.β b)) = none
    rw [if_neg (by omega)]
    exact h1
  · obtain ⟨h1, h2, h3⟩ := h.held b hb
    have h4 := h.blk_lt (t := (S.bl[b]).1) (cs := (S.bl[b]).2) (b := b) (by rw [List.getElem?_eq_getElem h1])
    refine ⟨h1, h2, ?_⟩
    rw [← h3, ← h2]
    exact hold _ h4
/-- A variable's cells are written. -/
theorem Good.blkStore (h : Good X E S a w) {b o : Nat} {t : TypeId} {cs ns : List SV} {vs vs' : Array Value} {us : List Value} (hb : S.bl[b]? = some (t, cs)) (hu : Upd (E.β b) w w') (hv : w'.heap[E.β b]? = some (.cells vs' t (0, 0)))
    (hw : w.heap[E.β b]? = some (.cells vs t (0, 0))) (hs : vs'.toList = setV vs.toList o us) (hn : hasL E ns us) (hbd : b ∉ X.hd) : Good X E { S with bl := S.bl.set b (t, setR cs o ns) } a w' := by
  obtain ⟨h1, h2, vs0, h3, h4⟩ := h.blks.at_ b t cs hb
  have e0 : vs0 = vs := by rw [hw] at h3; cases h3; rfl
  subst e0
  have hne : ∀ g k, E.K g = some k → g ≠ E.β b := fun g k hk he => by rw [he, h1] at hk; cases hk
  refine ⟨h.defers, h.len, h.nx, h.tmps, ⟨fun g c n hg => ?_, fun g hg => ?_, fun g o hg => ?_⟩, ⟨hu.os.trans h.fr.os, hu.tape.trans h.fr.tape, hu.output.trans h.fr.output, by rw [hu.size]; exact h.fr.size, fun g hg h0 hp => ?_, h.fr.kext⟩, ⟨by simpa using h.blks.nb, fun c t' cs' hc => ?_, fun c d hc hd he => h.blks.inj c d (by simpa using hc) (by simpa using hd) he, fun g0 hg0 => ?_⟩, h.lts, fun c hc => ?_⟩
  · rw [hu.other g (hne g _ hg)]; exact h.kinv.rows g c n hg
  · rw [hu.other g (hne g _ hg)]; exact h.kinv.curs g hg
  · rw [hu.other g (hne g _ hg)]; exact h.kinv.ros g o hg
  · rw [hu.other g ?_]
    · exact h.fr.kept g hg h0 hp
    · rintro rfl
      rcases h2 with h2 | h2
      · omega
      · exact hp h2
  · by_cases hcb : b = c
    · subst hcb
      have hlt : b < S.bl.length := (List.getElem?_eq_some_iff.1 hb).1
      rw [List.getElem?_set_self hlt] at hc
      cases hc
      exact ⟨h1, h2, vs', hv, by rw [hs]; exact setR_ok o h4 hn⟩
    · rw [List.getElem?_set_ne hcb] at hc
      obtain ⟨h5, h6, us', h7, h8⟩ := h.blks.at_ c t' cs' hc
      refine ⟨h5, h6, us', ?_, h8⟩
      rw [hu.other _ ?_]
      · exact h7
      · intro he
        exact hcb (h.blks.inj b c (List.getElem?_eq_some_iff.1 hb).1 (List.getElem?_eq_some_iff.1 hc).1 he.symm)
  · obtain ⟨h5, cs0, h6⟩ := h.blks.first g0 hg0
    refine ⟨h5, ?_⟩
    by_cases hb0 : b = 0
    · subst hb0
      rw [hb] at h6
      cases h6
      exact ⟨_, List.getElem?_set_self (List.getElem?_eq_some_iff.1 hb).1⟩
    · exact ⟨cs0, by rw [List.getElem?_set_ne hb0]; exact h6⟩
  · obtain ⟨h5, h6, h7⟩ := h.held c hc
    refine ⟨by simpa using h5, h6, ?_⟩
    rw [← h7, ← h6]
    refine hu.other _ fun he => hbd ?_
    rw [← h.blks.inj c b h5 (List.getElem?_eq_some_iff.1 hb).1 he]
    exact hc
/-- A row's cells are written. -/
theorem Good.rowStore (h : Good X E S a w) {g o : Nat} {t : TypeId} {cts : List CT} {n : Nat} {vs vs' : Array Value} {us : List Value} (hK : E.K g = some (.row cts n)) (hw : w.heap[g]? = some (.cells vs t (0, 0))) (hu : Upd g w w') (hv : w'.heap[g]? = some (.cells vs' t (0, 0)))
    (hs : vs'.toList = setV vs.toList o us) (ho : o + us.length ≤ n) (hp : Pat cts o us) : Good X E S a w' := by
  obtain ⟨vs0, t0, h1, h2, h3, h4, h5⟩ := h.kinv.rows g cts n hK
  have e0 : vs0 = vs ∧ t0 = t := by rw [hw] at h1; cases h1; exact ⟨rfl, rfl⟩
  obtain ⟨rfl, rfl⟩ := e0
  have hsz : vs'.size = n := by
    rw [← Array.length_toList, hs, setV_length, Array.length_toList]; exact h2
  refine ⟨h.defers, h.len, h.nx, h.tmps, ⟨fun x c m hx => ?_, fun x hx => ?_, fun x o hx => ?_⟩, ⟨hu.os.trans h.fr.os, hu.tape.trans h.fr.tape, hu.output.trans h.fr.output, by rw [hu.size]; exact h.fr.size, fun x hx h0 hp => ?_, h.fr.kext⟩, ⟨h.blks.nb, fun c t' cs' hc => ?_, h.blks.inj, h.blks.first⟩, h.lts, fun c hc => ?_⟩
  · by_cases hxg : x = g
    · subst hxg
      rw [hK] at hx
      cases hx
      refine ⟨vs', t0, hv, hsz, h3, h4, fun i hi => ?_⟩
      have hl : vs0.toList.length = n := by rw [Array.length_toList]; exact h2
      have conv : ∀ u, (setV vs0.toList o us)[i]? = some u → vs'[i]? = some u := fun u hu' => by rw [← hs] at hu'; simpa using hu'
      by_cases hin : o ≤ i ∧ i < o + us.length
      · have hget := setV_in us vs0.toList o i (by omega) hin.1 hin.2
        have hlt : i - o < us.length := by omega
        rw [List.getElem?_eq_getElem hlt] at hget
        obtain ⟨c', h6, h7⟩ := hp (i - o) us[i - o] (List.getElem?_eq_getElem hlt)
        exact ⟨c', us[i - o], by rw [show o + (i - o) = i by omega] at h6; exact h6, conv _ hget, h7⟩
      · obtain ⟨c', u, h6, h7, h8⟩ := h5 i hi
        refine ⟨c', u, h6, conv u ?_, h8⟩
        by_cases hlt : i < o
        · rw [setV_lt us _ o i hlt]; simpa using h7
        · rw [setV_ge us _ o i (by omega)]; simpa using h7
    · rw [hu.other x hxg]; exact h.kinv.rows x c m hx
  · rw [hu.other x (by rintro rfl; rw [hK] at hx; cases hx)]; exact h.kinv.curs x hx
  · rw [hu.other x (by rintro rfl; rw [hK] at hx; cases hx)]; exact h.kinv.ros x o hx
  · rw [hu.other x ?_]
    · exact h.fr.kept x hx h0 hp
    · rintro rfl
      rw [← h.fr.kext x hx, hK] at h0
      cases h0
  · obtain ⟨h6, h7, us', h8, h9⟩ := h.blks.at_ c t' cs' hc
    exact ⟨h6, h7, us', by rw [hu.other _ (by rintro he; rw [he, hK] at h6; cases h6)]; exact h8, h9⟩
  · obtain ⟨h6, h7, h8⟩ := h.held c hc
    obtain ⟨h9, _⟩ := h.blks.at_ c (S.bl[c]).1 (S.bl[c]).2 (by rw [List.getElem?_eq_getElem h6])
    refine ⟨h6, h7, ?_⟩
    rw [← h8, ← h7]
    exact hu.other _ (by rintro he; rw [he, hK] at h9; cases h9)
end
end Go.Proofs.Ytnoelppkcbelcaa.Ty
