/-
Literals of slices, make, append, calls of functions.
-/
import Derived.Test.YtnoelppkcbelcaaTy9
set_option linter.unusedVariables false
set_option linter.unusedSimpArgs false
namespace Go.Proofs.Ytnoelppkcbelcaa.Ty
open Go Go.RowKit

theorem arr0 {α : Type} (f : Nat → α) : (Array.range 0).map f = #[] := Array.eq_empty_of_size_eq_zero (by simp)
theorem hasL_maps {E : Env} {α : Type} {f : α → SV} {g : α → Value} : ∀ {l : List α}, (∀ x ∈ l, hasSV E (f x) (g x)) → hasL E (l.map f) (l.map g)
  | [], _ => trivial
  | x :: l, h => ⟨h x List.mem_cons_self, hasL_maps fun y hy => h y (List.mem_cons_of_mem _ hy)⟩
/-- The same zero, again and again. -/
theorem zeros_ok {E : Env} {z : List SV} {zv : Array Value} (hz : hasL E z zv.toList) (h0 : 0 < z.length) (n : Nat) :
    hasL E ((List.range n).map fun i => z.getD (i % z.length) .any) ((Array.range n).map (fun i => zv[i % zv.size]!)).toList := by
  have hl : z.length = zv.size := by rw [hz.length, Array.length_toList]
  rw [Array.toList_map, Array.toList_range]
  refine hasL_maps fun i _ => ?_
  have hi : i % z.length < z.length := Nat.mod_lt _ h0
  obtain ⟨v, h1, h2⟩ := hz.get (i := i % z.length) (s := z[i % z.length]) (List.getElem?_eq_getElem hi)
  have e1 : z.getD (i % z.length) .any = z[i % z.length] := by rw [List.getD_eq_getElem?_getD, List.getElem?_eq_getElem hi]; rfl
  have e2 : zv[i % zv.size]! = v := by
    rw [← hl]
    have : zv[i % z.length]? = some v := by simpa using h1
    rw [getElem!_def, this]
  rw [e1, e2]
  exact h2
theorem pat_zeros {cts : List CT} {zv : Array Value} (hp : Pat cts 0 zv.toList) (hl : zv.size = cts.length) (h0 : 0 < cts.length) (n : Nat) {o : Nat} (ho : o % cts.length = 0) : Pat cts o ((Array.range n).map (fun i => zv[i % zv.size]!)).toList := by
  intro i v hi
  rw [Array.toList_map, Array.toList_range, List.getElem?_map] at hi
  have hin : i < n := by
    rcases Nat.lt_or_ge i n with h | h
    · exact h
    · rw [List.getElem?_eq_none (by simpa using h)] at hi; cases hi
  rw [List.getElem?_range hin] at hi
  have hm : i % zv.size < zv.size := Nat.mod_lt _ (by omega)
  have hv : zv.toList[i % zv.size]? = some v := by
    have : zv[i % zv.size]! = v := by simpa using hi
    rw [getElem!_pos zv _ hm] at this
    simp [this, hm]
  obtain ⟨c, h1, h2⟩ := hp _ _ hv
  refine ⟨c, ?_, h2⟩
  rw [hl, Nat.zero_add, Nat.mod_mod] at h1
  rw [Nat.add_mod, ho, Nat.zero_add, Nat.mod_mod]
  exact h1
section
variable {X : Ctx} {Γ : Kit} (hT : TabOK X.P Γ.tab) {E : Env} {S : St} {a : Act} {w : World} (h : Good X E S a w) {Kn : Act → World → Prop} {Q : Exit → Act → World → Prop}
include hT h
theorem wp_buildSlice {o : Oper} {t : TypeId} {n : Nat} {ps : Array (Nat × Operand)} (ho : o.op = .buildSlice t n ps) {L : List St} (hm : memOp Γ o S = some L) (hk : ∀ a' w', GoodL X E L a' w' → Kn a' w') : o.wp X.P a w Kn Q := by
  unfold memOp at hm
  simp only [ho, bsliceM] at hm
  split at hm
  · rename_i d hd
    split at hm
    · rename_i e he
      split at hm
      · rename_i de hc hde hhint
        split at hm
        · rename_i z r hz hr
          split at hm
          · cases hm
          · rename_i hcond
            simp only [not_or] at hcond
            obtain ⟨c1, c2, c3⟩ := hcond
            have c3' : z.length = de.size := by omega
            split at hm
            · rename_i cs hcs
              split at hm
              · rename_i cts hcts
                split at hm
                · rename_i hfin
                  cases hm
                  obtain ⟨f1, f2, f3⟩ := hfin
                  have hu := hT.elem hd he
                  obtain ⟨i, u, h1, h2, h3, h4, _, h5, _⟩ := hT.get hde
                  rw [h5] at hz
                  cases hiz : i.zero with
                  | none => rw [hiz] at hz; cases hz
                  | some zv =>
                    rw [hiz] at hz
                    have hzz : z = zv.cells.toList.map zeroSV := by simpa using hz.symm
                    have hzL : hasL E z zv.cells.toList := by rw [hzz]; exact zeroL_ok E _
                    have hbase := zeros_ok hzL (by omega) (n * de.size)
                    have hparts := partAbs_ok (fun x => h.eval x) hr
                    obtain ⟨cells, g1, g2⟩ := fillSV_ok (place := fun i => some (i * de.size, de.size)) (fun i x hx => by
                      rw [List.getElem?_map] at hx
                      cases hq : (List.range n)[i]? with
                      | none => rw [hq] at hx; cases hx
                      | some q =>
                        rw [hq] at hx
                        have : i = q := by
                          have := (List.getElem?_eq_some_iff.1 hq).2
                          simpa using this
                        subst this
                        cases hx
                        rfl) hcs hparts hbase
                    have g3 : cells.size = n * de.size := by rw [← Array.length_toList, ← g2.length]; exact f3
                    have hpat : Pat cts 0 cells.toList := leRow_ok (by omega) rfl f2 g2
                    have hmod : cells.size % cts.length = 0 := by rw [g3, f1]; exact Nat.mul_mod_left _ _
                    obtain ⟨E', rr, hg⟩ := h.newR e o.dst (by omega) hmod hpat (l := n) (c := n) (Nat.le_refl n) (Nat.le_refl n) (Nat.le_refl n) (by rw [g3, f1]; exact Nat.le_refl _)
                    have hrun : (execOp a.eval o).run X.P w = .ok (.value (.slice (some ⟨w.heap.size, 0, none⟩) n n)) (w.alloc (.cells cells e (0, 0))) := by
                      by_cases hn0 : n * de.size = 0
                      · have hn : n = 0 := by
                          rcases Nat.mul_eq_zero.1 hn0 with h9 | h9
                          · exact h9
                          · exact absurd h9 c1
                        subst hn
                        have e0 : ((Array.range (0 * de.size)).map (fun i => zv.cells[i % zv.cells.size]!)) = #[] := by rw [Nat.zero_mul, arr0]
                        rw [e0] at g1
                        have g1' : Instr.fill (fun i => some (i * de.size, de.size)) #[] (List.map (fun x => (x.1, a.eval x.2)) ps.toList) = some cells := by simpa using g1
                        simp [execOp, ho, Instr.buildSlice, run_underlying hu, hT.size hde, newRow, arr0, g1']
                      · have g1' : Instr.fill (fun i => some (i * de.size, de.size)) ((Array.range (n * de.size)).map (fun i => zv.cells[i % zv.cells.size]!)) (List.map (fun x => (x.1, a.eval x.2)) ps.toList) = some cells := by simpa using g1
                        simp [execOp, ho, Instr.buildSlice, run_underlying hu, hT.size hde, newRow, hn0, show ¬ 16777216 < n * de.size from c2, zeroValue, typeInfo, h1, hiz, g1']
                    unfold Oper.wp
                    rw [hrun, Oper.upon_value]
                    exact hk _ _ (GoodL.one rr hg)
                · cases hm
              · cases hm
            · cases hm
        · cases hm
      · cases hm
    · cases hm
  · cases hm
theorem wp_makeSlice {o : Oper} {t : TypeId} {l c : Operand} (ho : o.op = .makeSlice t l c) {L : List St} (hm : memOp Γ o S = some L) (hk : ∀ a' w', GoodL X E L a' w' → Kn a' w') : o.wp X.P a w Kn Q := by
  unfold memOp at hm
  simp only [ho, msliceM] at hm
  have hl := h.eval l
  have hc := h.eval c
  split at hm
  · rename_i d lo hi sy lo' hi' sy' hd heq1 heq2
    split at hm
    · rename_i e he
      split at hm
      · rename_i de hcn hde hhint
        split at hm
        · rename_i z hz
          split at hm
          · rename_i hfin
            cases hm
            obtain ⟨f0, f1, f2, f3, f4, f5, f6, f7, f8, f9⟩ := hfin
            rw [heq1] at hl
            rw [heq2] at hc
            obtain ⟨n, hn, n0, n1, _⟩ := hl
            obtain ⟨m, hm', m0, m1, _⟩ := hc
            obtain rfl : n = lo := by omega
            obtain rfl : m = n := by omega
            obtain ⟨q, rfl⟩ := Int.eq_ofNat_of_zero_le f0
            have hu := hT.elem hd he
            obtain ⟨i, u, h1, h2, h3, h4, _, h5, _⟩ := hT.get hde
            rw [h5] at hz
            cases hiz : i.zero with
            | none => rw [hiz] at hz; cases hz
            | some zv =>
              rw [hiz] at hz
              have hzz : z = zv.cells.toList.map zeroSV := by simpa using hz.symm
              have hzL : hasL E z zv.cells.toList := by rw [hzz]; exact zeroL_ok E _
              have hzp : Pat hcn 0 zv.cells.toList := leRow_ok (by omega) rfl f9 hzL
              have hzs : zv.cells.size = hcn.length := by rw [← Array.length_toList, ← hzL.length]; omega
              have hp := pat_zeros hzp hzs (by omega) (q * de.size) (Nat.zero_mod _)
              have hsz : ((Array.range (q * de.size)).map (fun i => zv.cells[i % zv.cells.size]!)).size = q * de.size := by simp
              obtain ⟨E', rr, hg⟩ := h.newR e o.dst (by omega) (by rw [hsz, f8]; exact Nat.mul_mod_left _ _) hp (l := q) (c := q) (lo := ((q : Int)).toNat) (hi := ((q : Int)).toNat) (by simp) (by simp) (Nat.le_refl q) (by rw [hsz, f8]; exact Nat.le_refl _)
              have hrun : (execOp a.eval o).run X.P w = .ok (.value (.slice (some ⟨w.heap.size, 0, none⟩) q q)) (w.alloc (.cells ((Array.range (q * de.size)).map (fun i => zv.cells[i % zv.cells.size]!)) e (0, 0))) := by
                have hmin : IntKind.i64.min = -9223372036854775808 := by decide
                have hmax : IntKind.i64.max = 9223372036854775807 := by decide
                have hw : IntKind.i64.wrap (q : Int) = (q : Int) := wrap_same .i64 (by omega) (by omega)
                have hby : (i.bytes : Int) * (q : Int) ≤ 281474976710656 := by
                  have h8 : i.bytes ≤ 4096 := by omega
                  have h9 : q ≤ 4294967296 := by omega
                  have h10 : i.bytes * q ≤ 4096 * 4294967296 := Nat.mul_le_mul h8 h9
                  have h11 : ((i.bytes * q : Nat) : Int) ≤ ((4096 * 4294967296 : Nat) : Int) := Int.ofNat_le.2 h10
                  rw [Int.natCast_mul] at h11
                  omega
                have hnb : ¬ (281474976710656 < (i.bytes : Int) * (q : Int)) := by omega
                have hq0 : ¬ ((q : Int) < 0) := by omega
                by_cases hn0 : q * de.size = 0
                · have hz0 : q = 0 := by
                    rcases Nat.mul_eq_zero.1 hn0 with h9 | h9
                    · exact h9
                    · omega
                  subst hz0
                  simp [execOp, ho, Instr.makeSlice, run_underlying hu, hn, hm', asInt, asIntOf, typeInfo, h1, hw, sizeOf, newRow, zeroValue]
                  simp [IntKind.wrap, IntKind.bits, IntKind.signed, arr0]
                · have hn0' : ¬ q * i.size = 0 := by rw [← h3]; exact hn0
                  simp [execOp, ho, Instr.makeSlice, run_underlying hu, hn, hm', asInt, asIntOf, typeInfo, h1, hw, hnb, hq0, sizeOf, hn0', zeroValue, hiz, newRow, h3]
              unfold Oper.wp
              rw [hrun, Oper.upon_value]
              exact hk _ _ (GoodL.one rr hg)
          · cases hm
        · cases hm
      · cases hm
    · cases hm
  · cases hm
end
/-- append: where there is room, and where there is none. -/
theorem run_append2 {P : Program} {t e ty : TypeId} {i : TypeInfo} {z : Value} (hu : P.underlying t = some (.slice e)) (hi : P.info? e = some i) (hz : i.zero = some z) {w : World} {base : Option Addr} {sLen sCap : Nat} {x : Value} {m : Nat} {us os : List Value}
    (hlen : ∀ w', (Builtin.lenOf x).run P w' = .ok m w') (hfx : ∀ w' : World, w'.heap = w.heap → (Builtin.firstCells i.size m x).run P w' = .ok us.toArray w')
    (hfs : ∀ w' : World, w'.heap = w.heap → (Builtin.firstCells i.size sLen (.slice base sLen sCap)).run P w' = .ok os.toArray w') (hby : (sLen + m) * i.bytes ≤ 140737488355328) (h63 : sLen + m ≤ 4611686018427387904) :
    (sLen + m ≤ sCap → ∀ w', (∀ ad, base = some ad → (storeCells (ad.add (sLen * i.size)) us).run P w = .ok () w') → (base = none → w' = w) → (Builtin.append_ #[t, t] ty #[.slice base sLen sCap, x]).run P w = .ok (.slice base (sLen + m) sCap) w') ∧
    (sCap < sLen + m → ∃ cap, sLen + m ≤ cap ∧ (Builtin.append_ #[t, t] ty #[.slice base sLen sCap, x]).run P w = .ok (.slice (some ⟨w.heap.size, 0, none⟩) (sLen + m) cap) (w.drew.alloc (.cells (os.toArray ++ (us.toArray ++ Builtin.zeroCells z.cells (cap - (sLen + m)))) e))) := by
  refine ⟨fun hroom w' hst hbn => ?_, fun hg => ?_⟩
  · have h1 := hfx w rfl
    cases base with
    | none =>
      obtain rfl := hbn rfl
      simp [Builtin.append_, run_underlying hu, sizeOf, typeInfo, hi, hlen, hroom, h1]
    | some ad =>
      have h2 := hst ad rfl
      simp [Builtin.append_, run_underlying hu, sizeOf, typeInfo, hi, hlen, hroom, h1, h2]
  · have hn : ¬ (sLen + m ≤ sCap) := by omega
    have h63' : ¬ (9223372036854775807 < ((sLen : Int) + (m : Int))) := by omega
    have h48 := growslice_fits (old := sCap) hg hby
    have h48' : ¬ (281474976710656 < Builtin.nextslicecap (sLen + m) sCap * i.bytes) := by omega
    have h1 := hfx w.drew rfl
    have h2 := hfs w.drew rfl
    refine ⟨grownCap w (sLen + m) sCap e, grownCap_ge w (sLen + m) sCap e, ?_⟩
    simp [Builtin.append_, run_underlying hu, sizeOf, typeInfo, zeroValue, hi, hz, hlen, hn, h63', h48', Question.forced, h1, h2, newRow, grownCap]
section
variable {X : Ctx} {E : Env} {S : St} {a : Act} {w : World}
/-- What a slice holds. -/
theorem Good.cells (h : Good X E S a w) {av : AV} {v : Value} (hv : hasAV E av v) {c : List CT} {lo hi : Nat} (hs : sliceAbs av = some (c, lo, hi)) (sz : Nat) (hsz : isNil av = true ∨ c.length = sz) :
    ∃ base l cap us, v = .slice base l cap ∧ lo ≤ l ∧ l ≤ hi ∧ us.length = l * sz ∧ (isNil av = true → us = [] ∧ base = none ∧ l = 0 ∧ cap = 0) ∧ (isNil av = false → Pat c 0 us) ∧ (∀ w' : World, w'.heap = w.heap → (Builtin.firstCells sz l v).run X.P w' = .ok us.toArray w') ∧
      (isNil av = false → l ≤ cap ∧ (base = none → cap = 0) ∧ ∀ ad, base = some ad → ad.spot = none ∧ ∃ N, E.K ad.block = some (.row c N) ∧ ad.off % c.length = 0 ∧ ad.off + cap * c.length ≤ N) := by
  cases av with
  | any => cases hs
  | tup _ => cases hs
  | one x => cases x with
    | agg _ => cases hs
    | cell s => cases s with
      | nils =>
        have e : v = .slice none 0 0 := hv
        cases hs
        subst e
        exact ⟨none, 0, 0, [], rfl, Nat.le_refl _, Nat.le_refl _, by simp, fun _ => ⟨rfl, rfl, rfl, rfl⟩, fun hn => by simp [isNil] at hn, fun w' _ => rfl, fun hn => by simp [isNil] at hn⟩
      | slice c' lo' hi' sy =>
        cases hs
        obtain ⟨base, l, cap, rfl, h1, h2, h3, _, h5, h6⟩ := hv
        have hc : c.length = sz := by
          rcases hsz with hq | hq
          · simp [isNil] at hq
          · exact hq
        cases base with
        | none =>
          have hc0 := h5 rfl
          have hl0 : l = 0 := by omega
          subst hl0
          exact ⟨none, 0, cap, [], rfl, h1, h2, by simp, fun hn => by simp [isNil] at hn, fun _ i v hi => by simp at hi, fun w' _ => rfl, fun _ => ⟨h3, h5, fun ad had => by cases had⟩⟩
        | some ad =>
          obtain ⟨h7, N, h8, h9, h10⟩ := h6 ad rfl
          have hlN : ad.off + l * sz ≤ N := by
            have := Nat.mul_le_mul_right sz h3
            rw [hc] at h10
            omega
          obtain ⟨us, u1, u2, u3⟩ := h.rowRead (P := X.P) h8 hlN
          refine ⟨some ad, l, cap, us, rfl, h1, h2, u1, fun hn => by simp [isNil] at hn, fun _ => Pat.shift h9 (Nat.zero_mod _) u2, fun w' hw' => ?_, fun _ => ⟨h3, h5, fun ad' had => by cases had; exact ⟨h7, N, h8, h9, h10⟩⟩⟩
          have e : ad = ⟨ad.block, ad.off, none⟩ := by cases ad; simp_all
          rw [e]
          show (loadCells ⟨ad.block, ad.off, none⟩ (l * sz)).run X.P w' = _
          exact u3 w' (by rw [hw'])
      | _ => cases hs
end
section
variable {X : Ctx} {Γ : Kit} (hT : TabOK X.P Γ.tab) {E : Env} {S : St} {a : Act} {w : World} (h : Good X E S a w) {Kn : Act → World → Prop} {Q : Exit → Act → World → Prop}
include hT h
theorem wp_append {o : Oper} {c : Call} (ho : o.op = .call c) (hcal : c.callee = .builtin .append) {L : List St} (hm : memOp Γ o S = some L) (hk : ∀ a' w', GoodL X E L a' w' → Kn a' w') : o.wp X.P a w Kn Q := by
  obtain ⟨callee, args, argTypes⟩ := c
  simp only at hcal
  subst hcal
  unfold memOp at hm
  simp only [ho, callM, appM] at hm
  split at hm
  · rename_i s x t t' hargs htys
    have ea : args = #[s, x] := by rw [← Array.toArray_toList (xs := args), hargs]
    have et : argTypes = #[t, t'] := by rw [← Array.toArray_toList (xs := argTypes), htys]
    subst ea et
    split at hm
    · rename_i htt
      subst htt
      split at hm
      · rename_i d hd
        split at hm
        · rename_i e he
          split at hm
          · rename_i de cs l1 h1 cx l2 h2 hde hs hx
            split at hm
            · rename_i cts z hcts hz
              split at hm
              · rename_i hfin
                cases hm
                obtain ⟨f1, f2, f3, f4, f5, f6⟩ := hfin
                have hu := hT.elem hd he
                obtain ⟨i, u, i1, i2, i3, i4, _, i5, _⟩ := hT.get hde
                rw [i5] at hz
                cases hiz : i.zero with
                | none => rw [hiz] at hz; cases hz
                | some zv =>
                  rw [hiz] at hz
                  have hzz : z = zv.cells.toList.map zeroSV := by simpa using hz.symm
                  have hzL : hasL E z zv.cells.toList := by rw [hzz]; exact zeroL_ok E _
                  have hzp : Pat cts 0 zv.cells.toList := leRow_ok (by omega) rfl f4 hzL
                  have hzs : zv.cells.size = cts.length := by rw [← Array.length_toList, ← hzL.length]; omega
                  -- the kinds
                  have kinds : (isNil (S.eval s) = true ∨ cs = cts) ∧ (isNil (S.eval x) = true ∨ leCTs cx cts = true) := by
                    unfold appCts at hcts
                    split at hcts
                    · rename_i hn
                      refine ⟨.inl hn, ?_⟩
                      split at hcts
                      · split at hcts
                        · rename_i hq
                          cases hcts
                          simpa [Bool.or_eq_true] using hq
                        · cases hcts
                      · cases hcts
                    · split at hcts
                      · rename_i hq
                        cases hcts
                        exact ⟨.inr rfl, by simpa [Bool.or_eq_true] using hq⟩
                      · cases hcts
                  have hsz : de.size = i.size := i3
                  obtain ⟨base, sl, sc, os, es, s1, s2, s3, s4, s5, s6, s7⟩ := h.cells (h.eval s) hs i.size (kinds.1.imp_right fun hq => by rw [hq]; omega)
                  obtain ⟨bx, m, xc, us, ex, x1, x2, x3, x4, x5, x6, x7⟩ := h.cells (h.eval x) hx i.size (kinds.2.imp_right fun hq => by have := leCTs_length hq; omega)
                  have patS : Pat cts 0 os := by
                    by_cases hn : isNil (S.eval s) = true
                    · rw [(s4 hn).1]; intro i v hi; simp at hi
                    · have h9 := s5 (by simpa using hn)
                      rcases kinds.1 with hq | hq
                      · exact absurd hq hn
                      · rw [← hq]; exact h9
                  have patX : Pat cts 0 us := by
                    by_cases hn : isNil (S.eval x) = true
                    · rw [(x4 hn).1]; intro i v hi; simp at hi
                    · have h9 := x5 (by simpa using hn)
                      rcases kinds.2 with hq | hq
                      · exact absurd hq hn
                      · exact Pat.le E hq h9
                  have hlen : ∀ w', (Builtin.lenOf (a.eval x)).run X.P w' = .ok m w' := fun w' => by rw [ex]; rfl
                  have hsum : sl + m ≤ 4294967296 := by omega
                  have hby : (sl + m) * i.bytes ≤ 140737488355328 := by
                    have h8 : i.bytes ≤ 4096 := by omega
                    have h10 : (sl + m) * i.bytes ≤ 4294967296 * 4096 := Nat.mul_le_mul hsum h8
                    omega
                  have hfs : ∀ w' : World, w'.heap = w.heap → (Builtin.firstCells i.size sl (.slice base sl sc)).run X.P w' = .ok os.toArray w' := fun w' hw' => by rw [← es]; exact s6 w' hw'
                  obtain ⟨room, grow⟩ := run_append2 (P := X.P) (ty := o.type) hu i1 hiz (w := w) hlen x6 hfs hby (by omega)
                  have exec : ∀ (v : Value) (w' : World), (Builtin.append_ #[t, t] o.type #[.slice base sl sc, a.eval x]).run X.P w = .ok v w' → (execOp a.eval o).run X.P w = .ok (.value v) w' := fun v w' hr => by
                    simp [execOp, ho, resolve, invoke, builtin, es, hr]
                  by_cases hroom : sl + m ≤ sc
                  · -- in place
                    have put : ∀ w', Good X E S a w' → (hasAV E (.one (.cell (.slice cts (l1 + l2) (h1 + h2) none))) (.slice base (sl + m) sc)) → (Builtin.append_ #[t, t] o.type #[.slice base sl sc, a.eval x]).run X.P w = .ok (.slice base (sl + m) sc) w' → o.wp X.P a w Kn Q := fun w' hg hv hr => by
                      obtain ⟨E', r, h4⟩ := hg.putF o.dst hv
                      unfold Oper.wp
                      rw [exec _ _ hr, Oper.upon_value]
                      exact hk _ _ (GoodL.one r.ext.rel h4)
                    by_cases hn : isNil (S.eval s) = true
                    · obtain ⟨_, rfl, rfl, rfl⟩ := s4 hn
                      obtain rfl : m = 0 := by omega
                      exact put w h ⟨none, 0, 0, rfl, by omega, by omega, Nat.le_refl _, fun s hs => (by cases hs), fun _ => rfl, fun ad had => (by cases had)⟩ (room hroom w (fun ad had => by cases had) fun _ => rfl)
                    · obtain ⟨q1, q2, q3⟩ := s7 (by simpa using hn)
                      have hcc : cs = cts := kinds.1.resolve_left hn
                      subst hcc
                      have hv : hasAV E (.one (.cell (.slice cs (l1 + l2) (h1 + h2) none))) (.slice base (sl + m) sc) := ⟨base, sl + m, sc, rfl, by omega, by omega, hroom, fun s hs => (by cases hs), q2, q3⟩
                      cases base with
                      | none => exact put w h hv (room hroom w (fun ad had => by cases had) fun _ => rfl)
                      | some ad =>
                        obtain ⟨b1, N, b2, b3, b4⟩ := q3 ad rfl
                        obtain ⟨vs, t0, r1, r2, r3, r4, r5⟩ := h.kinv.rows _ _ _ b2
                        have hin : ad.off + sl * i.size + us.length ≤ N := by
                          have := Nat.mul_le_mul_right cs.length hroom
                          rw [x3, Nat.add_assoc, ← Nat.add_mul, ← hsz, ← f3]
                          omega
                        have hpo : Pat cs (ad.off + sl * i.size) us := Pat.shift (Nat.zero_mod _) (by rw [← hsz, ← f3, Nat.add_mul_mod_self_right]; exact b3) patX
                        obtain ⟨w', vs', g1, g2, g3, g4⟩ := run_storeCells_at (P := X.P) (g := ad.block) (o := ad.off + sl * i.size) (t := t0) us 0 w vs r1 (by omega) hpo.one
                        have hg := h.rowStore (o := ad.off + sl * i.size) b2 r1 g2 g3 (by simpa using g4) hin hpo
                        exact put w' hg hv (room hroom w' (fun ad' had => by cases had; rw [addr_add ad _ b1]; exact g1) fun hb => by cases hb)
                  · obtain ⟨cap, k1, k2⟩ := grow (by omega)
                    have hw1 : Good X E S a w.drew := h.draw (w.drawn + 1)
                    have hos : os.length = sl * de.size := by rw [hsz]; exact s3
                    have hus : us.length = m * de.size := by rw [hsz]; exact x3
                    have hzc : (Builtin.zeroCells zv.cells (cap - (sl + m))).toList = ((Array.range ((cap - (sl + m)) * zv.cells.size)).map (fun i => zv.cells[i % zv.cells.size]!)).toList := rfl
                    have hsize : (os.toArray ++ (us.toArray ++ Builtin.zeroCells zv.cells (cap - (sl + m)))).size = cap * de.size := by
                      simp only [Array.size_append, List.size_toArray, Builtin.zeroCells, Array.size_map, Array.size_range, hos, hus, hzs, f3]
                      rw [← Nat.add_assoc, ← Nat.add_mul, ← Nat.add_mul]
                      congr 1
                      omega
                    have hpat : Pat cts 0 (os.toArray ++ (us.toArray ++ Builtin.zeroCells zv.cells (cap - (sl + m)))).toList := by
                      simp only [Array.toList_append]
                      rw [hzc, ← List.append_assoc]
                      refine Pat.app (Pat.app patS ?_) ?_
                      · exact Pat.shift (Nat.zero_mod _) (by rw [hos, f3, Nat.zero_add]; exact Nat.mul_mod_left _ _) patX
                      · refine pat_zeros hzp hzs (by omega) _ ?_
                        simp only [List.length_append, hos, hus, f3]
                        rw [Nat.zero_add, ← Nat.add_mul]
                        exact Nat.mul_mod_left _ _
                    obtain ⟨E', rr, hg⟩ := hw1.newR e o.dst (by omega) (by rw [hsize, f3]; exact Nat.mul_mod_left _ _) hpat (l := sl + m) (c := cap) (lo := l1 + l2) (hi := h1 + h2) (by omega) (by omega) k1 (by rw [hsize, f3]; exact Nat.le_refl _)
                    unfold Oper.wp
                    rw [exec _ _ k2, Oper.upon_value]
                    exact hk _ _ (GoodL.one rr hg)
              · cases hm
            · cases hm
          · cases hm
        · cases hm
      · cases hm
    · cases hm
  · cases hm
omit hT in
theorem wp_callF (hH : X.hd = Γ.hd) (hS : SoundT X.P X.CP Γ.T) {o : Oper} {c : Call} {f : FuncId} (ho : o.op = .call c) (hcal : c.callee = .value (.func f)) {L : List St} (hm : memOp Γ o S = some L) (hk : ∀ a' w', GoodL X E L a' w' → Kn a' w') : o.wp X.P a w Kn Q := by
  obtain ⟨callee, args, argTypes⟩ := c
  simp only at hcal
  subst hcal
  unfold memOp at hm
  simp only [ho, callM, funM] at hm
  split at hm
  · cases hm
  · rename_i blk hblk
    split at hm
    · cases hm
    · rename_i outs houts
      cases hm
      have hargs := hasArgs_eval h args.toList
      have hent := (hS _ _ _ _ houts).1
      have hrun : (execOp a.eval o).run X.P w = .ok (.enter f (args.map a.eval)) w := by
        simp [execOp, ho, resolve, Deferred.ofValue, Act.eval, invoke, hent]
      unfold Oper.wp
      rw [hrun, Oper.upon_enter]
      generalize hb : findPtr (args.toList.map S.eval) = b at hblk houts hk
      have hcall := (hS _ _ _ _ houts).2
      cases b with
      | none =>
        cases hblk
        have hA : hasArgs (envK E.K) ((args.toList.map S.eval).map (mapAV (mapArg none))) (args.map a.eval).toList := by
          rw [Array.toList_map]
          exact hasArgs_map (fun s v hv => mapArg_ok (E := E) (E' := envK E.K) rfl (fun x hx => by cases hx) hv) hargs
        refine (hcall (envK E.K) w _ hA h.kinv rfl).mono ?_
        rintro e w' ⟨v, K', rfl, k1, k2, q, hq, k3, _, klt⟩
        have hg := h.called (b := none) (blk := none) (g := (envK E.K).β 0) k1 k2 (fun x hx => by cases hx) (fun _ => rfl) (fun x hx => by cases hx) (o := q) (bl' := S.bl) (.inl ⟨rfl, rfl⟩)
        obtain ⟨E', r, h4⟩ := hg.putF o.dst (k3.ext (envK_ext (E := { E with K := K' }) fun _ _ hh => hh))
        cases hlt : q.lt with
        | none =>
          refine hk _ _ ⟨_, List.mem_map.2 ⟨q, hq, rfl⟩, E', ⟨r.ext.nx, r.ext.σ⟩, ?_⟩
          simp only [hlt]
          exact h4
        | some k =>
          refine hk _ _ ⟨_, List.mem_map.2 ⟨q, hq, rfl⟩, E', ⟨r.ext.nx, r.ext.σ⟩, ?_⟩
          simp only [hlt]
          obtain ⟨kd, n, kd', m, e1, e2, e3⟩ := klt k hlt
          refine h4.addLt (v := v) (u := .int kd' m) (fun d hd hdl => ?_) ?_ ⟨kd, n, kd', m, e1, rfl, e3⟩
          · rw [hd] at hdl ⊢
            have hdl2 : d < a.tmps.size := by simpa [Act.put] using hdl
            simp [Act.put, Array.getD_eq_getD_getElem?, Array.getElem?_setIfInBounds_self_of_lt hdl2]
          · have hkl : k < args.toList.length := by
              refine Nat.lt_of_not_le fun hle => ?_
              rw [List.getD_eq_getElem?_getD, List.getElem?_eq_none (by simpa using hle)] at e2
              cases e2
            have h5 := hargs.get k (by simpa using hkl)
            have e4 : (args.toList.map a.eval).getD k undef = .int kd' m := by
              rw [← e2, Array.toList_map]
            rw [e4] at h5
            exact h5.ext ((show Ext E { E with K := K' } from ⟨Nat.le_refl _, fun _ _ => rfl, Nat.le_refl _, fun _ _ => rfl, fun g kk hh => (k2.kext g (h.kinv.lt hh)).trans hh⟩).trans r.ext)
      | some x =>
        simp only at hblk
        cases hdx : Γ.hd.contains x with
        | true => rw [hdx] at hblk; cases hblk
        | false =>
        rw [hdx] at hblk
        simp only [Bool.false_eq_true, if_false] at hblk
        have hxd : x ∉ X.hd := by rw [hH]; simpa using hdx
        cases hx : S.bl[x]? with
        | none => rw [hx] at hblk; cases hblk
        | some tc =>
          obtain ⟨t, cs⟩ := tc
          rw [hx] at hblk
          cases hblk
          obtain ⟨b1, b2, us, b3, b4⟩ := h.blks.at_ x t cs hx
          let E1 : Env := ⟨fun _ => 0, 0, fun _ => E.β x, 1, E.K⟩
          have hA : hasArgs E1 ((args.toList.map S.eval).map (mapAV (mapArg (some x)))) (args.map a.eval).toList := by
            rw [Array.toList_map]
            exact hasArgs_map (fun s v hv => mapArg_ok (E := E) (E' := E1) rfl (fun y hy => by cases hy; exact ⟨rfl, rfl⟩) hv) hargs
          refine (hcall E1 w _ hA h.kinv ⟨rfl, b1, us, b3, b4.map (fun s v hv => stripSV_ok (E := E) (E' := E1) (fun _ _ hh => hh) hv)⟩).mono ?_
          rintro e w' ⟨v, K', rfl, k1, k2, q, hq, k3, ⟨us', k4, k5⟩, _⟩
          obtain ⟨E2, r2, n2, h6⟩ := freshL_ok (E := { E with K := K' }) (k5.ext (envK_ext (E := { E with K := K' }) fun _ _ hh => hh))
          have hg := h.called (b := some x) (blk := some (t, cs.map stripSV)) (g := E.β x) k1 k2 (fun y hy => by cases hy; exact ⟨rfl, (List.getElem?_eq_some_iff.1 hx).1⟩) (fun hy => by cases hy) (fun y hy => by cases hy; exact hxd) (o := q) (bl' := S.bl.set x (t, q.blk)) (.inr ⟨x, t, cs, q.blk, rfl, hx, rfl, us', k4, k5⟩)
          -- the names of the block's cells
          have hg2 := hg.ren r2
          have hlt := (List.getElem?_eq_some_iff.1 hx).1
          have hg3 : Good X E2 { S with nx := E2.nx, bl := S.bl.set x (t, (freshL q.blk S.nx).1) } a w' := by
            have h7 := hg2.blkStore (b := x) (o := 0) (t := t) (cs := q.blk) (ns := (freshL q.blk S.nx).1) (vs := us') (vs' := us') (us := us'.toList) (w' := w') (by simp [hlt]) (Upd.refl _ _) (by rw [r2.β]; exact k4) (by rw [r2.β]; exact k4) ?_ ?_ hxd
            · have e1 : setR q.blk 0 (freshL q.blk S.nx).1 = (freshL q.blk S.nx).1 := by
                have key : ∀ (ns pre cs : List SV), ns.length = cs.length → setR (pre ++ cs) pre.length ns = pre ++ ns := by
                  intro ns
                  induction ns with
                  | nil => intro pre cs hl; have : cs = [] := List.eq_nil_of_length_eq_zero (by simpa using hl.symm); subst this; rfl
                  | cons n ns ih =>
                    intro pre cs hl
                    cases cs with
                    | nil => simp at hl
                    | cons c cs =>
                      rw [setR]
                      have e2 : (pre ++ c :: cs).set pre.length n = (pre ++ [n]) ++ cs := by simp
                      rw [e2]
                      have := ih (pre ++ [n]) cs (by simpa using hl)
                      rw [List.length_append] at this
                      simpa using this
                have hl2 : (freshL q.blk S.nx).1.length = q.blk.length := by
                  have a1 := h6.length
                  have a2 := k5.length
                  have e3 : ({ E with K := K' } : Env).nx = S.nx := h.nx
                  rw [e3] at a1
                  omega
                simpa using key (freshL q.blk S.nx).1 [] q.blk hl2
              rw [e1] at h7
              simpa using h7
            · have key : ∀ (ns pre cs : List Value), ns.length = cs.length → setV (pre ++ cs) pre.length ns = pre ++ ns := by
                intro ns
                induction ns with
                | nil => intro pre cs hl; have : cs = [] := List.eq_nil_of_length_eq_zero (by simpa using hl.symm); subst this; rfl
                | cons n ns ih =>
                  intro pre cs hl
                  cases cs with
                  | nil => simp at hl
                  | cons c cs =>
                    rw [setV]
                    have e2 : (pre ++ c :: cs).set pre.length n = (pre ++ [n]) ++ cs := by simp
                    rw [e2]
                    have := ih (pre ++ [n]) cs (by simpa using hl)
                    rw [List.length_append] at this
                    simpa using this
              simpa using (key us'.toList [] us'.toList rfl).symm
            · have e3 : ({ E with K := K' } : Env).nx = S.nx := h.nx
              rw [e3] at h6
              exact h6
          have h8 : hasAV E2 q.res v := k3.ext (envK_ext (E := E2) fun g k hh => by rw [r2.K]; exact hh)
          obtain ⟨E3, r3, h9⟩ := hg3.putF o.dst h8
          have e3 : ({ E with K := K' } : Env).nx = S.nx := h.nx
          refine hk _ _ ⟨_, List.mem_map.2 ⟨q, hq, rfl⟩, E3, ?_, ?_⟩
          · exact Rel.trans (B := E2) ⟨r2.ext.nx, r2.ext.σ⟩ r3.ext.rel
          · rw [e3] at n2
            simp only [hx]
            rw [n2] at h9
            exact h9
end
end Go.Proofs.Ytnoelppkcbelcaa.Ty
