/-
The cursor in memory, and its two reads, as the interpreter asks for them; what a draw leaves.
-/
import Derived.Test.YtnoelppkcbelcaaMFx0
import Derived.Test.YtnoelppkcbelcaaMFx5
import Derived.Test.YtnoelppkcbelcaaTyC
import Derived.Test.YtnoelppkcbelcaaTyQ
import Derived.Test.YtnoelppkcbelcaaBit
import Derived.Test.YtnoelppkcbelcaaLst
set_option linter.unusedVariables false
set_option linter.unusedSimpArgs false
namespace Go.Proofs.Ytnoelppkcbelcaa.MFC
open Go Go.RowKit Go.Proofs.Ytnoelppkcbelcaa.MF Go.Proofs.YtnoelppkcbelcaaW.PrintWords Go.Proofs.YtnoelppkcbelcaaW.PrintLast Go.Proofs.Ytnoelppkcbelcaa.Bit Go.Proofs.Ytnoelppkcbelcaa.Lst Go.Proofs.Ytnoelppkcbelcaa.Ty

theorem and255 (x : Int) : 0 ≤ Go.bits .and .i64 x 255 ∧ Go.bits .and .i64 x 255 ≤ 255 := by
  have h : Go.bits .and .i64 x 255 = wrap64 (((BitVec.ofInt 64 x &&& 255#64).toNat : Nat) : Int) := (i64_w _)
  have b : (BitVec.ofInt 64 x &&& 255#64).toNat ≤ 255 := by
    rw [BitVec.toNat_and]
    exact Nat.and_le_right
  rw [h]
  generalize (BitVec.ofInt 64 x &&& 255#64).toNat = v at b
  rw [wrap_in (by omega) (by omega)]
  omega
/-- A place in the bytes that are drawn from. -/
def At (L : List Int) (p : Int) : Prop := 0 ≤ p ∧ p ≤ (L.length : Int) ∧ (L.length : Int) < 4611686018427387904
theorem byte_ok (L : List Int) (p s : Int) (h : At L p) : ∃ v p' s', spec_l01Byte.f L p s = some (v, p', s') ∧ (0 ≤ v ∧ v ≤ 255) ∧ At L p' := by
  obtain ⟨h0, h1, h2⟩ := h
  unfold spec_l01Byte.f
  by_cases c : p < (L.length : Int)
  · rw [if_pos c, if_pos h0]
    refine ⟨_, _, _, rfl, and255 _, ?_⟩
    rw [wrap_in (by omega) (by omega)]
    exact ⟨by omega, by omega, h2⟩
  · rw [if_neg c]
    exact ⟨_, _, _, rfl, and255 _, h0, h1, h2⟩
theorem below_ok (L : List Int) (p s n : Int) (h : At L p) (hn : 0 < n) : ∃ v p' s', spec_l01Below.f L p s n = some (v, p', s') ∧ (0 ≤ v ∧ v < n) ∧ At L p' := by
  unfold spec_l01Below.f
  rw [if_neg (by omega)]
  by_cases c : n ≤ 256
  · obtain ⟨v, p', s', e, hv, hp⟩ := byte_ok L p s h
    rw [if_pos c, e]
    refine ⟨Int.tmod v n, p', s', by simp only [Option.bind_some]; rw [if_neg (by omega)], ?_, hp⟩
    rw [Int.tmod_eq_emod_of_nonneg hv.1]
    exact ⟨Int.emod_nonneg _ (by omega), Int.emod_lt_of_pos _ hn⟩
  · obtain ⟨v0, p0, s0, e0, hv0, hp0⟩ := byte_ok L p s h
    obtain ⟨v1, p1, s1, e1, hv1, hp1⟩ := byte_ok L p0 s0 hp0
    obtain ⟨v2, p2, s2, e2, hv2, hp2⟩ := byte_ok L p1 s1 hp1
    obtain ⟨v3, p3, s3, e3, hv3, hp3⟩ := byte_ok L p2 s2 hp2
    have a0 : wrap64 (v0 * 16777216) = v0 * 16777216 := wrap_in (by omega) (by omega)
    have a1 : wrap64 (v1 * 65536) = v1 * 65536 := wrap_in (by clear a0; omega) (by clear a0; omega)
    have a2 : wrap64 (v2 * 256) = v2 * 256 := wrap_in (by clear a0 a1; omega) (by clear a0 a1; omega)
    have a3 : wrap64 (v0 * 16777216 + v1 * 65536) = v0 * 16777216 + v1 * 65536 := wrap_in (by clear a0 a1 a2; omega) (by clear a0 a1 a2; omega)
    have a4 : wrap64 (v0 * 16777216 + v1 * 65536 + v2 * 256) = v0 * 16777216 + v1 * 65536 + v2 * 256 := wrap_in (by clear a0 a1 a2 a3; omega) (by clear a0 a1 a2 a3; omega)
    have a5 : wrap64 (v0 * 16777216 + v1 * 65536 + v2 * 256 + v3) = v0 * 16777216 + v1 * 65536 + v2 * 256 + v3 := wrap_in (by clear a0 a1 a2 a3 a4; omega) (by clear a0 a1 a2 a3 a4; omega)
    rw [if_neg c, e0]
    simp only [Option.bind_some, e1, e2, e3, a0, a1, a2, a3, a4, a5]
    clear a0 a1 a2 a3 a4 a5
    rw [if_neg (by omega)]
    refine ⟨_, _, _, rfl, ?_, hp3⟩
    rw [Int.tmod_eq_emod_of_nonneg (by omega)]
    exact ⟨Int.emod_nonneg _ (by omega), Int.emod_lt_of_pos _ hn⟩
theorem new_ok (L : List Int) (hL : (L.length : Int) < 4611686018427387904) : ∃ s, Ev (fun k => spec_l01New.f k L) (L, 0, s) := by
  have go : ∀ (d i : Nat) (x : Int), i + d = L.length → ∃ s, Ev (fun k => spec_l01New.l0 k L x (i : Int)) (L, 0, s) := by
    intro d
    induction d with
    | zero =>
      intro i x h
      refine ⟨x, Ev.step (f := fun _ => some (L, 0, x)) (fun k => ?_) (Ev.now _)⟩
      simp only [spec_l01New.l0]
      rw [if_neg (by omega)]
    | succ d ih =>
      intro i x h
      by_cases c : (i : Int) < 4000
      · obtain ⟨s, hs⟩ := ih (i + 1) (Go.bits .and .i64 (wrap64 ((wrap64 ((wrap64 (x * 131)) + (wrap64 (rd L (i : Int))))) + 7)) 1073741823) (by omega)
        refine ⟨s, Ev.step (fun k => ?_) hs⟩
        simp only [spec_l01New.l0]
        rw [if_pos (by omega), if_pos c, if_pos (by omega), w1 (by omega)]
      · refine ⟨x, Ev.step (f := fun _ => some (L, 0, x)) (fun k => ?_) (Ev.now _)⟩
        simp only [spec_l01New.l0]
        rw [if_pos (by omega), if_neg c]
  unfold spec_l01New.f
  exact go L.length 0 _ (by omega)
theorem at_zero (L : List Int) (hL : (L.length : Int) < 4611686018427387904) : At L 0 := ⟨by omega, by omega, hL⟩

/-- What a cursor's block holds: bytes of the first world, a place in them; that world's blocks are known. -/
def CPof (W0 : World) (K : Nat → Option KT) (vs : List Value) : Prop :=
  (∀ x o, W0.heap[x]? = some o → K x = some (.ro o)) ∧ ∃ A0 c0 f0 f1 f2, vs = [.int .i64 ((79 : Nat) : Int), .slice A0 f0.length c0, .int .i64 f1, .int .i64 f2] ∧ Kd.C (Kd.int .u8) W0 A0 f0.length f0 ∧ At f0 f1
theorem cp_mono (W0 : World) (K K' : Nat → Option KT) (h : ∀ g k, K g = some k → K' g = some k) (vs : List Value) (hc : CPof W0 K vs) : CPof W0 K' vs := ⟨fun x o ho => h _ _ (hc.1 x o ho), hc.2⟩
/-- The world with the first world's memory. -/
abbrev old (W0 w : World) : World := { w with heap := W0.heap }
section
variable {W0 w w' : World} {K : Nat → Option KT} {g : Nat}
theorem kinv_old (hK : KInv (CPof W0) K w) (hr : ∀ x o, W0.heap[x]? = some o → K x = some (.ro o)) : Below W0.heap.size (old W0 w) w := by
  refine ⟨rfl, rfl, rfl, ?_, fun k hk => ?_⟩
  · show W0.heap.size ≤ w.heap.size
    by_cases h0 : W0.heap.size = 0
    · omega
    · have hlt : W0.heap.size - 1 < W0.heap.size := by omega
      have := hK.lt (hr _ _ (Array.getElem?_eq_getElem hlt))
      omega
  · show w.heap[k]? = W0.heap[k]?
    rw [Array.getElem?_eq_getElem hk]
    exact hK.ros _ _ (hr _ _ (Array.getElem?_eq_getElem hk))
theorem cur_is (hK : KInv (CPof W0) K w) (hg : K g = some .cur) : ∃ f0 f1 f2, IsS79 (old W0 w) w g f0 f1 f2 ∧ Below (old W0 w).heap.size (old W0 w) w ∧ At f0 f1 := by
  obtain ⟨cs, t, h1, hr, A0, c0, f0, f1, f2, e, h2, h3⟩ := hK.curs g hg
  obtain ⟨cs⟩ := cs
  simp only [List.cons.injEq, Value.int.injEq, true_and] at e
  obtain ⟨e1, e2⟩ := e
  obtain rfl : t = 79 := by first | exact e1 | exact Int.ofNat.inj e1
  subst e2
  refine ⟨f0, f1, f2, ⟨A0, c0, h1, ?_, h2⟩, kinv_old hK hr, h3⟩
  show W0.heap.size ≤ g
  rcases Nat.lt_or_ge g W0.heap.size with h | h
  · have := hr _ _ (Array.getElem?_eq_getElem h)
    rw [hg] at this
    cases this
  · exact h
theorem cur_step (hK : KInv (CPof W0) K w) (hg : K g = some .cur) {f0 : List Int} {f1 f2 : Int} (hi : IsS79 (old W0 w) w' g f0 f1 f2) (hb : Below (old W0 w).heap.size (old W0 w) w') (hk : KeepBut w w' g none) (ha : At f0 f1) : KInv (CPof W0) K w' ∧ Fr K none w K w' := by
  have keep : ∀ x k, K x = some k → x ≠ g → w'.heap[x]? = w.heap[x]? := fun x k hx hne => hk.2 x (hK.lt hx) hne (by simp)
  obtain ⟨_, _, _, hr, _⟩ := hK.curs g hg
  refine ⟨⟨fun x cts n hx => ?_, fun x hx => ?_, fun x o hx => ?_⟩, ⟨hb.os, hb.tape, hb.output, hk.1, fun x hx hn _ => hk.2 x hx (by rintro rfl; rw [hg] at hn; cases hn) (by simp), fun _ _ => rfl⟩⟩
  · rw [keep x _ hx (by rintro rfl; rw [hg] at hx; cases hx)]
    exact hK.rows x cts n hx
  · by_cases hxg : x = g
    · subst hxg
      obtain ⟨A0, c0, h1, _, h2⟩ := hi
      exact ⟨_, _, h1, hr, A0, c0, f0, f1, f2, rfl, h2, ha⟩
    · rw [keep x _ hx hxg]
      exact hK.curs x hx
  · rw [keep x _ hx (by rintro rfl; rw [hg] at hx; cases hx)]
    exact hK.ros x o hx
end
theorem hyp (W0 : World) : Hyp (CPof W0) := by
  refine ⟨cp_mono W0, ⟨ent_ Try.func61 rfl rfl, fun E w vs hA hK _ => ?_⟩, fun hi => ⟨ent_ Try.func39 rfl rfl, fun E w vs hA hK _ => ?_⟩⟩
  · obtain ⟨vs⟩ := vs
    match vs, hA with
    | [v], hA =>
      obtain ⟨g, rfl, hg⟩ : ∃ g, v = .pointer (some ⟨g, 0, none⟩) ∧ E.K g = some .cur := hA.1
      obtain ⟨f0, f1, f2, h1, h2, h3⟩ := cur_is hK hg
      obtain ⟨x, p, s, e, hx, hp⟩ := byte_ok f0 f1 f2 h3
      refine (spec_l01Byte.calls g f0 f1 f2 x p s (old W0 w) w h1 h2 e).mono ?_
      rintro e w' ⟨rfl, hi, hb, hk⟩
      obtain ⟨k1, k2⟩ := cur_step hK hg hi hb hk hp
      exact ⟨_, E.K, rfl, k1, k2, _, List.mem_singleton.2 rfl, ⟨x, rfl, hx.1, hx.2, fun s d hs => (by cases hs)⟩, trivial, LtOut.no rfl _ _⟩
    | [], hA => exact hA.elim
    | _ :: _ :: _, hA => exact hA.2.elim
  · obtain ⟨vs⟩ := vs
    match vs, hA with
    | [v, u], hA =>
      obtain ⟨g, rfl, hg⟩ : ∃ g, v = .pointer (some ⟨g, 0, none⟩) ∧ E.K g = some .cur := hA.1
      obtain ⟨n, rfl, hn1, hn2, _⟩ : ∃ n, u = .int .i64 n ∧ 1 ≤ n ∧ n ≤ hi ∧ ∀ s d, (none : Option (Nat × Int)) = some (s, d) → s < E.nx ∧ n = E.σ s + d := hA.2.1
      obtain ⟨f0, f1, f2, h1, h2, h3⟩ := cur_is hK hg
      obtain ⟨x, p, s, e, hx, hp⟩ := below_ok f0 f1 f2 n h3 (by omega)
      refine (spec_l01Below.calls g f0 f1 f2 n x p s (old W0 w) w h1 h2 e).mono ?_
      rintro e w' ⟨rfl, hi, hb, hk⟩
      obtain ⟨k1, k2⟩ := cur_step hK hg hi hb hk hp
      refine ⟨_, E.K, rfl, k1, k2, _, List.mem_singleton.2 rfl, ⟨x, rfl, hx.1, by omega, fun s d hs => (by cases hs)⟩, trivial, fun k hk => ?_⟩
      obtain rfl : 1 = k := by simpa using hk
      exact ⟨_, x, _, n, rfl, rfl, hx.2⟩
    | [], hA => exact hA.elim
    | [_], hA => exact hA.2.elim
    | _ :: _ :: _ :: _, hA => exact hA.2.2.elim

/-- The blocks behind a new cursor. -/
def K1 (W0 : World) (g : Nat) : Nat → Option KT := fun x => if x < W0.heap.size then (W0.heap[x]?).map .ro else if x = g then some .cur else none
theorem k1_cur {W0 w : World} {g : Nat} {L : List Int} {p s : Int} (hi : IsS79 W0 w g L p s) : K1 W0 g g = some .cur := by
  have := hi.ge
  unfold K1
  rw [if_neg (by omega), if_pos rfl]
theorem k1_ok {W0 w : World} {g : Nat} {L : List Int} {p s : Int} (hi : IsS79 W0 w g L p s) (hb : Below W0.heap.size W0 w) (ha : At L p) : KInv (CPof W0) (K1 W0 g) w := by
  have hr : ∀ x o, W0.heap[x]? = some o → K1 W0 g x = some (.ro o) := fun x o ho => by
    unfold K1
    rw [if_pos (Array.getElem?_eq_some_iff.1 ho).1, ho]
    rfl
  have inv : ∀ x k, K1 W0 g x = some k → (x < W0.heap.size ∧ ∃ o, W0.heap[x]? = some o ∧ k = .ro o) ∨ (x = g ∧ k = .cur) := fun x k hx => by
    unfold K1 at hx
    split at hx
    · rename_i hlt
      rw [Array.getElem?_eq_getElem hlt] at hx
      cases hx
      exact .inl ⟨hlt, _, Array.getElem?_eq_getElem hlt, rfl⟩
    · split at hx
      · rename_i e
        cases hx
        exact .inr ⟨e, rfl⟩
      · cases hx
  refine ⟨fun x cts n hx => ?_, fun x hx => ?_, fun x o hx => ?_⟩
  · rcases inv x _ hx with ⟨_, o, _, e⟩ | ⟨_, e⟩ <;> cases e
  · rcases inv x _ hx with ⟨_, o, _, e⟩ | ⟨rfl, _⟩
    · cases e
    · obtain ⟨A0, c0, h1, _, h2⟩ := hi
      exact ⟨_, _, h1, hr, A0, c0, L, p, s, rfl, h2, ha⟩
  · rcases inv x _ hx with ⟨hlt, o', ho, e⟩ | ⟨_, e⟩
    · cases e
      rw [hb.block x hlt]
      exact ho
    · cases e
/-- Behind what the interpreter went through, the first world's memory stands. -/
theorem back {W0 w w' : World} {g : Nat} {K' : Nat → Option KT} (hb : Below W0.heap.size W0 w) (hk : KInv (CPof W0) K' w') (hf : Fr (K1 W0 g) none w K' w') : Below W0.heap.size W0 w' := by
  refine ⟨hf.os.trans hb.os, hf.tape.trans hb.tape, hf.output.trans hb.output, Nat.le_trans hb.size hf.size, fun k h => ?_⟩
  have h1 : K' k = some (.ro W0.heap[k]) := by
    rw [hf.kext k (Nat.lt_of_lt_of_le h hb.size)]
    unfold K1
    rw [if_pos h, Array.getElem?_eq_getElem h]
    rfl
  rw [Array.getElem?_eq_getElem h]
  exact hk.ros _ _ h1
theorem wf_int {k : IntKind} {n : Int} (h1 : k.min ≤ n) (h2 : n ≤ k.max) : (Lit.int k n).wf = true := by
  simp only [Lit.wf, Bool.and_eq_true, decide_eq_true_eq]
  exact ⟨h1, h2⟩
/-- A row of cycles. -/
theorem cycs_back {CP : (Nat → Option KT) → List Value → Prop} {K : Nat → Option KT} {w : World} (hk : KInv CP K w) {lo hi : Nat} (hm : hi ≤ 9223372036854775807) {v : Value} (h : hasSV (envK K) (.slice cycC lo hi none) v) :
    ∃ A c l, v = .slice A l.length c ∧ l.length ≤ c ∧ Kd.C k32 w A l.length l ∧ lo ≤ l.length ∧ l.length ≤ hi ∧ ∀ x ∈ l, (Lit.int .u16 x.f0).wf = true ∧ (Lit.int .u8 x.f1).wf = true := by
  obtain ⟨a, n, c, rfl, h1, h2, h3, _, h5, h6⟩ := h
  cases a with
  | none =>
    have : c = 0 := h5 rfl
    obtain rfl : n = 0 := by omega
    exact ⟨none, c, [], rfl, Nat.zero_le _, Kd.C_nil _ _, h1, h2, fun x hx => by cases hx⟩
  | some ad =>
    obtain ⟨hs, N, hK, ho, hc⟩ := h6 ad rfl
    obtain ⟨g, off, spot⟩ := ad
    simp only at hs
    subst hs
    obtain ⟨cs, t, b1, b2, b3, b4, b5⟩ := hk.rows g cycC N hK
    have hl3 : cycC.length = 3 := rfl
    rw [hl3] at ho hc b4
    have ho' : off % 3 = 0 := ho
    have hc' : off + c * 3 ≤ N := hc
    have cell : ∀ j, j < n → ∃ x : S32, ((Lit.int .u16 x.f0).wf = true ∧ (Lit.int .u8 x.f1).wf = true) ∧ ∀ i u, ([.int .u16 x.f0, .int .u8 x.f1, .bool x.f2] : List Value)[i]? = some u → cs[off + (j * 3 + i)]? = some u := fun j hj => by
      obtain ⟨c0, v0, p0, q0, r0⟩ := b5 (off + j * 3 + 0) (by omega)
      obtain ⟨c1, v1, p1, q1, r1⟩ := b5 (off + j * 3 + 1) (by omega)
      obtain ⟨c2, v2, p2, q2, r2⟩ := b5 (off + j * 3 + 2) (by omega)
      rw [hl3, show (off + j * 3 + 0) % 3 = 0 by omega] at p0
      rw [hl3, show (off + j * 3 + 1) % 3 = 1 by omega] at p1
      rw [hl3, show (off + j * 3 + 2) % 3 = 2 by omega] at p2
      obtain rfl : u16 = c0 := by simpa [cycC] using p0
      obtain rfl : u8 = c1 := by simpa [cycC] using p1
      obtain rfl : CT.bool = c2 := by simpa [cycC] using p2
      obtain ⟨x0, rfl, x1, x2⟩ := r0
      obtain ⟨y0, rfl, y1, y2⟩ := r1
      obtain ⟨z, rfl⟩ := r2
      refine ⟨⟨x0, y0, z⟩, ⟨wf_int x1 x2, wf_int y1 y2⟩, fun i u hu => ?_⟩
      rw [show off + (j * 3 + i) = off + j * 3 + i by omega]
      match i, hu with
      | 0, hu => rw [q0]; simpa using hu
      | 1, hu => rw [q1]; simpa using hu
      | 2, hu => rw [q2]; simpa using hu
      | i + 3, hu => simp at hu
    have build : ∀ m, m ≤ n → ∃ l : List S32, l.length = m ∧ (∀ x ∈ l, (Lit.int .u16 x.f0).wf = true ∧ (Lit.int .u8 x.f1).wf = true) ∧ ∀ j x, l[j]? = some x → ∀ i u, ([.int .u16 x.f0, .int .u8 x.f1, .bool x.f2] : List Value)[i]? = some u → cs[off + (j * 3 + i)]? = some u := by
      intro m
      induction m with
      | zero => exact fun _ => ⟨[], rfl, (fun x hx => by cases hx), (fun j x hx => by simp at hx)⟩
      | succ m ih =>
        intro hm
        obtain ⟨l, e, hw, hl⟩ := ih (by omega)
        obtain ⟨x, hx1, hx2⟩ := cell m (by omega)
        refine ⟨l ++ [x], by simp [e], fun y hy => ?_, fun j y hy => ?_⟩
        · rcases List.mem_append.1 hy with h | h
          · exact hw y h
          · obtain rfl := List.mem_singleton.1 h
            exact hx1
        · rw [List.getElem?_append] at hy
          split at hy
          · exact hl j y hy
          · rename_i hj
            have : j - l.length = 0 := by
              rcases Nat.eq_zero_or_pos (j - l.length) with h | h
              · exact h
              · rw [List.getElem?_eq_none (by simp only [List.length_singleton]; omega)] at hy
                cases hy
            rw [this] at hy
            obtain rfl : x = y := by simpa using hy
            obtain rfl : j = m := by omega
            exact hx2
    obtain ⟨l, e, hw, hl⟩ := build n (Nat.le_refl _)
    subst e
    refine ⟨_, c, l, rfl, h3, ⟨rfl, by omega, fun _ => ⟨_, rfl, fun j x hx => ⟨[.int .u16 x.f0, .int .u8 x.f1, .bool x.f2], rfl, ⟨_, _, rfl, rfl, _, _, rfl, rfl, rfl⟩, fun i u hu => ?_⟩⟩⟩, h1, h2, hw⟩
    have := hl j x hx i u hu
    rw [show (⟨g, off, none⟩ : Addr).add (j * k32.sz + i) = ⟨g, off + (j * 3 + i), none⟩ by
      unfold Addr.add
      split
      · rename_i h0
        have h0' : j * 3 + i = 0 := h0
        rw [h0']
        rfl
      · rfl]
    rw [blk_cell b1]
    exact this
/-- A row of numbers. -/
theorem ints_back {CP : (Nat → Option KT) → List Value → Prop} {K : Nat → Option KT} {w : World} (hk : KInv CP K w) {kd : IntKind} {a b : Int} {lo hi : Nat} (hm : hi ≤ 9223372036854775807) {v : Value} (h : hasSV (envK K) (.slice [.int kd a b] lo hi none) v) :
    ∃ A c l, v = .slice A l.length c ∧ l.length ≤ c ∧ Kd.C (Kd.int kd) w A l.length l ∧ lo ≤ l.length ∧ l.length ≤ hi ∧ ∀ x ∈ l, a ≤ x ∧ x ≤ b := by
  obtain ⟨ad, n, c, rfl, h1, h2, h3, _, h5, h6⟩ := h
  cases ad with
  | none =>
    have : c = 0 := h5 rfl
    obtain rfl : n = 0 := by omega
    exact ⟨none, c, [], rfl, Nat.zero_le _, Kd.C_nil _ _, h1, h2, fun x hx => by cases hx⟩
  | some ad =>
    obtain ⟨hs, N, hK, ho, hc⟩ := h6 ad rfl
    obtain ⟨g, off, spot⟩ := ad
    simp only at hs
    subst hs
    obtain ⟨cs, t, b1, b2, b3, b4, b5⟩ := hk.rows g _ N hK
    have hc' : off + c * 1 ≤ N := hc
    have cell : ∀ j, j < n → ∃ x : Int, (a ≤ x ∧ x ≤ b) ∧ cs[off + j]? = some (.int kd x) := fun j hj => by
      obtain ⟨c0, v0, p0, q0, r0⟩ := b5 (off + j) (by omega)
      obtain rfl : CT.int kd a b = c0 := by simpa [Nat.mod_one] using p0
      obtain ⟨x0, rfl, x1, x2⟩ := r0
      exact ⟨x0, ⟨x1, x2⟩, q0⟩
    have build : ∀ m, m ≤ n → ∃ l : List Int, l.length = m ∧ (∀ x ∈ l, a ≤ x ∧ x ≤ b) ∧ ∀ j x, l[j]? = some x → cs[off + j]? = some (.int kd x) := by
      intro m
      induction m with
      | zero => exact fun _ => ⟨[], rfl, (fun x hx => by cases hx), (fun j x hx => by simp at hx)⟩
      | succ m ih =>
        intro hm
        obtain ⟨l, e, hw, hl⟩ := ih (by omega)
        obtain ⟨x, hx1, hx2⟩ := cell m (by omega)
        refine ⟨l ++ [x], by simp [e], fun y hy => ?_, fun j y hy => ?_⟩
        · rcases List.mem_append.1 hy with h | h
          · exact hw y h
          · obtain rfl := List.mem_singleton.1 h
            exact hx1
        · rw [List.getElem?_append] at hy
          split at hy
          · exact hl j y hy
          · rename_i hj
            have : j - l.length = 0 := by
              rcases Nat.eq_zero_or_pos (j - l.length) with h | h
              · exact h
              · rw [List.getElem?_eq_none (by simp only [List.length_singleton]; omega)] at hy
                cases hy
            rw [this] at hy
            obtain rfl : x = y := by simpa using hy
            obtain rfl : j = m := by omega
            exact hx2
    obtain ⟨l, e, hw, hl⟩ := build n (Nat.le_refl _)
    subst e
    refine ⟨_, c, l, rfl, h3, ⟨rfl, by omega, fun _ => ⟨_, rfl, fun j x hx => ⟨[.int kd x], rfl, rfl, fun i u hu => ?_⟩⟩⟩, h1, h2, hw⟩
    match i, hu with
    | 0, hu =>
      obtain rfl : Value.int kd x = u := by simpa using hu
      rw [show (⟨g, off, none⟩ : Addr).add (j * (Kd.int kd).sz + 0) = ⟨g, off + j, none⟩ by
        unfold Addr.add
        split
        · rename_i h0
          have h0' : j * 1 + 0 = 0 := h0
          rw [show j = 0 by omega]
          rfl
        · show (⟨g, off + (j * 1 + 0), none⟩ : Addr) = _
          rw [Nat.mul_one, Nat.add_zero]]
      rw [blk_cell b1]
      exact hl j x hx
    | i + 1, hu => simp at hu
end Go.Proofs.Ytnoelppkcbelcaa.MFC
