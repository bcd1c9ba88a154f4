/-
The draw of FnFire: at most nine rules and a capture of at most 160 cycles.
-/
import Derived.Test.YtnoelppkcbelcaaFTy16
set_option linter.unusedVariables false
set_option linter.unusedSimpArgs false
set_option maxHeartbeats 0
set_option maxRecDepth 100000
namespace Go.Proofs.Ytnoelppkcbelcaa.MFC
open Go Go.RowKit Go.Proofs.Ytnoelppkcbelcaa.MF Go.Proofs.YtnoelppkcbelcaaW.PrintWords Go.Proofs.YtnoelppkcbelcaaW.PrintLast Go.Proofs.Ytnoelppkcbelcaa.Bit Go.Proofs.Ytnoelppkcbelcaa.Lst Go.Proofs.Ytnoelppkcbelcaa.Ty

def trOut : List Out := [⟨.one (.cell (.slice cycC 0 160 none)), [], none⟩]
theorem e_trace : covers (analyze L65 Try.f33 (hin 33 noHow true) 200 [cur] none) trOut = true := by kernel_rfl
noncomputable def LT : Kit := L65.ent 33 [cur] trOut
theorem LT_ok {CP : (Nat → Option KT) → List Value → Prop} (hy : Hyp CP) : KitOK Try.prog CP LT := (L65_ok hy).ent ((L65_ok hy).call hy.cpm mix_ Try.func33 (ent_ Try.func33 rfl rfl) (fun _ _ _ _ _ _ => noLp fun _ => rfl) e_trace)
/-- A row of rules. -/
theorem rules_back {CP : (Nat → Option KT) → List Value → Prop} {K : Nat → Option KT} {w : World} (hk : KInv CP K w) {lo hi : Nat} (hm : hi ≤ 9223372036854775807) {v : Value} (h : hasSV (envK K) (.slice ruleC lo hi none) v) :
    ∃ A c l, v = .slice A l.length c ∧ l.length ≤ c ∧ Kd.C k51 w A l.length l ∧ lo ≤ l.length ∧ l.length ≤ hi ∧ ∀ x ∈ l, (0 ≤ x.f2 ∧ x.f2 < 256) ∧ (0 ≤ x.f3 ∧ x.f3 < 256) := by
  obtain ⟨a, n, c, rfl, h1, h2, h3, _, h5, h6⟩ := h
  cases a with
  | none =>
    have : c = 0 := h5 rfl
    obtain rfl : n = 0 := by omega
    exact ⟨none, c, [], rfl, Nat.zero_le _, Kd.C_nil _ _, h1, h2, fun x hx => by cases hx⟩
  | some ad =>
    obtain ⟨hs, N, hK, ho, hc⟩ := h6 ad rfl
    obtain ⟨g, off, spot⟩ := ad
    simp only at hs
    subst hs
    obtain ⟨cs, t, b1, b2, b3, b4, b5⟩ := hk.rows g ruleC N hK
    have hl3 : ruleC.length = 5 := rfl
    rw [hl3] at ho hc b4
    have ho' : off % 5 = 0 := ho
    have hc' : off + c * 5 ≤ N := hc
    have cell : ∀ j, j < n → ∃ x : S51, ((0 ≤ x.f2 ∧ x.f2 < 256) ∧ (0 ≤ x.f3 ∧ x.f3 < 256)) ∧ ∀ i u, ([.int .u16 x.f0, .int .u16 x.f1, .int .u8 x.f2, .int .u8 x.f3, .int .i64 x.f4] : List Value)[i]? = some u → cs[off + (j * 5 + i)]? = some u := fun j hj => by
      obtain ⟨c0, v0, p0, q0, r0⟩ := b5 (off + j * 5 + 0) (by omega)
      rw [hl3, show (off + j * 5 + 0) % 5 = 0 by omega] at p0
      obtain ⟨c1, v1, p1, q1, r1⟩ := b5 (off + j * 5 + 1) (by omega)
      rw [hl3, show (off + j * 5 + 1) % 5 = 1 by omega] at p1
      obtain ⟨c2, v2, p2, q2, r2⟩ := b5 (off + j * 5 + 2) (by omega)
      rw [hl3, show (off + j * 5 + 2) % 5 = 2 by omega] at p2
      obtain ⟨c3, v3, p3, q3, r3⟩ := b5 (off + j * 5 + 3) (by omega)
      rw [hl3, show (off + j * 5 + 3) % 5 = 3 by omega] at p3
      obtain ⟨c4, v4, p4, q4, r4⟩ := b5 (off + j * 5 + 4) (by omega)
      rw [hl3, show (off + j * 5 + 4) % 5 = 4 by omega] at p4
      obtain rfl : u16 = c0 := by simpa [ruleC] using p0
      obtain ⟨x0, rfl, m0, n0⟩ := r0
      obtain rfl : u16 = c1 := by simpa [ruleC] using p1
      obtain ⟨x1, rfl, m1, n1⟩ := r1
      obtain rfl : u8 = c2 := by simpa [ruleC] using p2
      obtain ⟨x2, rfl, m2, n2⟩ := r2
      obtain rfl : u8 = c3 := by simpa [ruleC] using p3
      obtain ⟨x3, rfl, m3, n3⟩ := r3
      obtain rfl : i64 = c4 := by simpa [ruleC] using p4
      obtain ⟨x4, rfl, m4, n4⟩ := r4
      refine ⟨⟨x0, x1, x2, x3, x4⟩, ⟨⟨m2, show x2 < 256 by omega⟩, ⟨m3, show x3 < 256 by omega⟩⟩, fun i u hu => ?_⟩
      rw [show off + (j * 5 + i) = off + j * 5 + i by omega]
      match i, hu with
      | 0, hu => rw [q0]; simpa using hu
      | 1, hu => rw [q1]; simpa using hu
      | 2, hu => rw [q2]; simpa using hu
      | 3, hu => rw [q3]; simpa using hu
      | 4, hu => rw [q4]; simpa using hu
      | i + 5, hu => simp at hu
    have build : ∀ m, m ≤ n → ∃ l : List S51, l.length = m ∧ (∀ x ∈ l, (0 ≤ x.f2 ∧ x.f2 < 256) ∧ (0 ≤ x.f3 ∧ x.f3 < 256)) ∧ ∀ j x, l[j]? = some x → ∀ i u, ([.int .u16 x.f0, .int .u16 x.f1, .int .u8 x.f2, .int .u8 x.f3, .int .i64 x.f4] : List Value)[i]? = some u → cs[off + (j * 5 + i)]? = some u := by
      intro m
      induction m with
      | zero => exact fun _ => ⟨[], rfl, (fun x hx => by cases hx), (fun j x hx => by simp at hx)⟩
      | succ m ih =>
        intro hm
        obtain ⟨l, e, hw, hl⟩ := ih (by omega)
        obtain ⟨x, hx1, hx2⟩ := cell m (by omega)
        refine ⟨l ++ [x], by simp [e], fun y hy => ?_, fun j y hy => ?_⟩
        · rcases List.mem_append.1 hy with h | h
          · exact hw y h
          · obtain rfl := List.mem_singleton.1 h
            exact hx1
        · rw [List.getElem?_append] at hy
          split at hy
          · exact hl j y hy
          · rename_i hj
            have : j - l.length = 0 := by
              rcases Nat.eq_zero_or_pos (j - l.length) with h | h
              · exact h
              · rw [List.getElem?_eq_none (by simp only [List.length_singleton]; omega)] at hy
                cases hy
            rw [this] at hy
            obtain rfl : x = y := by simpa using hy
            obtain rfl : j = m := by omega
            exact hx2
    obtain ⟨l, e, hw, hl⟩ := build n (Nat.le_refl _)
    subst e
    refine ⟨_, c, l, rfl, h3, ⟨rfl, by omega, fun _ => ⟨_, rfl, fun j x hx => ⟨[.int .u16 x.f0, .int .u16 x.f1, .int .u8 x.f2, .int .u8 x.f3, .int .i64 x.f4], rfl, k51_mk _ x, fun i u hu => ?_⟩⟩⟩, h1, h2, hw⟩
    have := hl j x hx i u hu
    rw [show (⟨g, off, none⟩ : Addr).add (j * k51.sz + i) = ⟨g, off + (j * 5 + i), none⟩ by
      unfold Addr.add
      split
      · rename_i h0
        have h0' : j * 5 + i = 0 := h0
        rw [h0']
        rfl
      · rfl]
    rw [blk_cell b1]
    exact this
def LIST : AV := .one (.cell (.slice cycC 0 160 none))
def ruOut : List Out := [⟨.one (.agg [sU16, sU16, sU8, sU8, .int .i64 (-9223372036854775808) 9223372036854775807 none]), [], none⟩]
def rusOut : List Out := [⟨.one (.cell (.slice ruleC 0 9 none)), [], none⟩]
theorem e_LR0 : covers (analyze LT Try.f66 { how := noHow, mg := true, U := 130, keep := some [0, 1, 4, 5, 6, 7, 8, 9, 11, 14, 15, 16, 17, 18, 19, 20, 21, 22, 23, 24, 25, 26, 27, 28, 29, 30, 31, 32, 33, 34, 35, 36, 37, 38, 39, 40, 41, 42, 43, 44, 45, 46, 47, 48, 49, 50, 51, 52, 53, 54, 55, 56, 57, 58, 59, 60, 61, 62], nm := [] } 200 [cur, LIST] none) ruOut = true := by kernel_rfl
noncomputable def LR0 : Kit := LT.ent 66 [cur, LIST] ruOut
theorem LR0_ok {CP : (Nat → Option KT) → List Value → Prop} (hy : Hyp CP) : KitOK Try.prog CP LR0 := (LT_ok hy).ent ((LT_ok hy).call hy.cpm mix_ Try.func66 (ent_ Try.func66 rfl rfl) (fun _ _ _ _ _ _ => noLp fun _ => rfl) e_LR0)
theorem e_LR1 : covers (analyze LR0 Try.f65 { how := noHow, mg := true, U := 130, keep := some [0, 1, 4, 5, 10], nm := [] } 200 [cur, LIST] none) ruOut = true := by kernel_rfl
noncomputable def LR1 : Kit := LR0.ent 65 [cur, LIST] ruOut
theorem LR1_ok {CP : (Nat → Option KT) → List Value → Prop} (hy : Hyp CP) : KitOK Try.prog CP LR1 := (LR0_ok hy).ent ((LR0_ok hy).call hy.cpm mix_ Try.func65 (ent_ Try.func65 rfl rfl) (fun _ _ _ _ _ _ => noLp fun _ => rfl) e_LR1)
theorem e_LR2 : covers (analyze LR1 Try.f44 { how := noHow, mg := true, U := 130, keep := some [0, 1, 4, 5, 6, 7, 8, 9], nm := [1, 7, 9] } 200 [cur, LIST] none) rusOut = true := by kernel_rfl
noncomputable def LR2 : Kit := LR1.ent 44 [cur, LIST] rusOut
theorem LR2_ok {CP : (Nat → Option KT) → List Value → Prop} (hy : Hyp CP) : KitOK Try.prog CP LR2 := (LR1_ok hy).ent ((LR1_ok hy).call hy.cpm mix_ Try.func44 (ent_ Try.func44 rfl rfl) (fun _ _ _ _ _ _ => noLp fun _ => rfl) e_LR2)
def behind : Code → Code
  | .seq _ (.seq _ c) => c
  | _ => .skip
def drawn : List Out := [⟨.tup [.cell (.slice ruleC 0 9 none), .cell (.slice cycC 0 160 none)], [], none⟩]
theorem e_draw : covers (analyzeFrom LR2 Try.f20 (hin 20 noHow true) 200 (behind (Try.f20.body.getD .skip)) ⟨[(4, .one (.cell .cur))], 14, [], [], 0, []⟩) drawn = true := by kernel_rfl
theorem DrawFire_leaves (Ac : Option Addr) (cc : Nat) (lc : List Int) (W : World) (hrc : Kd.C (Kd.int .u8) W Ac lc.length lc) (hcc : lc.length ≤ cc) (hlc : (lc.length : Int) < 4611686018427387904) :
    Calls Try.prog 20 #[.slice Ac lc.length cc] W fun e w' => ∃ v K', e = .returned v ∧ KInv (CPof W) K' w' ∧ Below W.heap.size W w' ∧ ∃ o ∈ drawn, hasAV (envK K') o.res v := by
  obtain ⟨s, hs⟩ := new_ok lc hlc
  obtain ⟨k, hk⟩ := hs
  go_enter Try.func20, Try.ntmps20
  refine wp_seq_k fun N1 hN1 => ?_
  have HN1 := Aside0.mk hN1
  clear hN1
  go_wp2
  refine HN1.out _ _ ?_
  clear HN1 N1
  refine wp_seq_k fun N2 hN2 => ?_
  have HN2 := Aside0.mk hN2
  clear hN2
  go_wp2_with (first | ((with_reducible refine gate_callee (f := 32) rfl ?_); refine goesL_ (some 7) rfl rfl Try.func32 (by kernel_rfl) rfl #[.slice Ac lc.length cc] rfl (by (try simp only [List.map_toArray, List.map_cons, List.map_nil]); first | done | rfl | (simp only [List.length_drop, List.length_take]; rfl)) ?_; (refine (spec_l01New.calls k Ac cc lc lc 0 s W _ (Below.refl _ _) hrc hcc (hk k (Nat.le_refl _))).mono ?_); rintro e w' ⟨g, rfl, hi, hb, _⟩; refine ⟨_, rfl, ?_⟩))
  refine HN2.out _ _ ?_
  clear HN2 N2
  refine wp_mono (from_ok (hyp W).cpm (LR2_ok (hyp W)) mix_ (fun _ => rfl) e_draw (start_good (hyp W).cpm (k1_ok hi hb (at_zero lc hlc)) (g := g) (by simp) rfl (k1_cur hi))) (leaves_post ?_)
  rintro e w1 ⟨v, K', rfl, h1, h2, h3⟩
  exact ⟨v, K', rfl, h1, back hb h1 h2, h3⟩
def DrawFire_ok (l0 : List S51) (l1 : List S32) : Prop := l0.length ≤ 1048576 ∧ l1.length ≤ 1048576 ∧ ∀ x ∈ l0, (0 ≤ x.f2 ∧ x.f2 < 256) ∧ (0 ≤ x.f3 ∧ x.f3 < 256)
theorem DrawFire_calls (Ac : Option Addr) (cc : Nat) (lc : List Int) (W : World) (hrc : Kd.C (Kd.int .u8) W Ac lc.length lc) (hcc : lc.length ≤ cc) (hlc : (lc.length : Int) < 4611686018427387904) :
    Calls Try.prog 20 #[.slice Ac lc.length cc] W fun e w' => ∃ A0 c0 l0 A1 c1 l1, e = .returned (.tuple #[.slice A0 l0.length c0, .slice A1 l1.length c1]) ∧ Kd.C k51 w' A0 l0.length l0 ∧ l0.length ≤ c0 ∧ Kd.C k32 w' A1 l1.length l1 ∧ l1.length ≤ c1 ∧ Below W.heap.size W w' ∧ DrawFire_ok l0 l1 := by
  refine (DrawFire_leaves Ac cc lc W hrc hcc hlc).mono ?_
  rintro e w' ⟨v, K', rfl, hk, hb, o, ho, hv⟩
  obtain rfl := List.mem_singleton.1 ho
  obtain ⟨us, rfl, hu⟩ := hv
  obtain ⟨us⟩ := us
  match us, hu with
  | [v0, v1], hu =>
    obtain ⟨A0, c0, l0, rfl, h1, h2, _, h3, h4⟩ := rules_back hk (by decide) (v := v0) hu.1
    obtain ⟨A1, c1, l1, rfl, h5, h6, _, h7, h8⟩ := cycs_back hk (by decide) (v := v1) hu.2.1
    exact ⟨A0, c0, l0, A1, c1, l1, rfl, h2, h1, h6, h5, hb, Nat.le_trans h3 (by decide), Nat.le_trans h7 (by decide), h4⟩
  | [], hu => exact hu.elim
  | [_], hu => exact hu.2.elim
  | _ :: _ :: _ :: _, hu => exact hu.2.2.elim
end Go.Proofs.Ytnoelppkcbelcaa.MFC
