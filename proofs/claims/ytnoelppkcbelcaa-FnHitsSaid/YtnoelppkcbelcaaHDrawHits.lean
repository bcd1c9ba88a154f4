/-
The draw of FnHits: a capture of at most 160 cycles, two addresses and which accesses.
-/
import Derived.Test.YtnoelppkcbelcaaHTy16
set_option linter.unusedVariables false
set_option linter.unusedSimpArgs false
set_option maxHeartbeats 0
set_option maxRecDepth 100000
namespace Go.Proofs.Ytnoelppkcbelcaa.MHC
open Go Go.RowKit Go.Proofs.Ytnoelppkcbelcaa.MH Go.Proofs.YtnoelppkcbelcaaW.PrintWords Go.Proofs.YtnoelppkcbelcaaW.PrintLast Go.Proofs.Ytnoelppkcbelcaa.Bit Go.Proofs.Ytnoelppkcbelcaa.Lst Go.Proofs.Ytnoelppkcbelcaa.Ty

def trOut : List Out := [⟨.one (.cell (.slice cycC 0 160 none)), [], none⟩]
theorem e_trace : covers (analyze L65 Try.f33 (hin 33 noHow true) 200 [cur] none) trOut = true := by kernel_rfl
noncomputable def LT : Kit := L65.ent 33 [cur] trOut
theorem LT_ok {CP : (Nat → Option KT) → List Value → Prop} (hy : Hyp CP) : KitOK Try.prog CP LT := (L65_ok hy).ent ((L65_ok hy).call hy.cpm mix_ Try.func33 (ent_ Try.func33 rfl rfl) (fun _ _ _ _ _ _ => noLp fun _ => rfl) e_trace)
def behind : Code → Code
  | .seq _ (.seq _ c) => c
  | _ => .skip
def drawn : List Out := [⟨.tup [.cell (.slice cycC 0 160 none), .cell sU16, .cell sU16, .cell b_], [], none⟩]
theorem e_draw : covers (analyzeFrom LT Try.f29 (hin 29 noHow true) 200 (behind (Try.f29.body.getD .skip)) ⟨[(6, .one (.cell .cur))], 43, [], [], 0⟩) drawn = true := by kernel_rfl
theorem DrawHits_leaves (Ac : Option Addr) (cc : Nat) (lc : List Int) (W : World) (hrc : Kd.C (Kd.int .u8) W Ac lc.length lc) (hcc : lc.length ≤ cc) (hlc : (lc.length : Int) < 4611686018427387904) :
    Calls Try.prog 29 #[.slice Ac lc.length cc] W fun e w' => ∃ v K', e = .returned v ∧ KInv (CPof W) K' w' ∧ Below W.heap.size W w' ∧ ∃ o ∈ drawn, hasAV (envK K') o.res v := by
  obtain ⟨s, hs⟩ := new_ok lc hlc
  obtain ⟨k, hk⟩ := hs
  go_enter Try.func29, Try.ntmps29
  refine wp_seq_k fun N1 hN1 => ?_
  have HN1 := Aside0.mk hN1
  clear hN1
  go_wp2
  refine HN1.out _ _ ?_
  clear HN1 N1
  refine wp_seq_k fun N2 hN2 => ?_
  have HN2 := Aside0.mk hN2
  clear hN2
  go_wp2_with (first | ((with_reducible refine gate_callee (f := 32) rfl ?_); refine goesL_ (some 10) rfl rfl Try.func32 (by kernel_rfl) rfl #[.slice Ac lc.length cc] rfl (by (try simp only [List.map_toArray, List.map_cons, List.map_nil]); first | done | rfl | (simp only [List.length_drop, List.length_take]; rfl)) ?_; (refine (spec_l01New.calls k Ac cc lc lc 0 s W _ (Below.refl _ _) hrc hcc (hk k (Nat.le_refl _))).mono ?_); rintro e w' ⟨g, rfl, hi, hb, _⟩; refine ⟨_, rfl, ?_⟩))
  refine HN2.out _ _ ?_
  clear HN2 N2
  refine wp_mono (from_ok (hyp W).cpm (LT_ok (hyp W)) mix_ (fun _ => rfl) e_draw (start_good (hyp W).cpm (k1_ok hi hb (at_zero lc hlc)) (g := g) (by simp) rfl (k1_cur hi))) (leaves_post ?_)
  rintro e w1 ⟨v, K', rfl, h1, h2, h3⟩
  exact ⟨v, K', rfl, h1, back hb h1 h2, h3⟩
def DrawHits_ok (l0 : List S32) (a1 a2 : Int) (a3 : Bool) : Prop := l0.length ≤ 160 ∧ (∀ x ∈ l0, (Lit.int .u16 x.f0).wf = true ∧ (Lit.int .u8 x.f1).wf = true) ∧ (0 ≤ a1 ∧ a1 < 65536) ∧ (0 ≤ a2 ∧ a2 < 65536)
theorem DrawHits_calls (Ac : Option Addr) (cc : Nat) (lc : List Int) (W : World) (hrc : Kd.C (Kd.int .u8) W Ac lc.length lc) (hcc : lc.length ≤ cc) (hlc : (lc.length : Int) < 4611686018427387904) :
    Calls Try.prog 29 #[.slice Ac lc.length cc] W fun e w' => ∃ A0 c0 l0 a1 a2 a3, e = .returned (.tuple #[.slice A0 l0.length c0, .int .u16 a1, .int .u16 a2, .bool a3]) ∧ Kd.C k32 w' A0 l0.length l0 ∧ l0.length ≤ c0 ∧ Below W.heap.size W w' ∧ DrawHits_ok l0 a1 a2 a3 := by
  refine (DrawHits_leaves Ac cc lc W hrc hcc hlc).mono ?_
  rintro e w' ⟨v, K', rfl, hk, hb, o, ho, hv⟩
  obtain rfl := List.mem_singleton.1 ho
  obtain ⟨us, rfl, hu⟩ := hv
  obtain ⟨us⟩ := us
  match us, hu with
  | [v0, v1, v2, v3], hu =>
    obtain ⟨A0, c0, l0, rfl, h1, h2, _, h3, h4⟩ := cycs_back hk (by decide) (v := v0) hu.1
    obtain ⟨a1, rfl, pa1, qa1, _⟩ : ∃ n, v1 = .int .u16 n ∧ 0 ≤ n ∧ n ≤ 65535 ∧ ∀ s d, (none : Option (Nat × Int)) = some (s, d) → s < (envK K').nx ∧ n = (envK K').σ s + d := hu.2.1
    obtain ⟨a2, rfl, pa2, qa2, _⟩ : ∃ n, v2 = .int .u16 n ∧ 0 ≤ n ∧ n ≤ 65535 ∧ ∀ s d, (none : Option (Nat × Int)) = some (s, d) → s < (envK K').nx ∧ n = (envK K').σ s + d := hu.2.2.1
    obtain ⟨a3, e3⟩ : ∃ b, v3 = .bool b := by
      obtain ⟨b, e, _⟩ := (show hasSV (envK K') b_ v3 from hu.2.2.2.1)
      exact ⟨b, e⟩
    subst e3
    exact ⟨A0, c0, l0, a1, a2, a3, rfl, h2, h1, hb, h3, h4, ⟨pa1, by omega⟩, ⟨pa2, by omega⟩⟩
  | [], hu => exact hu.elim
  | [_], hu => exact hu.2.elim
  | [_, _], hu => exact hu.2.2.elim
  | [_, _, _], hu => exact hu.2.2.2.elim
  | _ :: _ :: _ :: _ :: _ :: _, hu => exact hu.2.2.2.2.elim
end Go.Proofs.Ytnoelppkcbelcaa.MHC
