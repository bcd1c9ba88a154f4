/-
The draw of FnSqueeze: a capture of at most 1201 cycles.
-/
import Derived.Test.YtnoelppkcbelcaaQTy16
set_option linter.unusedVariables false
set_option linter.unusedSimpArgs false
set_option maxHeartbeats 0
set_option maxRecDepth 100000
namespace Go.Proofs.Ytnoelppkcbelcaa.MQC
open Go Go.RowKit Go.Proofs.Ytnoelppkcbelcaa.MQ Go.Proofs.YtnoelppkcbelcaaW.PrintWords Go.Proofs.YtnoelppkcbelcaaW.PrintLast Go.Proofs.Ytnoelppkcbelcaa.Bit Go.Proofs.Ytnoelppkcbelcaa.Lst Go.Proofs.Ytnoelppkcbelcaa.Ty

def trOut : List Out := [⟨.one (.cell (.slice cycC 0 160 none)), [], none⟩]
theorem e_trace : covers (analyze L65 Try.f33 (hin 33 noHow true) 200 [cur] none) trOut = true := by kernel_rfl
noncomputable def LT : Kit := L65.ent 33 [cur] trOut
theorem LT_ok {CP : (Nat → Option KT) → List Value → Prop} (hy : Hyp CP) : KitOK Try.prog CP LT := (L65_ok hy).ent ((L65_ok hy).call hy.cpm mix_ Try.func33 (ent_ Try.func33 rfl rfl) (fun _ _ _ _ _ _ => noLp fun _ => rfl) e_trace)
def behind : Code → Code
  | .seq _ (.seq _ c) => c
  | _ => .skip
def drawn : List Out := [⟨.one (.cell (.slice cycC 0 1201 none)), [], none⟩]
theorem e_draw : covers (analyzeFrom LT Try.f15 (hin 15 noHow true) 200 (behind (Try.f15.body.getD .skip)) ⟨[(3, .one (.cell .cur))], 14, [], [], 0⟩) drawn = true := by kernel_rfl
theorem DrawSqueeze_leaves (Ac : Option Addr) (cc : Nat) (lc : List Int) (W : World) (hrc : Kd.C (Kd.int .u8) W Ac lc.length lc) (hcc : lc.length ≤ cc) (hlc : (lc.length : Int) < 4611686018427387904) :
    Calls Try.prog 15 #[.slice Ac lc.length cc] W fun e w' => ∃ v K', e = .returned v ∧ KInv (CPof W) K' w' ∧ Below W.heap.size W w' ∧ ∃ o ∈ drawn, hasAV (envK K') o.res v := by
  obtain ⟨s, hs⟩ := new_ok lc hlc
  obtain ⟨k, hk⟩ := hs
  go_enter Try.func15, Try.ntmps15
  refine wp_seq_k fun N1 hN1 => ?_
  have HN1 := Aside0.mk hN1
  clear hN1
  go_wp2
  refine HN1.out _ _ ?_
  clear HN1 N1
  refine wp_seq_k fun N2 hN2 => ?_
  have HN2 := Aside0.mk hN2
  clear hN2
  go_wp2_with (first | ((with_reducible refine gate_callee (f := 32) rfl ?_); refine goesL_ (some 5) rfl rfl Try.func32 (by kernel_rfl) rfl #[.slice Ac lc.length cc] rfl (by (try simp only [List.map_toArray, List.map_cons, List.map_nil]); first | done | rfl | (simp only [List.length_drop, List.length_take]; rfl)) ?_; (refine (spec_l01New.calls k Ac cc lc lc 0 s W _ (Below.refl _ _) hrc hcc (hk k (Nat.le_refl _))).mono ?_); rintro e w' ⟨g, rfl, hi, hb, _⟩; refine ⟨_, rfl, ?_⟩))
  refine HN2.out _ _ ?_
  clear HN2 N2
  refine wp_mono (from_ok (hyp W).cpm (LT_ok (hyp W)) mix_ (fun _ => rfl) e_draw (start_good (hyp W).cpm (k1_ok hi hb (at_zero lc hlc)) (g := g) (by simp) rfl (k1_cur hi))) (leaves_post ?_)
  rintro e w1 ⟨v, K', rfl, h1, h2, h3⟩
  exact ⟨v, K', rfl, h1, back hb h1 h2, h3⟩
def DrawSqueeze_ok (l0 : List S32) : Prop := l0.length ≤ 1201 ∧ (∀ x ∈ l0, (Lit.int .u16 x.f0).wf = true ∧ (Lit.int .u8 x.f1).wf = true)
theorem DrawSqueeze_calls (Ac : Option Addr) (cc : Nat) (lc : List Int) (W : World) (hrc : Kd.C (Kd.int .u8) W Ac lc.length lc) (hcc : lc.length ≤ cc) (hlc : (lc.length : Int) < 4611686018427387904) :
    Calls Try.prog 15 #[.slice Ac lc.length cc] W fun e w' => ∃ A0 c0 l0, e = .returned (.slice A0 l0.length c0) ∧ Kd.C k32 w' A0 l0.length l0 ∧ l0.length ≤ c0 ∧ Below W.heap.size W w' ∧ DrawSqueeze_ok l0 := by
  refine (DrawSqueeze_leaves Ac cc lc W hrc hcc hlc).mono ?_
  rintro e w' ⟨v, K', rfl, hk, hb, o, ho, hv⟩
  obtain rfl := List.mem_singleton.1 ho
  obtain ⟨A0, c0, l0, rfl, h1, h2, _, h3, h4⟩ := cycs_back hk (by decide) (v := v) hv
  exact ⟨A0, c0, l0, rfl, h2, h1, hb, h3, h4⟩
end Go.Proofs.Ytnoelppkcbelcaa.MQC
