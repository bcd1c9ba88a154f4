/-
The draw of FnDepths: a capture of at most 160 cycles and at most 20 places.
-/
import Derived.Test.YtnoelppkcbelcaaGreatDoorDTy16
set_option linter.unusedVariables false
set_option linter.unusedSimpArgs false
set_option maxHeartbeats 0
set_option maxRecDepth 100000
namespace Go.Proofs.YtnoelppkcbelcaaGreatDoor.MDC
open Go Go.RowKit Go.Proofs.YtnoelppkcbelcaaGreatDoor.MD Go.Proofs.YtnoelppkcbelcaaGreatDoorW.PrintWords Go.Proofs.YtnoelppkcbelcaaGreatDoorW.PrintLast Go.Proofs.YtnoelppkcbelcaaGreatDoor.Bit Go.Proofs.YtnoelppkcbelcaaGreatDoor.Lst Go.Proofs.YtnoelppkcbelcaaGreatDoor.Ty

noncomputable def LD0 : Kit := L65.inl 10 Tryz.f10 (hin 10 noHow true) 200
theorem LD0_ok {CP : (Nat → Option KT) → List Value → Prop} (hy : Hyp CP) : KitOK Tryz.prog CP LD0 := (L65_ok hy).inl hy.cpm mix_ Tryz.func10 (ent_ Tryz.func10 rfl rfl) _ _ fun _ => rfl
def behind : Code → Code
  | .seq _ (.seq _ c) => c
  | _ => .skip
def drawn : List Out := [⟨.tup [.cell (.slice cycC 0 160 none), .cell (.slice [i64] 0 20 none)], [], none⟩]
theorem e_draw : covers (analyzeFrom LD0 Tryz.f5 (hin 5 noHow true) 200 (behind (Tryz.f5.body.getD .skip)) ⟨[(4, .one (.cell .cur))], 16, [], [], 0⟩) drawn = true := by kernel_rfl
theorem DrawDepths_leaves (Ac : Option Addr) (cc : Nat) (lc : List Int) (W : World) (hrc : Kd.C (Kd.int .u8) W Ac lc.length lc) (hcc : lc.length ≤ cc) (hlc : (lc.length : Int) < 4611686018427387904) :
    Calls Tryz.prog 5 #[.slice Ac lc.length cc] W fun e w' => ∃ v K', e = .returned v ∧ KInv (CPof W) K' w' ∧ Below W.heap.size W w' ∧ ∃ o ∈ drawn, hasAV (envK K') o.res v := by
  obtain ⟨s, hs⟩ := new_ok lc hlc
  obtain ⟨k, hk⟩ := hs
  go_enter Tryz.func5, Tryz.ntmps5
  refine wp_seq_k fun N1 hN1 => ?_
  have HN1 := Aside0.mk hN1
  clear hN1
  go_wp2
  refine HN1.out _ _ ?_
  clear HN1 N1
  refine wp_seq_k fun N2 hN2 => ?_
  have HN2 := Aside0.mk hN2
  clear hN2
  go_wp2_with (first | ((with_reducible refine gate_callee (f := 9) rfl ?_); refine goesL_ (some 8) rfl rfl Tryz.func9 (by kernel_rfl) rfl #[.slice Ac lc.length cc] rfl (by (try simp only [List.map_toArray, List.map_cons, List.map_nil]); first | done | rfl | (simp only [List.length_drop, List.length_take]; rfl)) ?_; (refine (spec_l01New.calls k Ac cc lc lc 0 s W _ (Below.refl _ _) hrc hcc (hk k (Nat.le_refl _))).mono ?_); rintro e w' ⟨g, rfl, hi, hb, _⟩; refine ⟨_, rfl, ?_⟩))
  refine HN2.out _ _ ?_
  clear HN2 N2
  refine wp_mono (from_ok (hyp W).cpm (LD0_ok (hyp W)) mix_ (fun _ => rfl) e_draw (start_good (hyp W).cpm (k1_ok hi hb (at_zero lc hlc)) (g := g) (by simp) rfl (k1_cur hi))) (leaves_post ?_)
  rintro e w1 ⟨v, K', rfl, h1, h2, h3⟩
  exact ⟨v, K', rfl, h1, back hb h1 h2, h3⟩
def DrawDepths_ok (l0 : List S62) (l1 : List Int) : Prop := l0.length ≤ 160 ∧ (∀ x ∈ l0, (Lit.int .u16 x.f0).wf = true ∧ (Lit.int .u8 x.f1).wf = true) ∧ l1.length ≤ 20 ∧ ∀ x ∈ l1, -9223372036854775808 ≤ x ∧ x ≤ 9223372036854775807
theorem DrawDepths_calls (Ac : Option Addr) (cc : Nat) (lc : List Int) (W : World) (hrc : Kd.C (Kd.int .u8) W Ac lc.length lc) (hcc : lc.length ≤ cc) (hlc : (lc.length : Int) < 4611686018427387904) :
    Calls Tryz.prog 5 #[.slice Ac lc.length cc] W fun e w' => ∃ A0 c0 l0 A1 c1 l1, e = .returned (.tuple #[.slice A0 l0.length c0, .slice A1 l1.length c1]) ∧ Kd.C k62 w' A0 l0.length l0 ∧ l0.length ≤ c0 ∧ Kd.C (Kd.int .i64) w' A1 l1.length l1 ∧ l1.length ≤ c1 ∧ Below W.heap.size W w' ∧ DrawDepths_ok l0 l1 := by
  refine (DrawDepths_leaves Ac cc lc W hrc hcc hlc).mono ?_
  rintro e w' ⟨v, K', rfl, hk, hb, o, ho, hv⟩
  obtain rfl := List.mem_singleton.1 ho
  obtain ⟨us, rfl, hu⟩ := hv
  obtain ⟨us⟩ := us
  match us, hu with
  | [v0, v1], hu =>
    obtain ⟨A0, c0, l0, rfl, h1, h2, _, h3, h4⟩ := cycs_back hk (by decide) (v := v0) hu.1
    obtain ⟨A1, c1, l1, rfl, h5, h6, _, h7, h8⟩ := ints_back hk (by decide) (v := v1) hu.2.1
    exact ⟨A0, c0, l0, A1, c1, l1, rfl, h2, h1, h6, h5, hb, h3, h4, h7, h8⟩
  | [], hu => exact hu.elim
  | [_], hu => exact hu.2.elim
  | _ :: _ :: _ :: _, hu => exact hu.2.2.elim
end Go.Proofs.YtnoelppkcbelcaaGreatDoor.MDC
