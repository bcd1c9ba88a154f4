/-
The capture of a draw, as the interpreter tells it: a list of cycles, the cursor anywhere in its bytes.
-/
import Derived.Test.YtnoelppkcbelcaaSTy16
set_option linter.unusedVariables false
set_option linter.unusedSimpArgs false
set_option maxHeartbeats 0
set_option maxRecDepth 100000
namespace Go.Proofs.Ytnoelppkcbelcaa.MSC
open Go Go.RowKit Go.Proofs.Ytnoelppkcbelcaa.MS Go.Proofs.YtnoelppkcbelcaaW.PrintWords Go.Proofs.YtnoelppkcbelcaaW.PrintLast Go.Proofs.Ytnoelppkcbelcaa.Bit Go.Proofs.Ytnoelppkcbelcaa.Lst Go.Proofs.Ytnoelppkcbelcaa.Ty
def Hold (p : Prop) : Prop := p
theorem Hold.intro {p : Prop} (h : p) : Hold p := h
theorem Hold.elim {p : Prop} (h : Hold p) : p := h
def trOut : List Out := [⟨.one (.cell (.slice cycC 0 160 none)), [], none⟩]
theorem e_trace : covers (analyze L65 Try.f33 (hin 33 noHow true) 200 [cur] none) trOut = true := by kernel_rfl
theorem c_trace {CP : (Nat → Option KT) → List Value → Prop} (hy : Hyp CP) : CallOK Try.prog CP 33 [cur] none trOut := (L65_ok hy).call hy.cpm mix_ Try.func33 (ent_ Try.func33 rfl rfl) (fun _ _ _ _ _ _ => noLp fun _ => rfl) e_trace
theorem old_below {W w w' : World} (h : Below W.heap.size W w) (hb : Below (old W w).heap.size (old W w) w') : Below W.heap.size W w' := ⟨hb.os.trans h.os, hb.tape.trans h.tape, hb.output.trans h.output, hb.size, hb.block⟩
theorem trace_calls (W w : World) (g : Nat) (L : List Int) (p s : Int) (hi : IsS79 W w g L p s) (hb : Below W.heap.size W w) (ha : At L p) :
  Calls Try.prog 33 #[.pointer (some ⟨g, 0, none⟩)] w fun e w' => ∃ A1 c1 l1 f0 f1 f2, e = .returned (.slice A1 l1.length c1) ∧ IsS79 (old W w') w' g f0 f1 f2 ∧ Below (old W w').heap.size (old W w') w' ∧ (∀ W_, KeepBut w' W_ g none → Kd.C k32 W_ A1 l1.length l1) ∧ l1.length ≤ c1 ∧ Below W.heap.size W w' ∧ l1.length ≤ 160 ∧ (∀ x ∈ l1, (Lit.int .u16 x.f0).wf = true ∧ (Lit.int .u8 x.f1).wf = true) ∧ At f0 f1 := by
 have hK := k1_ok hi hb ha
 refine ((c_trace (hyp W)).2 (envK (K1 W g)) w #[.pointer (some ⟨g, 0, none⟩)] ⟨⟨g, rfl, k1_cur hi⟩, trivial⟩ hK rfl).mono ?_
 rintro e w' ⟨v, K', rfl, hk, hf, o, ho, hv, _, _⟩
 obtain rfl := List.mem_singleton.1 ho
 have hg : K' g = some .cur := (hf.kext g hi.lt).trans (k1_cur hi)
 obtain ⟨f0, f1, f2, h1, h2, h3⟩ := cur_is hk hg
 have hv' : hasSV (envK K') (.slice cycC 0 160 none) v := hv
 obtain ⟨A1, c1, l1, rfl, q1, q2, _, q3, q4⟩ := cycs_back hk (by decide) (v := v) hv
 obtain ⟨a, n, c, e, _, _, _, _, _, h6⟩ := hv'
 injection e with e1 e2 e3
 subst e1
 refine ⟨A1, c1, l1, f0, f1, f2, rfl, h1, h2, Kd.C_foot_ne (fun h => h) q2 (fun ad hA _ hg' => ?_), q1, back hb hk hf, q3, q4, h3⟩
 obtain ⟨_, m, h7, _⟩ := h6 ad hA
 have h8 : K' ad.block = some (.row cycC m) := h7
 rw [hg', hg] at h8
 cases h8
end Go.Proofs.Ytnoelppkcbelcaa.MSC
