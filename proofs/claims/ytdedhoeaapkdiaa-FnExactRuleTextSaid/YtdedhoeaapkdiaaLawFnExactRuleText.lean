-- Written by this session's own program (wip/myprint.py) over the kit's print of the translation. Lean checks it.
/-
The law FnExactRuleText: for every input it returns true (the row), out of its Pure statement and the printed walk.
-/
import Derived.Test.YtdedhoeaapkdiaaRows
import Derived.Test.YtdedhoeaapkdiaaMRx2
import Derived.Test.YtdedhoeaapkdiaaPureFnExactRuleText
import Derived.WalkKit
import Derived.ProofKit
import Derived.OpenShut
import Derived.ShutString
import Derived.ChangeOld
import Derived.Below
import Derived.SizedLaws
import Derived.Test.YtdedhoeaapkdiaaOpn
import Derived.Test.YtdedhoeaapkdiaaWSized
namespace Go.Proofs.Ytdedhoeaapkdiaa.fnExactRuleText
open Go.ChangeShapes Go.WideShapes Go.ChangeAt Go.RowKit Go.Proofs.Ytdedhoeaapkdiaa.MR Go.Proofs.YtdedhoeaapkdiaaW.PrintWords Go.Proofs.YtdedhoeaapkdiaaW.PrintLast
open Go.ChangeMaps (open_string shut_string)
set_option linter.unusedVariables false
theorem own : ownKnob Try.prog.godebug = none := by kernel_rfl
theorem laidOut : laidOutB Try.prog = true := by kernel_rfl
theorem opn24 {H : Type} {enc : TypeId × Value → H} {w : World} {base : Nat} {spare : Nat → Bool} {held : Bool} {fuel : Nat} {cs : List Value} {y : DataW H × List MemPlace} (h : DataW.trod enc Try.prog w base spare held fuel 24 cs = some y) :
    ∃ (x0 : Int) (x1 : Int) (x2 : Int) (x3 : Int) (x4 : Int), cs = [.int .u16 x0, .int .u16 x1, .int .u8 x2, .int .u8 x3, .int .i64 x4] ∧ (Lit.int .u16 x0).wf = true ∧ (Lit.int .u16 x1).wf = true ∧ (Lit.int .u8 x2).wf = true ∧ (Lit.int .u8 x3).wf = true ∧ (Lit.int .i64 x4).wf = true := by
  obtain ⟨hl, n, hf⟩ := Opn.flat_cells Try.underlying24 (by kernel_rfl) (by kernel_rfl) h
  obtain ⟨v0, y0, c0, h0⟩ := hf 0 _ rfl
  obtain ⟨x0, e0, _, w0⟩ := DataW.trod_int Try.underlying22 h0
  obtain rfl : v0 = .int .u16 x0 := by simpa using e0
  obtain ⟨v1, y1, c1, h1⟩ := hf 1 _ rfl
  obtain ⟨x1, e1, _, w1⟩ := DataW.trod_int Try.underlying22 h1
  obtain rfl : v1 = .int .u16 x1 := by simpa using e1
  obtain ⟨v2, y2, c2, h2⟩ := hf 2 _ rfl
  obtain ⟨x2, e2, _, w2⟩ := DataW.trod_int Try.underlying5 h2
  obtain rfl : v2 = .int .u8 x2 := by simpa using e2
  obtain ⟨v3, y3, c3, h3⟩ := hf 3 _ rfl
  obtain ⟨x3, e3, _, w3⟩ := DataW.trod_int Try.underlying5 h3
  obtain rfl : v3 = .int .u8 x3 := by simpa using e3
  obtain ⟨v4, y4, c4, h4⟩ := hf 4 _ rfl
  obtain ⟨x4, e4, _, w4⟩ := DataW.trod_int Try.underlying3 h4
  obtain rfl : v4 = .int .i64 x4 := by simpa using e4
  match cs, hl with
  | [u0, u1, u2, u3, u4], _ =>
    obtain rfl : u0 = .int .u16 x0 := by simpa using c0
    obtain rfl : u1 = .int .u16 x1 := by simpa using c1
    obtain rfl : u2 = .int .u8 x2 := by simpa using c2
    obtain rfl : u3 = .int .u8 x3 := by simpa using c3
    obtain rfl : u4 = .int .i64 x4 := by simpa using c4
    exact ⟨x0, x1, x2, x3, x4, rfl, w0, w1, w2, w3, w4⟩
set_option maxRecDepth 100000 in
theorem lifted (os : Os) (started : os.Started) (H : Type) (enc : TypeId × Value → H) :
    ReturnsInHanded {} Try.checked os 5 .any (Rows.fnExactRuleTextSpec.pre6 enc Try.prog Try.f5 Rows.fnExactRuleTextRow.domain false) (Rows.fnExactRuleTextSpec.post enc Try.prog Try.f5 false true false false) := by
  refine returnsInHanded_of_change_sized (C := Try.checked) own started (by kernel_rfl) Try.func5
    (ChangeSpec.witness6 (enc := enc) (C := Try.checked) false ⟨#[], #[.agg #[.int .u16 0, .int .u16 0, .int .u8 0, .int .u8 0, .int .i64 0]], []⟩ 8 (by kernel_rfl) (by kernel_rfl) (by kernel_rfl) (by kernel_rfl)) ?_
  intro W base args ds gs before hval0 hW hcnd hsz0 _
  have hsz : (DataW.weightsEach Try.prog (Try.f5.params.toList ++ Rows.fnExactRuleTextSpec.plain.varTypes Try.prog) (ds ++ gs)).all (· ≤ reachBytes) = true := hsz0
  have hval : ∀ (j : Nat) t v, Try.f5.params[j]? = some t → args[j]? = some v → Value.okWide Try.prog W .any base t v := hval0
  have hW' := hW
  obtain ⟨p, q, hA0, hV, rfl, hfz, hnd⟩ := hW
  have hA : DataW.TrodAll enc Try.prog W 0 (fun _ => true) true Try.f5.params.toList args.toList ds p := hA0
  rw [Try.params5] at hA hval hsz
  obtain ⟨v0, vs0, d0, ds0, p0, q0, hargs, rfl, rfl, h0, r0⟩ := trodAll_cons hA
  obtain ⟨rfl, rfl, rfl⟩ := trodAll_nil r0
  obtain rfl : args = #[v0] := by cases args; simp_all
  obtain ⟨rfl, rfl⟩ := trodVars_none hV
  have k0 := h0
  have lt0 : ∀ x ∈ p0, x.block < W.heap.size := by obtain ⟨m, hm⟩ := k0; exact DataW.trod_lt m _ _ _ hm
  obtain ⟨cs0, rfl, _⟩ := okWide_struct Try.underlying24 (hval 0 24 v0 rfl rfl)
  obtain ⟨f0, g0⟩ := h0
  obtain ⟨a0_0, a0_1, a0_2, a0_3, a0_4, e0, w0_0, w0_1, w0_2, w0_3, w0_4⟩ := opn24 g0
  obtain rfl : cs0 = #[.int .u16 a0_0, .int .u16 a0_1, .int .u8 a0_2, .int .u8 a0_3, .int .i64 a0_4] := by cases cs0; simpa [Value.cells] using e0
  clear hA0 hval0 hsz0 hsz
  obtain ⟨k, h⟩ := Pure.FnExactRuleText a0_0 a0_1 a0_2 a0_3 a0_4 w0_0 w0_1 w0_2 w0_3 w0_4
  refine (MR.laws_FnExactRuleText.calls k a0_0 a0_1 a0_2 a0_3 a0_4 true W  h).mono fun e W' hd => ?_
  obtain ⟨he, bel0⟩ := hd
  have bel : Below W.heap.size W W' := bel0
  subst he
  exact ⟨_, rfl, _, _, _, [], _, [], hW', trodAll_mk1 (shut_bool Try.underlying4 _), (trodAll_cons_mk (Below.trod laidOut (by kernel_rfl) (of_decide_eq_true (by kernel_rfl)) k0 bel lt0) trodAll_mk0), rfl, bel.frame _, fun h => by cases h⟩
theorem over : Rows.fnExactRuleTextRow.holds Try.pinned (OpenSpec.ofChange Rows.fnExactRuleTextSpec) :=
  OpenClaim.holds_of_wide 5 Try.f5 rfl rfl rfl rfl rfl rfl rfl ⟨rfl, rfl, rfl, rfl, rfl⟩ rfl rfl rfl rfl rfl (by kernel_rfl) Try.func5 (by kernel_rfl)
    (of_decide_eq_true (by kernel_rfl)) (by unfold Func.isWrapper; first | (rw [if_pos (by decide +kernel)]; kernel_rfl) | (rw [if_neg (by decide +kernel)]; exact ⟨rfl, rfl⟩))
    (fun os started H enc _ => lifted os started H enc)
theorem proved : Rows.FnExactRuleTextSaid := over
#print axioms proved
end Go.Proofs.Ytdedhoeaapkdiaa.fnExactRuleText
namespace Go.Proofs.Ytdedhoeaapkdiaa
/-- The row, under a short name, for the claim. -/
theorem fnExactRuleText_holds : Rows.FnExactRuleTextSaid := fnExactRuleText.proved
end Go.Proofs.Ytdedhoeaapkdiaa
