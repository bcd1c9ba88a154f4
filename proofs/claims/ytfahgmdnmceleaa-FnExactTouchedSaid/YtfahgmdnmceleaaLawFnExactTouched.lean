-- Written by this session's own program (wip/myprint.py) over the kit's print of the translation. Lean checks it.
/-
The law FnExactTouched: for every input it returns true (the row), out of its Pure statement and the printed walk.
-/
import Derived.Test.YtfahgmdnmceleaaRows
import Derived.Test.YtfahgmdnmceleaaMDx3
import Derived.Test.YtfahgmdnmceleaaPureFnExactTouched
import Derived.WalkKit
import Derived.ProofKit
import Derived.OpenShut
import Derived.ShutString
import Derived.ChangeOld
import Derived.Below
import Derived.SizedLaws
import Derived.Test.YtfahgmdnmceleaaOpn
import Derived.Test.YtfahgmdnmceleaaWAll
namespace Go.Proofs.Ytfahgmdnmceleaa.fnExactTouched
open Go.ChangeShapes Go.WideShapes Go.ChangeAt Go.RowKit Go.Proofs.Ytfahgmdnmceleaa.MD Go.Proofs.YtfahgmdnmceleaaW.PrintWords Go.Proofs.YtfahgmdnmceleaaW.PrintLast
open Go.ChangeMaps (open_string shut_string)
set_option linter.unusedVariables false
theorem own : ownKnob Try.prog.godebug = none := by kernel_rfl
theorem laidOut : laidOutB Try.prog = true := by kernel_rfl
theorem opn39 {H : Type} {enc : TypeId × Value → H} {w : World} {base : Nat} {spare : Nat → Bool} {held : Bool} {fuel : Nat} {cs : List Value} {y : DataW H × List MemPlace} (h : DataW.trod enc Try.prog w base spare held fuel 39 cs = some y) :
    ∃ (x0 : Int) (x1 : Int) (x2 : Bool), cs = [.int .u16 x0, .int .u8 x1, .bool x2] ∧ (Lit.int .u16 x0).wf = true ∧ (Lit.int .u8 x1).wf = true := by
  obtain ⟨hl, n, hf⟩ := Opn.flat_cells Try.underlying39 (by kernel_rfl) (by kernel_rfl) h
  obtain ⟨v0, y0, c0, h0⟩ := hf 0 _ rfl
  obtain ⟨x0, e0, _, w0⟩ := DataW.trod_int Try.underlying34 h0
  obtain rfl : v0 = .int .u16 x0 := by simpa using e0
  obtain ⟨v1, y1, c1, h1⟩ := hf 1 _ rfl
  obtain ⟨x1, e1, _, w1⟩ := DataW.trod_int Try.underlying5 h1
  obtain rfl : v1 = .int .u8 x1 := by simpa using e1
  obtain ⟨v2, y2, c2, h2⟩ := hf 2 _ rfl
  obtain ⟨x2, e2, _⟩ := DataW.trod_bool Try.underlying4 h2
  obtain rfl : v2 = .bool x2 := by simpa using e2
  match cs, hl with
  | [u0, u1, u2], _ =>
    obtain rfl : u0 = .int .u16 x0 := by simpa using c0
    obtain rfl : u1 = .int .u8 x1 := by simpa using c1
    obtain rfl : u2 = .bool x2 := by simpa using c2
    exact ⟨x0, x1, x2, rfl, w0, w1⟩
set_option maxRecDepth 100000 in
theorem lifted (os : Os) (started : os.Started) (H : Type) (enc : TypeId × Value → H) :
    ReturnsInHanded {} Try.checked os 3 .any (Rows.fnExactTouchedSpec.pre6 enc Try.prog Try.f3 Rows.fnExactTouchedRow.domain false) (Rows.fnExactTouchedSpec.post enc Try.prog Try.f3 false true false false) := by
  refine returnsInHanded_of_change_sized (C := Try.checked) own started (by kernel_rfl) Try.func3
    (ChangeSpec.witness6 (enc := enc) (C := Try.checked) false ⟨#[], #[.slice none 0 0, .bool false], []⟩ 8 (by kernel_rfl) (by kernel_rfl) (by kernel_rfl) (by kernel_rfl)) ?_
  intro W base args ds gs before hval0 hW hcnd hsz0 _
  have hsz : (DataW.weightsEach Try.prog (Try.f3.params.toList ++ Rows.fnExactTouchedSpec.plain.varTypes Try.prog) (ds ++ gs)).all (· ≤ reachBytes) = true := hsz0
  have hval : ∀ (j : Nat) t v, Try.f3.params[j]? = some t → args[j]? = some v → Value.okWide Try.prog W .any base t v := hval0
  have hW' := hW
  obtain ⟨p, q, hA0, hV, rfl, hfz, hnd⟩ := hW
  have hA : DataW.TrodAll enc Try.prog W 0 (fun _ => true) true Try.f3.params.toList args.toList ds p := hA0
  rw [Try.params3] at hA hval hsz
  obtain ⟨v0, vs0, d0, ds0, p0, q0, hargs, rfl, rfl, h0, r0⟩ := trodAll_cons hA
  obtain ⟨v1, vs1, d1, ds1, p1, q1, rfl, rfl, rfl, h1, r1⟩ := trodAll_cons r0
  obtain ⟨rfl, rfl, rfl⟩ := trodAll_nil r1
  obtain rfl : args = #[v0, v1] := by cases args; simp_all
  obtain ⟨rfl, rfl⟩ := trodVars_none hV
  obtain ⟨a0, len0, cap0, rfl⟩ := okWide_slice Try.underlying22 (hval 0 22 v0 rfl rfl)
  have k0 := h0
  have lt0 : ∀ x ∈ p0, x.block < W.heap.size := by obtain ⟨m, hm⟩ := k0; exact DataW.trod_lt m _ _ _ hm
  have y0 : len0 * 4 ≤ 140737488351232 := Opn.sized_rows hsz (j := 0) (t := 22) rfl rfl Try.underlying22 (by kernel_rfl) h0
  obtain ⟨hc0, hm0, l0, hl0, hr0, hw0⟩ := Opn.open_rows k39 Good39 Try.underlying22 (by kernel_rfl) (fun _ _ _ h => by obtain ⟨x0, x1, x2, rfl, w0, w1⟩ := opn39 h; exact ⟨⟨x0, x1, x2⟩, k39_mk _ _, ⟨w0, w1⟩⟩) h0
  subst hl0
  obtain ⟨a1, rfl, rfl, rfl⟩ := open_bool Try.underlying4 (hval 1 4 v1 rfl rfl) h1
  clear hA0 hval0 hsz0 hsz
  obtain ⟨k, h⟩ := Pure.FnExactTouched l0 a1 (Nat.le_trans hc0 hm0) y0 hw0
  refine (MD.laws_FnExactTouched.calls k _ _ l0 a1 true W hr0 hc0 h).mono fun e W' hd => ?_
  obtain ⟨he, bel0⟩ := hd
  have bel : Below W.heap.size W W' := bel0
  subst he
  exact ⟨_, rfl, _, _, _, [], _, [], hW', trodAll_mk1 (shut_bool Try.underlying4 _), (trodAll_cons_mk (Below.trod laidOut (by kernel_rfl) (of_decide_eq_true (by kernel_rfl)) k0 bel lt0) (trodAll_cons_mk (shut_bool Try.underlying4 _) trodAll_mk0)), rfl, bel.frame _, fun h => by cases h⟩
theorem over : Rows.fnExactTouchedRow.holds Try.pinned (OpenSpec.ofChange Rows.fnExactTouchedSpec) :=
  OpenClaim.holds_of_wide 3 Try.f3 rfl rfl rfl rfl rfl rfl rfl ⟨rfl, rfl, rfl, rfl, rfl⟩ rfl rfl rfl rfl rfl (by kernel_rfl) Try.func3 (by kernel_rfl)
    (of_decide_eq_true (by kernel_rfl)) (by unfold Func.isWrapper; first | (rw [if_pos (by decide +kernel)]; kernel_rfl) | (rw [if_neg (by decide +kernel)]; exact ⟨rfl, rfl⟩))
    (fun os started H enc _ => lifted os started H enc)
theorem proved : Rows.FnExactTouchedSaid := over
#print axioms proved
end Go.Proofs.Ytfahgmdnmceleaa.fnExactTouched
namespace Go.Proofs.Ytfahgmdnmceleaa
/-- The row, under a short name, for the claim. -/
theorem fnExactTouched_holds : Rows.FnExactTouchedSaid := fnExactTouched.proved
end Go.Proofs.Ytfahgmdnmceleaa
