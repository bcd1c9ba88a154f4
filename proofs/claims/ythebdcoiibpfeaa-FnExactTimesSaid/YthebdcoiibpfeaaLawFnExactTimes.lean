-- Written by this session's own program (wip/myprint.py) over the kit's print of the translation. Lean checks it.
/-
The law FnExactTimes: for every input it returns true (the row), out of its Pure statement and the printed walk.
-/
import Derived.Test.YthebdcoiibpfeaaRows
import Derived.Test.YthebdcoiibpfeaaMTx5
import Derived.Test.YthebdcoiibpfeaaPureFnExactTimes
import Derived.WalkKit
import Derived.ProofKit
import Derived.OpenShut
import Derived.ShutString
import Derived.ChangeOld
import Derived.Below
import Derived.SizedLaws
import Derived.Test.YthebdcoiibpfeaaOpn
import Derived.Test.YthebdcoiibpfeaaWSized
namespace Go.Proofs.Ythebdcoiibpfeaa.fnExactTimes
open Go.ChangeShapes Go.WideShapes Go.ChangeAt Go.RowKit Go.Proofs.Ythebdcoiibpfeaa.MT Go.Proofs.YthebdcoiibpfeaaW.PrintWords Go.Proofs.YthebdcoiibpfeaaW.PrintLast
open Go.ChangeMaps (open_string shut_string)
set_option linter.unusedVariables false
theorem own : ownKnob Try.prog.godebug = none := by kernel_rfl
theorem laidOut : laidOutB Try.prog = true := by kernel_rfl
theorem opn59 {H : Type} {enc : TypeId × Value → H} {w : World} {base : Nat} {spare : Nat → Bool} {held : Bool} {fuel : Nat} {cs : List Value} {y : DataW H × List MemPlace} (h : DataW.trod enc Try.prog w base spare held fuel 59 cs = some y) :
    ∃ (x0 : Int) (x1 : Int) (x2 : Bool), cs = [.int .u16 x0, .int .u8 x1, .bool x2] ∧ (Lit.int .u16 x0).wf = true ∧ (Lit.int .u8 x1).wf = true := by
  obtain ⟨hl, n, hf⟩ := Opn.flat_cells Try.underlying59 (by kernel_rfl) (by kernel_rfl) h
  obtain ⟨v0, y0, c0, h0⟩ := hf 0 _ rfl
  obtain ⟨x0, e0, _, w0⟩ := DataW.trod_int Try.underlying55 h0
  obtain rfl : v0 = .int .u16 x0 := by simpa using e0
  obtain ⟨v1, y1, c1, h1⟩ := hf 1 _ rfl
  obtain ⟨x1, e1, _, w1⟩ := DataW.trod_int Try.underlying5 h1
  obtain rfl : v1 = .int .u8 x1 := by simpa using e1
  obtain ⟨v2, y2, c2, h2⟩ := hf 2 _ rfl
  obtain ⟨x2, e2, _⟩ := DataW.trod_bool Try.underlying4 h2
  obtain rfl : v2 = .bool x2 := by simpa using e2
  match cs, hl with
  | [u0, u1, u2], _ =>
    obtain rfl : u0 = .int .u16 x0 := by simpa using c0
    obtain rfl : u1 = .int .u8 x1 := by simpa using c1
    obtain rfl : u2 = .bool x2 := by simpa using c2
    exact ⟨x0, x1, x2, rfl, w0, w1⟩
theorem opn76 {H : Type} {enc : TypeId × Value → H} {w : World} {base : Nat} {spare : Nat → Bool} {held : Bool} {fuel : Nat} {cs : List Value} {y : DataW H × List MemPlace} (h : DataW.trod enc Try.prog w base spare held fuel 76 cs = some y) :
    ∃ (x0 : Int) (x1 : Int) (x2 : Int) (x3 : Int) (x4 : Int), cs = [.int .u16 x0, .int .u16 x1, .int .u8 x2, .int .u8 x3, .int .i64 x4] ∧ (Lit.int .u16 x0).wf = true ∧ (Lit.int .u16 x1).wf = true ∧ (Lit.int .u8 x2).wf = true ∧ (Lit.int .u8 x3).wf = true ∧ (Lit.int .i64 x4).wf = true := by
  obtain ⟨hl, n, hf⟩ := Opn.flat_cells Try.underlying76 (by kernel_rfl) (by kernel_rfl) h
  obtain ⟨v0, y0, c0, h0⟩ := hf 0 _ rfl
  obtain ⟨x0, e0, _, w0⟩ := DataW.trod_int Try.underlying55 h0
  obtain rfl : v0 = .int .u16 x0 := by simpa using e0
  obtain ⟨v1, y1, c1, h1⟩ := hf 1 _ rfl
  obtain ⟨x1, e1, _, w1⟩ := DataW.trod_int Try.underlying55 h1
  obtain rfl : v1 = .int .u16 x1 := by simpa using e1
  obtain ⟨v2, y2, c2, h2⟩ := hf 2 _ rfl
  obtain ⟨x2, e2, _, w2⟩ := DataW.trod_int Try.underlying5 h2
  obtain rfl : v2 = .int .u8 x2 := by simpa using e2
  obtain ⟨v3, y3, c3, h3⟩ := hf 3 _ rfl
  obtain ⟨x3, e3, _, w3⟩ := DataW.trod_int Try.underlying5 h3
  obtain rfl : v3 = .int .u8 x3 := by simpa using e3
  obtain ⟨v4, y4, c4, h4⟩ := hf 4 _ rfl
  obtain ⟨x4, e4, _, w4⟩ := DataW.trod_int Try.underlying3 h4
  obtain rfl : v4 = .int .i64 x4 := by simpa using e4
  match cs, hl with
  | [u0, u1, u2, u3, u4], _ =>
    obtain rfl : u0 = .int .u16 x0 := by simpa using c0
    obtain rfl : u1 = .int .u16 x1 := by simpa using c1
    obtain rfl : u2 = .int .u8 x2 := by simpa using c2
    obtain rfl : u3 = .int .u8 x3 := by simpa using c3
    obtain rfl : u4 = .int .i64 x4 := by simpa using c4
    exact ⟨x0, x1, x2, x3, x4, rfl, w0, w1, w2, w3, w4⟩
set_option maxRecDepth 100000 in
theorem lifted (os : Os) (started : os.Started) (H : Type) (enc : TypeId × Value → H) :
    ReturnsInHanded {} Try.checked os 8 .any (Rows.fnExactTimesSpec.pre6 enc Try.prog Try.f8 Rows.fnExactTimesRow.domain false) (Rows.fnExactTimesSpec.post enc Try.prog Try.f8 false true false false) := by
  refine returnsInHanded_of_change_sized (C := Try.checked) own started (by kernel_rfl) Try.func8
    (ChangeSpec.witness6 (enc := enc) (C := Try.checked) false ⟨#[], #[.slice none 0 0, .slice none 0 0], []⟩ 8 (by kernel_rfl) (by kernel_rfl) (by kernel_rfl) (by kernel_rfl)) ?_
  intro W base args ds gs before hval0 hW hcnd hsz0 _
  have hsz : (DataW.weightsEach Try.prog (Try.f8.params.toList ++ Rows.fnExactTimesSpec.plain.varTypes Try.prog) (ds ++ gs)).all (· ≤ reachBytes) = true := hsz0
  have hval : ∀ (j : Nat) t v, Try.f8.params[j]? = some t → args[j]? = some v → Value.okWide Try.prog W .any base t v := hval0
  have hW' := hW
  obtain ⟨p, q, hA0, hV, rfl, hfz, hnd⟩ := hW
  have hA : DataW.TrodAll enc Try.prog W 0 (fun _ => true) true Try.f8.params.toList args.toList ds p := hA0
  rw [Try.params8] at hA hval hsz
  obtain ⟨v0, vs0, d0, ds0, p0, q0, hargs, rfl, rfl, h0, r0⟩ := trodAll_cons hA
  obtain ⟨v1, vs1, d1, ds1, p1, q1, rfl, rfl, rfl, h1, r1⟩ := trodAll_cons r0
  obtain ⟨rfl, rfl, rfl⟩ := trodAll_nil r1
  obtain rfl : args = #[v0, v1] := by cases args; simp_all
  obtain ⟨rfl, rfl⟩ := trodVars_none hV
  obtain ⟨a0, len0, cap0, rfl⟩ := okWide_slice Try.underlying48 (hval 0 48 v0 rfl rfl)
  have k0 := h0
  have lt0 : ∀ x ∈ p0, x.block < W.heap.size := by obtain ⟨m, hm⟩ := k0; exact DataW.trod_lt m _ _ _ hm
  have y0 : len0 * 16 ≤ 140737488351232 := Opn.sized_rows hsz (j := 0) (t := 48) rfl rfl Try.underlying48 (by kernel_rfl) h0
  obtain ⟨hc0, hm0, l0, hl0, hr0, hw0⟩ := Opn.open_rows k76 Good76 Try.underlying48 (by kernel_rfl) (fun _ _ _ h => by obtain ⟨x0, x1, x2, x3, x4, rfl, w0, w1, w2, w3, w4⟩ := opn76 h; exact ⟨⟨x0, x1, x2, x3, x4⟩, k76_mk _ _, ⟨w0, w1, w2, w3, w4⟩⟩) h0
  subst hl0
  obtain ⟨a1, len1, cap1, rfl⟩ := okWide_slice Try.underlying22 (hval 1 22 v1 rfl rfl)
  have k1 := h1
  have lt1 : ∀ x ∈ p1, x.block < W.heap.size := by obtain ⟨m, hm⟩ := k1; exact DataW.trod_lt m _ _ _ hm
  have y1 : len1 * 4 ≤ 140737488351232 := Opn.sized_rows hsz (j := 1) (t := 22) rfl rfl Try.underlying22 (by kernel_rfl) h1
  obtain ⟨hc1, hm1, l1, hl1, hr1, hw1⟩ := Opn.open_rows k59 Good59 Try.underlying22 (by kernel_rfl) (fun _ _ _ h => by obtain ⟨x0, x1, x2, rfl, w0, w1⟩ := opn59 h; exact ⟨⟨x0, x1, x2⟩, k59_mk _ _, ⟨w0, w1⟩⟩) h1
  subst hl1
  clear hA0 hval0 hsz0 hsz
  obtain ⟨k, h⟩ := Pure.FnExactTimes l0 l1 (Nat.le_trans hc0 hm0) y0 hw0 (Nat.le_trans hc1 hm1) y1 hw1
  refine (MT.laws_FnExactTimes.calls k _ _ l0 _ _ l1 true W hr0 hc0 hr1 hc1 h).mono fun e W' hd => ?_
  obtain ⟨he, bel0⟩ := hd
  have bel : Below W.heap.size W W' := bel0
  subst he
  exact ⟨_, rfl, _, _, _, [], _, [], hW', trodAll_mk1 (shut_bool Try.underlying4 _), (trodAll_cons_mk (Below.trod laidOut (by kernel_rfl) (of_decide_eq_true (by kernel_rfl)) k0 bel lt0) (trodAll_cons_mk (Below.trod laidOut (by kernel_rfl) (of_decide_eq_true (by kernel_rfl)) k1 bel lt1) trodAll_mk0)), rfl, bel.frame _, fun h => by cases h⟩
theorem over : Rows.fnExactTimesRow.holds Try.pinned (OpenSpec.ofChange Rows.fnExactTimesSpec) :=
  OpenClaim.holds_of_wide 8 Try.f8 rfl rfl rfl rfl rfl rfl rfl ⟨rfl, rfl, rfl, rfl, rfl⟩ rfl rfl rfl rfl rfl (by kernel_rfl) Try.func8 (by kernel_rfl)
    (of_decide_eq_true (by kernel_rfl)) (by unfold Func.isWrapper; first | (rw [if_pos (by decide +kernel)]; kernel_rfl) | (rw [if_neg (by decide +kernel)]; exact ⟨rfl, rfl⟩))
    (fun os started H enc _ => lifted os started H enc)
theorem proved : Rows.FnExactTimesSaid := over
#print axioms proved
end Go.Proofs.Ythebdcoiibpfeaa.fnExactTimes
namespace Go.Proofs.Ythebdcoiibpfeaa
/-- The row, under a short name, for the claim. -/
theorem fnExactTimes_holds : Rows.FnExactTimesSaid := fnExactTimes.proved
end Go.Proofs.Ythebdcoiibpfeaa
