-- Written by this session's own program (wip/myprint.py) over the kit's print of the translation. Lean checks it.
/-
The law FnExactCodeBytes: for every input it returns true (the row), out of its Pure statement and the printed walk.
-/
import Derived.Test.YtfahgmdnmceleaaDoorRows
import Derived.Test.YtfahgmdnmceleaaDoorMDx9
import Derived.Test.YtfahgmdnmceleaaDoorPureFnExactCodeBytes
import Derived.WalkKit
import Derived.ProofKit
import Derived.OpenShut
import Derived.ShutString
import Derived.ChangeOld
import Derived.Below
import Derived.SizedLaws
import Derived.Test.YtfahgmdnmceleaaDoorOpn
import Derived.Test.YtfahgmdnmceleaaDoorWAll
import Derived.Test.YtfahgmdnmceleaaDoorCards
import Derived.Test.YtfahgmdnmceleaaDoorTie
import Derived.Test.YtfahgmdnmceleaaDoorLaid
import Derived.Deep.DeepHandedRow
import Derived.Deep.DeepWitnessRowRef
import Derived.LaidMore
namespace Go.Proofs.YtfahgmdnmceleaaDoor.fnExactCodeBytes
open Go.ChangeShapes Go.WideShapes Go.ChangeAt Go.RowKit Go.Proofs.YtfahgmdnmceleaaDoor.MD Go.Proofs.YtfahgmdnmceleaaDoorW.PrintWords Go.Proofs.YtfahgmdnmceleaaDoorW.PrintLast
open Go.ChangeMaps (open_string shut_string)
set_option linter.unusedVariables false
theorem own : ownKnob Tryd.prog.godebug = none := by kernel_rfl
theorem laidOut : laidOutB Tryd.prog = true := by kernel_rfl
theorem opn47 {H : Type} {enc : TypeId × Value → H} {w : World} {base : Nat} {spare : Nat → Bool} {held : Bool} {fuel : Nat} {cs : List Value} {y : DataW H × List MemPlace} (h : DataW.trod enc Tryd.prog w base spare held fuel 47 cs = some y) :
    ∃ (x0 : Int) (x1 : Int) (x2 : Bool), cs = [.int .u16 x0, .int .u8 x1, .bool x2] ∧ (Lit.int .u16 x0).wf = true ∧ (Lit.int .u8 x1).wf = true := by
  obtain ⟨hl, n, hf⟩ := Opn.flat_cells Tryd.underlying47 (by kernel_rfl) (by kernel_rfl) h
  obtain ⟨v0, y0, c0, h0⟩ := hf 0 _ rfl
  obtain ⟨x0, e0, _, w0⟩ := DataW.trod_int Tryd.underlying42 h0
  obtain rfl : v0 = .int .u16 x0 := by simpa using e0
  obtain ⟨v1, y1, c1, h1⟩ := hf 1 _ rfl
  obtain ⟨x1, e1, _, w1⟩ := DataW.trod_int Tryd.underlying5 h1
  obtain rfl : v1 = .int .u8 x1 := by simpa using e1
  obtain ⟨v2, y2, c2, h2⟩ := hf 2 _ rfl
  obtain ⟨x2, e2, _⟩ := DataW.trod_bool Tryd.underlying4 h2
  obtain rfl : v2 = .bool x2 := by simpa using e2
  match cs, hl with
  | [u0, u1, u2], _ =>
    obtain rfl : u0 = .int .u16 x0 := by simpa using c0
    obtain rfl : u1 = .int .u8 x1 := by simpa using c1
    obtain rfl : u2 = .bool x2 := by simpa using c2
    exact ⟨x0, x1, x2, rfl, w0, w1⟩
set_option maxRecDepth 100000 in
theorem reads (os : Os) {H : Type} (enc : TypeId × Value → H) : ∃ places, DataW.whole enc Tryd.prog ((World.doorLaid Tryd.prog 33 os).forCall (fun _ _ => 0) ⟨#[], #[.slice none 0 0, .slice none 0 0], []⟩).memory Tryd.f3.params.toList Rows.fnExactCodeBytesSpec.vars false #[(.slice none 0 0 : Value), (.slice none 0 0 : Value)].toList 8 = some ([.nil, .nil], [], places) := ⟨[], by kernel_rfl⟩
set_option maxRecDepth 100000 in
theorem laid_met (os : Os) : laidMetH Tryd.prog Rows.fnExactCodeBytesRow.laid ((World.doorLaid Tryd.prog 33 os).forCall (fun _ _ => 0) ⟨#[], #[.slice none 0 0, .slice none 0 0], []⟩).memory := laidMetH_of_parts3 (fuel := 8) (laidMet_of_run' 8 (by kernel_rfl) (by kernel_rfl)) (by kernel_rfl) (by kernel_rfl)
set_option maxRecDepth 100000 in
theorem lifted (os : Os) (started : os.Started) (H : Type) (enc : TypeId × Value → H) (F : Stop.Interp) :
    ReturnsInHanded {} Tryd.checked os 3 .any ((OpenSpec.ofChange Rows.fnExactCodeBytesSpec).preRow enc Tryd.prog Tryd.f3 Rows.fnExactCodeBytesRow.domain false Rows.fnExactCodeBytesRow.laid) (((OpenSpec.ofChange Rows.fnExactCodeBytesSpec).at F).post enc Tryd.prog Tryd.f3 false true false false) := by
  obtain ⟨places, hx⟩ := reads os enc
  refine returnsInHanded_of_row (C := Tryd.checked) (s := OpenSpec.ofChange Rows.fnExactCodeBytesSpec) own started (by kernel_rfl) Tryd.func3
    (witness_row_atRef (enc := enc) (C := Tryd.checked) false (World.doorLaid Tryd.prog 33 os) #[.slice none 0 0, .slice none 0 0] rfl (by kernel_rfl) (by kernel_rfl) (by kernel_rfl)
      (OpenSpec.preRow_of_cond 8 hx (by kernel_rfl) (fun k hk => by cases hk) (by kernel_rfl) (laid_met os))) ?_
  intro W base args ds gs before hval0 hW hcnd _ hsz0 hL hSh _
  have HT := Laid.fnExactCodeBytes_tab hL hSh
  have hsz : (DataW.weightsEach Tryd.prog (Tryd.f3.params.toList ++ Rows.fnExactCodeBytesSpec.plain.varTypes Tryd.prog) (ds ++ gs)).all (· ≤ reachBytes) = true := hsz0
  have hval : ∀ (j : Nat) t v, Tryd.f3.params[j]? = some t → args[j]? = some v → Value.okWide Tryd.prog W .any base t v := hval0
  have hW' := hW
  obtain ⟨p, q, hA0, hV, rfl, hfz, hnd⟩ := hW
  have hA : DataW.TrodAll enc Tryd.prog W 0 (fun _ => true) true Tryd.f3.params.toList args.toList ds p := hA0
  rw [Tryd.params3] at hA hval hsz
  obtain ⟨v0, vs0, d0, ds0, p0, q0, hargs, rfl, rfl, h0, r0⟩ := trodAll_cons hA
  obtain ⟨v1, vs1, d1, ds1, p1, q1, rfl, rfl, rfl, h1, r1⟩ := trodAll_cons r0
  obtain ⟨rfl, rfl, rfl⟩ := trodAll_nil r1
  obtain rfl : args = #[v0, v1] := by cases args; simp_all
  obtain ⟨rfl, rfl⟩ := trodVars_none hV
  obtain ⟨a0, len0, cap0, rfl⟩ := okWide_slice Tryd.underlying22 (hval 0 22 v0 rfl rfl)
  have k0 := h0
  have lt0 : ∀ x ∈ p0, x.block < W.heap.size := by obtain ⟨m, hm⟩ := k0; exact DataW.trod_lt m _ _ _ hm
  have y0 : len0 * 4 ≤ 140737488351232 := Opn.sized_rows hsz (j := 0) (t := 22) rfl rfl Tryd.underlying22 (by kernel_rfl) h0
  obtain ⟨hc0, hm0, l0, hl0, hr0, hw0⟩ := Opn.open_rows k47 Good47 Tryd.underlying22 (by kernel_rfl) (fun _ _ _ h => by obtain ⟨x0, x1, x2, rfl, w0, w1⟩ := opn47 h; exact ⟨⟨x0, x1, x2⟩, k47_mk _ _, ⟨w0, w1⟩⟩) h0
  subst hl0
  obtain ⟨a1, len1, cap1, rfl⟩ := okWide_slice Tryd.underlying23 (hval 1 23 v1 rfl rfl)
  have k1 := h1
  have lt1 : ∀ x ∈ p1, x.block < W.heap.size := by obtain ⟨m, hm⟩ := k1; exact DataW.trod_lt m _ _ _ hm
  have y1 : len1 * 8 ≤ 140737488351232 := Opn.sized_rows hsz (j := 1) (t := 23) rfl rfl Tryd.underlying23 (by kernel_rfl) h1
  obtain ⟨hc1, hm1, l1, hl1, hr1, hw1⟩ := Opn.open_rows (Kd.int .i64) (fun x => (Lit.int .i64 x).wf = true) Tryd.underlying23 (by kernel_rfl) (fun _ _ _ h => by obtain ⟨x, rfl, _, w⟩ := DataW.trod_int Tryd.underlying3 h; exact ⟨x, rfl, w⟩) h1
  subst hl1
  clear hA0 hval0 hsz0 hsz
  obtain ⟨k, h⟩ := Pure.FnExactCodeBytes l0 l1 (Nat.le_trans hc0 hm0) y0 hw0 (Nat.le_trans hc1 hm1) y1 hw1
  refine (MD.laws_FnExactCodeBytes.calls k _ _ l0 _ _ l1 true W hr0 hc0 hr1 hc1 h HT).mono fun e W' hd => ?_
  obtain ⟨he, bel0⟩ := hd
  have bel : Below W.heap.size W W' := bel0
  subst he
  exact ⟨_, rfl, _, _, _, [], _, [], hW', trodAll_mk1 (shut_bool Tryd.underlying4 _), (trodAll_cons_mk (Below.trod laidOut (by kernel_rfl) (of_decide_eq_true (by kernel_rfl)) k0 bel lt0) (trodAll_cons_mk (Below.trod laidOut (by kernel_rfl) (of_decide_eq_true (by kernel_rfl)) k1 bel lt1) trodAll_mk0)), rfl, bel.frame _, fun h => by cases h⟩
theorem said : Rows.FnExactCodeBytesSaid :=
  OpenClaim.holds_of_cond 3 Tryd.f3 rfl rfl rfl rfl rfl rfl rfl ⟨rfl, rfl, rfl, rfl, rfl⟩ rfl rfl rfl rfl rfl (by kernel_rfl) Tryd.func3 (by kernel_rfl)
    (of_decide_eq_true (by kernel_rfl)) (by unfold Func.isWrapper; first | (rw [if_pos (by decide +kernel)]; kernel_rfl) | (rw [if_neg (by decide +kernel)]; exact ⟨rfl, rfl⟩))
    (fun os started H enc _ F => by rw [OpenClaim.pre_eq_preRow]; exact lifted os started H enc F)
theorem plain (f : FuncId) (fn : Func) (hf : Tryd.pinned.checked.prog.funcNamed Rows.fnExactCodeBytesRow.func = some f) (hfn : Tryd.pinned.checked.prog.funcs[f]? = some fn) :
    false = Tryd.pinned.checked.prog.looks [] ∧ ∀ (j : Nat) t, fn.params[j]? = some t → Tryd.pinned.checked.prog.wantsStandIn t = false := by
  obtain rfl : f = 3 := Option.some.inj ((show Tryd.prog.funcNamed Rows.fnExactCodeBytesRow.func = some 3 by kernel_rfl).symm.trans hf) |>.symm
  obtain rfl : fn = Tryd.f3 := (Option.some.inj (Tryd.func3.symm.trans hfn)).symm
  refine ⟨by kernel_rfl, fun j t ht => ?_⟩
  rw [Tryd.params3] at ht
  have hm : t ∈ [22, 23] := by simpa using Array.mem_of_getElem? ht
  have hall : ([22, 23].all fun u => !Tryd.prog.wantsStandIn u) = true := by kernel_rfl
  exact (show Tryd.prog.wantsStandIn t = false by simpa using List.all_eq_true.1 hall t hm)
theorem proved : Rows.FnExactCodeBytesCardSaid :=
  Claim7.holds_tied_plain_at .later [] _ _ _ _ said (fun _ h => by cases h) (by kernel_rfl) (fun _ h => by cases h) fnExactCodeBytes_row_tie rfl ⟨rfl, rfl⟩ (by kernel_rfl) rfl plain (by kernel_rfl)
#print axioms proved
end Go.Proofs.YtfahgmdnmceleaaDoor.fnExactCodeBytes
namespace Go.Proofs.YtfahgmdnmceleaaDoor
/-- The card, under a short name, for the claim. -/
theorem fnExactCodeBytes_holds : Rows.FnExactCodeBytesCardSaid := fnExactCodeBytes.proved
end Go.Proofs.YtfahgmdnmceleaaDoor
