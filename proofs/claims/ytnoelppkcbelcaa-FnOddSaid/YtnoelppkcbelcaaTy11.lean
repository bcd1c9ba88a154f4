/-
Regions: in their order, and where the order is drawn.
-/
import Derived.Test.YtnoelppkcbelcaaTy10
import Derived.Orders
import Derived.OrdersHeld
set_option linter.unusedVariables false
set_option linter.unusedSimpArgs false
namespace Go.Proofs.Ytnoelppkcbelcaa.Ty
open Go Go.RowKit

/-- A rest lies below what was divided by. -/
def St.putR (S : St) (o : Oper) (av : AV) : St := match o.op with
  | .binOp .rem _ x y _ => match S.eval x, S.eval y with
    | .one (.cell (.int k lx _ _)), .one (.cell (.int k' ly hy sy)) => if k = k' ∧ 0 ≤ lx ∧ 0 < ly then addLt (S.putF o.dst av) o.dst (.one (.cell (.int k' ly hy sy))) else S.putF o.dst av
    | _, _ => S.putF o.dst av
  | _ => S.putF o.dst av
theorem Good.putR {X : Ctx} {E : Env} {S : St} {a : Act} {w : World} (h : Good X E S a w) {o : Oper} {av : AV} {v : Value} (h1 : (execOp a.eval o).run X.P w = .ok (.value v) w) (hv : hasAV E av v) :
    ∃ E', Ren E E' ∧ Good X E' (S.putR o av) (a.put o.dst v) w := by
  obtain ⟨E', r, h3⟩ := h.putF o.dst hv
  refine ⟨E', r, ?_⟩
  unfold St.putR
  split
  · rename_i t x y t2 hop
    split
    · rename_i k lx hx sx k' ly hy sy ex ey
      split
      · rename_i hc
        obtain ⟨rfl, hc1, hc2⟩ := hc
        have hx1 := h.eval x
        have hy1 := h.eval y
        rw [ex] at hx1
        rw [ey] at hy1
        have hy2 := hy1.ext r.ext
        obtain ⟨n, en, hn, _⟩ := hx1
        obtain ⟨m, em, hm, _⟩ := hy1
        have e5 : v = .int k (n.tmod m) := by
          simpa [execOp, hop, en, em, eqGuard, binOp, Op.intDiv, show m ≠ 0 by omega, eq_comm] using h1
        refine h3.addLt (v := v) (u := a.eval y) (fun d hd hdl => ?_) hy2 ⟨k, n.tmod m, k, m, e5, em, Int.tmod_lt_of_pos n (by omega)⟩
        rw [hd] at hdl ⊢
        have hdl2 : d < a.tmps.size := by simpa [Act.put] using hdl
        simp [Act.put, Array.getD_eq_getD_getElem?, Array.getElem?_setIfInBounds_self_of_lt hdl2]
      · exact h3
    · exact h3
  · exact h3
def opx (Γ : Kit) (o : Oper) (S : St) : Option (List St) := match pureOp Γ.tab S.lt S.eval o.op with
  | some av => some [S.putR o av]
  | none => memOp Γ o S
structure Env2 (X : Ctx) (Γ : Kit) : Prop where
  tab : TabOK X.P Γ.tab
  calls : SoundT X.P X.CP Γ.T
  hd : X.hd = Γ.hd
theorem opx_ok {X : Ctx} {Γ : Kit} (hE : Env2 X Γ) {E : Env} {S : St} {a : Act} {w : World} (h : Good X E S a w) {o : Oper} {L : List St} (hx : opx Γ o S = some L) {Kn : Act → World → Prop} {Q : Exit → Act → World → Prop}
    (hk : ∀ a' w', GoodL X E L a' w' → Kn a' w') : o.wp X.P a w Kn Q := by
  unfold opx at hx
  split at hx
  · rename_i av hav
    cases hx
    obtain ⟨v, h1, h2⟩ := pureOp_ok hE.tab h.lts (fun x => h.eval x) o hav
    obtain ⟨E', r, h3⟩ := h.putR (h1 w) h2
    unfold Oper.wp
    rw [h1 w, Oper.upon_value]
    exact hk _ _ (GoodL.one r.ext.rel h3)
  · cases hop : o.op with
    | alloc t => exact wp_alloc hE.tab h hop hx hk
    | box t x => exact wp_box h hop hx hk
    | buildSlice t n ps => exact wp_buildSlice hE.tab h hop hx hk
    | makeSlice t l c => exact wp_makeSlice hE.tab h hop hx hk
    | load t x => exact wp_load hE.tab h hop hx hk
    | store t x v => exact wp_store hE.tab h hE.hd hop hx hk
    | call c =>
      cases hc : c.callee with
      | value f => cases f with
        | func f => exact wp_callF h hE.hd hE.calls hop hc hx hk
        | _ => unfold memOp at hx; simp only [hop, callM, hc] at hx; cases hx
      | invoke r m => unfold memOp at hx; simp only [hop, callM, hc] at hx; cases hx
      | builtin b => cases b <;> first | exact wp_append hE.tab h hop hc hx hk | (unfold memOp at hx; simp only [hop, callM, hc] at hx; cases hx)
    | _ => unfold memOp at hx; simp only [hop] at hx; cases hx
/-- What is known better of a slot. -/
theorem Good.sharpen {X : Ctx} {E : Env} {S : St} {a : Act} {w : World} (h : Good X E S a w) {t : Nat} {av : AV} (hv : hasAV E av (a.tmps.getD t undef)) : Good X E (S.setT t av) a w := by
  refine ⟨h.defers, h.len, h.nx, fun i => ?_, h.kinv, h.fr, h.blks, h.lts, h.held⟩
  simp only [St.setT]
  by_cases ht : t = i
  · subst ht
    by_cases hl : t < S.nt
    · rw [getT_self hl]; exact hv
    · unfold putT
      rw [if_neg hl]
      exact h.tmps t
  · rw [getT_put ht]
    exact h.tmps i
/-- All that is not needed later is forgotten. -/
def keepT : List Nat → List (Nat × AV) → List (Nat × AV)
  | [], _ => []
  | k :: r, l => match getT l k with
    | .any => keepT r l
    | v => (k, v) :: keepT r l
theorem keepT_get : ∀ (keep : List Nat) (l : List (Nat × AV)) (j : Nat), getT (keepT keep l) j = getT l j ∨ getT (keepT keep l) j = .any
  | [], l, j => .inr rfl
  | k :: r, l, j => by
    unfold keepT
    split
    · exact keepT_get r l j
    · rw [getT]
      split
      · rename_i hk
        subst hk
        exact .inl rfl
      · exact keepT_get r l j
def St.only (keep : List Nat) (S : St) : St := { S with tmps := keepT keep S.tmps }
theorem Good.only {X : Ctx} {E : Env} {S : St} {a : Act} {w : World} (h : Good X E S a w) (keep : List Nat) : Good X E (S.only keep) a w := by
  refine ⟨h.defers, h.len, h.nx, fun i => ?_, h.kinv, h.fr, h.blks, h.lts, h.held⟩
  rcases keepT_get keep S.tmps i with h1 | h1
  · show hasAV E (getT (keepT keep S.tmps) i) _
    rw [h1]
    exact h.tmps i
  · show hasAV E (getT (keepT keep S.tmps) i) _
    rw [h1]
    trivial
/-- The two ways of a test. -/
def St.way (S : St) (t : Nat) (b : Bool) (fs : List Fact) : St := (S.setT t (.one (.cell (.bool (some b) [] [])))).assume fs
theorem Good.way {X : Ctx} {E : Env} {S : St} {a : Act} {w : World} (h : Good X E S a w) {t : Nat} {b : Bool} {fs : List Fact} (hb : a.tmps.getD t undef = .bool b) (hf : ∀ f ∈ fs, f.ok E) : Good X E (S.way t b fs) a w :=
  (h.sharpen (by rw [hb]; exact bool_sure)).assume hf
def sel (b : Bool) (x y : List Fact) : List Fact := match b with
  | true => x
  | false => y
def keepSt (S : St) (L : List St) : List St := if S.bad then [] else L
def stepOp (Γ : Kit) (ops : Array Oper) (o : Oper) (S : St) : Option (List St) :=
  match o.guard with
  | none => opx Γ o S
  | some (j, want) => match (ops[j]?).bind (·.dst) with
    | none => none
    | some t => match S.eval (.tmp t) with
      | .one (.cell (.bool (some b) _ _)) => if b = want then opx Γ o S else some [S.put o.dst (.tup [])]
      | .one (.cell (.bool none ft ff)) =>
        let S1 := S.way t want (sel want ft ff)
        let S0 := S.way t (!want) (sel want ff ft)
        if S1.bad then some (keepSt S0 [S0.put o.dst (.tup [])])
        else match opx Γ o S1 with
          | some L => some (L ++ keepSt S0 [S0.put o.dst (.tup [])])
          | none => none
      | .tup [] => some [S.put o.dst (.tup [])]
      | _ => none
theorem stepOp_ok {X : Ctx} {Γ : Kit} (hE : Env2 X Γ) {E : Env} {S : St} {a : Act} {w : World} (h : Good X E S a w) {ops : Array Oper} {i : Nat} {o : Oper} (ho : ops[i]? = some o) {L : List St} (hx : stepOp Γ ops o S = some L) {Kn : Act → World → Prop} {Q : Exit → Act → World → Prop}
    (hk : ∀ a' w', GoodL X E L a' w' → Kn a' w') : wpOp X.P ops Q i Kn a w := by
  unfold wpOp
  simp only [ho]
  unfold stepOp at hx
  cases hg : o.guard with
  | none =>
    rw [hg] at hx
    simp only [Region.wanted, hg, if_true]
    exact .inl (opx_ok hE h hx hk)
  | some jw =>
    obtain ⟨j, want⟩ := jw
    rw [hg] at hx
    simp only at hx
    split at hx
    · cases hx
    · rename_i t ht
      have hy : ∀ b, a.tmps.getD t undef = .bool b → yielded ops a.tmps j = some b := fun b hb => by
        unfold yielded
        rw [ht]
        simp only [Option.bind_some]
        have : a.tmps[t]? = some (.bool b) := by
          rw [Array.getD_eq_getD_getElem?] at hb
          cases hq : a.tmps[t]? with
          | none => rw [hq] at hb; simp [undef] at hb
          | some q => rw [hq] at hb; simp at hb; rw [hb]
        rw [this]
      have hv := h.tmps t
      have hwant : ∀ b, a.tmps.getD t undef = .bool b → Region.wanted o (yielded ops a.tmps) = (b == want) := fun b hb => by
        unfold Region.wanted
        rw [hg]
        simp only [hy b hb]
        cases b <;> cases want <;> rfl
      split at hx
      · rename_i b ft ff heq
        have heq' : getT S.tmps t = .one (.cell (.bool (some b) ft ff)) := heq
        rw [heq'] at hv
        obtain ⟨b', hb, h1, _⟩ := hv
        obtain rfl := h1 b rfl
        rw [hwant b' hb]
        split at hx
        · rename_i hbw
          rw [show (b' == want) = true by simpa using hbw]
          simp only [if_true]
          exact .inl (opx_ok hE h hx hk)
        · rename_i hbw
          rw [show (b' == want) = false by simpa using hbw]
          cases hx
          simp only [Bool.false_eq_true, if_false]
          exact hk _ _ (GoodL.one (Rel.refl E) (h.put o.dst (av := .tup []) (v := undef) ⟨#[], rfl, trivial⟩))
      · rename_i ft ff heq
        have heq' : getT S.tmps t = .one (.cell (.bool none ft ff)) := heq
        rw [heq'] at hv
        obtain ⟨b, hb, _, h2, h3⟩ := hv
        rw [hwant b hb]
        have hfacts : ∀ f ∈ (if b = true then ft else ff), f.ok E := by
          cases b
          · exact fun f hf => h3 rfl f hf
          · exact fun f hf => h2 rfl f hf
        have other : ∀ S0 : St, S0 = S.way t (!want) (sel want ff ft) → b = (!want) → GoodL X E (keepSt S0 [S0.put o.dst (.tup [])]) (a.put o.dst undef) w := fun S0 e hbw => by
          have hg0 : Good X E S0 a w := by
            rw [e]
            refine h.way (by rw [hb, hbw]) ?_
            subst hbw
            cases want <;> simpa [sel] using hfacts
          unfold keepSt
          rw [hg0.not_bad]
          exact GoodL.one (Rel.refl E) (hg0.put o.dst (av := .tup []) (v := undef) ⟨#[], rfl, trivial⟩)
        have this1 : b = want → Good X E (S.way t want (sel want ft ff)) a w := fun hbw => by
          refine h.way (by rw [hb, hbw]) ?_
          subst hbw
          cases b <;> simpa [sel] using hfacts
        by_cases hbw : b = want
        · rw [show (b == want) = true by simpa using hbw]
          simp only [if_true]
          have hg1 := this1 hbw
          split at hx
          · rename_i hbad
            rw [hg1.not_bad] at hbad
            cases hbad
          · split at hx
            · rename_i L1 hL1
              cases hx
              exact .inl (opx_ok hE hg1 hL1 fun a' w' hh => hk a' w' (hh.mono fun S hS => List.mem_append_left _ hS))
            · cases hx
        · have hbn : b = (!want) := by cases b <;> cases want <;> simp_all
          rw [show (b == want) = false by simpa using hbw]
          simp only [Bool.false_eq_true, if_false]
          have hoth := other _ rfl hbn
          split at hx
          · cases hx
            exact hk _ _ hoth
          · split at hx
            · cases hx
              exact hk _ _ (hoth.mono fun S hS => List.mem_append_right _ hS)
            · cases hx
      · rename_i heq
        have heq' : getT S.tmps t = .tup [] := heq
        rw [heq'] at hv
        obtain ⟨us, hu, _⟩ := hv
        have hyn : yielded ops a.tmps j = none := by
          unfold yielded
          rw [ht]
          simp only [Option.bind_some]
          rw [Array.getD_eq_getD_getElem?] at hu
          cases hq : a.tmps[t]? with
          | none => rfl
          | some q => rw [hq] at hu; simp at hu; rw [hu]
        have hwn : Region.wanted o (yielded ops a.tmps) = false := by
          unfold Region.wanted
          rw [hg]
          simp only [hyn]
          rfl
        rw [hwn]
        cases hx
        simp only [Bool.false_eq_true, if_false]
        exact hk _ _ (GoodL.one (Rel.refl E) (h.put o.dst (av := .tup []) (v := undef) ⟨#[], rfl, trivial⟩))
      · cases hx
def bindSt (f : St → Option (List St)) : List St → Option (List St)
  | [] => some []
  | S :: r => match f S, bindSt f r with
    | some L, some M => some (L ++ M)
    | _, _ => none
theorem bindSt_mem {f : St → Option (List St)} : ∀ {L M : List St}, bindSt f L = some M → ∀ S ∈ L, ∃ N, f S = some N ∧ ∀ T ∈ N, T ∈ M
  | [], M, _, S, hS => by simp at hS
  | S0 :: r, M, h, S, hS => by
    unfold bindSt at h
    cases h1 : f S0 with
    | none => rw [h1] at h; cases h
    | some L1 => cases h2 : bindSt f r with
      | none => rw [h1, h2] at h; cases h
      | some M1 =>
        rw [h1, h2] at h
        cases h
        rcases List.mem_cons.1 hS with rfl | hS
        · exact ⟨L1, h1, fun T hT => List.mem_append_left _ hT⟩
        · obtain ⟨N, h3, h4⟩ := bindSt_mem h2 S hS
          exact ⟨N, h3, fun T hT => List.mem_append_right _ (h4 T hT)⟩
def seqOps (Γ : Kit) (ops : Array Oper) : List Nat → List St → Option (List St)
  | [], L => some L
  | i :: r, L => match ops[i]? with
    | none => seqOps Γ ops r L
    | some o => match bindSt (stepOp Γ ops o) L with
      | some M => seqOps Γ ops r M
      | none => none
theorem seqOps_ok {X : Ctx} {Γ : Kit} (hE : Env2 X Γ) {E : Env} {ops : Array Oper} {Q : Exit → Act → World → Prop} : ∀ {is : List Nat} {L M : List St}, seqOps Γ ops is L = some M → (∀ a' w', GoodL X E M a' w' → Q .normal a' w') → ∀ {a : Act} {w : World}, GoodL X E L a w → wpOps X.P ops Q is a w
  | [], L, M, h, hQ, a, w, hL => by
    cases h
    exact hQ a w hL
  | i :: r, L, M, h, hQ, a, w, hL => by
    rw [wpOps_cons]
    unfold seqOps at h
    cases ho : ops[i]? with
    | none =>
      rw [ho] at h
      unfold wpOp
      rw [ho]
      exact seqOps_ok hE h hQ hL
    | some o =>
      rw [ho] at h
      simp only at h
      cases hb : bindSt (stepOp Γ ops o) L with
      | none => rw [hb] at h; cases h
      | some M1 =>
        rw [hb] at h
        obtain ⟨S, hS, E', r1, hg⟩ := hL
        obtain ⟨N, h1, h2⟩ := bindSt_mem hb S hS
        exact stepOp_ok hE hg ho h1 fun a' w' hh => seqOps_ok hE h hQ ((hh.mono h2).rel r1)
/-- What a load of a variable that the region leaves alone yields. -/
def heldLoad (Γ : Kit) (S : St) : Op → Option AV
  | .load t x => match Γ.tab t, S.eval x with
    | some d, .one (.cell (.ptr b off)) => if Γ.hd.contains b = true then (match S.bl[b]? with
      | some (_, cs) =>
        if d.agg = true then (if off + d.size ≤ cs.length then some (.one (.agg ((cs.drop off).take d.size))) else none)
        else (cs[off]?).map fun s => .one (.cell s)
      | none => none) else none
    | _, _ => none
  | _ => none
def HeldW (X : Ctx) (w : World) : Prop := ∀ b ∈ X.hd, w.heap[X.hβ b]? = X.hw.heap[X.hβ b]?
theorem Good.heldW {X : Ctx} {E : Env} {S : St} {a : Act} {w : World} (h : Good X E S a w) : HeldW X w := fun b hb => (h.held b hb).2.2
theorem heldLoad_ok {X : Ctx} {Γ : Kit} (hE : Env2 X Γ) {E : Env} {S : St} {a : Act} {w : World} (h : Good X E S a w) {o : Oper} {av : AV} (hl : heldLoad Γ S o.op = some av) :
    ∃ v, (∀ w', HeldW X w' → (execOp a.eval o).run X.P w' = .ok (.value v) w') ∧ hasAV E av v := by
  cases hop : o.op with
  | load t x =>
    rw [hop] at hl
    simp only [heldLoad] at hl
    have hx := h.eval x
    split at hl
    · rename_i d b off hd heq
      rw [heq] at hx
      obtain ⟨hbl, hpv⟩ := hx
      split at hl
      · rename_i hc
        have hbm : b ∈ X.hd := by rw [hE.hd]; simpa using hc
        split at hl
        · rename_i t' cs hb
          obtain ⟨h1, h2, vs, h3, h4⟩ := h.blks.at_ b t' cs hb
          obtain ⟨_, k2, k3⟩ := h.held b hbm
          have hsz : vs.size = cs.length := by rw [h4.length, Array.length_toList]
          have hh : ∀ w', HeldW X w' → w'.heap[E.β b]? = some (.cells vs t' (0, 0)) := fun w' hw' => by
            rw [k2, hw' b hbm, ← k3, ← k2]
            exact h3
          split at hl
          · rename_i hag
            split at hl
            · rename_i hle
              cases hl
              refine ⟨.agg ((vs.toList.drop off).take d.size).toArray, fun w' hw' => ?_, ⟨_, rfl, (h4.drop _).take _⟩⟩
              have hlc := run_loadCells_at (P := X.P) (hh w' hw') (show off + d.size ≤ vs.size by omega)
              simp [execOp, hop, Instr.loadAt, hpv, Instr.sureAddr, loadVar, hE.tab.isAgg hd, hag, hE.tab.size hd, hlc]
            · cases hl
          · rename_i hag
            cases hc2 : cs[off]? with
            | none => rw [hc2] at hl; cases hl
            | some s =>
              rw [hc2] at hl
              cases hl
              obtain ⟨v, hv1, hv2⟩ := h4.get hc2
              refine ⟨v, fun w' hw' => ?_, hv2⟩
              have hl2 := run_load_at (P := X.P) (hh w' hw') (show vs[off]? = some v by simpa using hv1)
              simp only [execOp, hop, Instr.loadAt, hpv, Instr.sureAddr, loadVar, Sem.run_bind, Sem.run_pure, Result.andThen_ok, hE.tab.isAgg hd, hag]
              simp only [Bool.false_eq_true, if_false, Sem.run_bind, hl2, Result.andThen_ok, Sem.run_pure]
        · cases hl
      · cases hl
    · cases hl
  | _ => rw [hop] at hl; cases hl
def freeAV (Γ : Kit) (S : St) (op : Op) : Option AV := match pureOp Γ.tab S.lt S.eval op with
  | some av => some av
  | none => heldLoad Γ S op
theorem freeAV_ok {X : Ctx} {Γ : Kit} (hE : Env2 X Γ) {E : Env} {S : St} {a : Act} {w : World} (h : Good X E S a w) {o : Oper} {av : AV} (hl : freeAV Γ S o.op = some av) :
    ∃ v, (∀ w', HeldW X w' → (execOp a.eval o).run X.P w' = .ok (.value v) w') ∧ hasAV E av v := by
  unfold freeAV at hl
  split at hl
  · rename_i av' hav
    cases hl
    obtain ⟨v, h1, h2⟩ := pureOp_ok hE.tab h.lts (fun x => h.eval x) o hav
    exact ⟨v, fun w' _ => h1 w', h2⟩
  · exact heldLoad_ok hE h hl
/-- The operations ahead of each, as bits. -/
def edgeMask : List Edge → Nat
  | [] => 0
  | e :: r => if Region.binds .any e then 2 ^ e.on ||| edgeMask r else edgeMask r
def amask (ops : Array Oper) (i : Nat) : Nat := match ops[i]? with
  | some o => edgeMask o.after.toList
  | none => 0
def readyB (ops : Array Oper) (L i : Nat) : Bool := !L.testBit i && (amask ops i &&& L) == amask ops i
def goesBy (ops : Array Oper) (i j : Nat) : Bool := j == i || (match ops[i]?, ops[j]? with
  | some oi, some oj => (amask ops j).testBit i || oi.apart ops oj
  | _, _ => false)
def maskNot (p : Nat → Bool) : List Nat → Nat
  | [] => 0
  | j :: r => if p j then maskNot p r else 2 ^ j ||| maskNot p r
def fmask (ops : Array Oper) (i : Nat) : Nat := maskNot (goesBy ops i) (List.range ops.size)
def freeB (ops : Array Oper) (L i : Nat) : Bool := (fmask ops i &&& L) == fmask ops i
theorem edgeMask_bit (j : Nat) : ∀ es : List Edge, (edgeMask es).testBit j = es.any fun e => Region.binds .any e && e.on == j
  | [] => by simp [edgeMask]
  | e :: r => by
    unfold edgeMask
    rw [List.any_cons, ← edgeMask_bit j r]
    split
    · rename_i h
      rw [Nat.testBit_or, Nat.testBit_two_pow, h, Bool.true_and]
      congr 1
    · rename_i h
      simp [h]
theorem land_eq {a L : Nat} : ((a &&& L) == a) = true ↔ ∀ j, a.testBit j = true → L.testBit j = true := by
  rw [beq_iff_eq]
  constructor
  · intro h j hj
    have := congrArg (fun x => x.testBit j) h
    simp only [Nat.testBit_and, hj, Bool.true_and] at this
    exact this
  · intro h
    apply Nat.eq_of_testBit_eq
    intro j
    rw [Nat.testBit_and]
    cases ha : a.testBit j with
    | false => rfl
    | true => rw [h j ha]; rfl
theorem maskNot_bit {p : Nat → Bool} {j : Nat} (hp : p j = false) : ∀ {l : List Nat}, j ∈ l → (maskNot p l).testBit j = true
  | [], h => by cases h
  | k :: r, h => by
    unfold maskNot
    rcases List.mem_cons.1 h with rfl | h1
    · rw [hp]
      simp [Nat.testBit_or, Nat.testBit_two_pow]
    · split
      · exact maskNot_bit hp h1
      · rw [Nat.testBit_or, maskNot_bit hp h1, Bool.or_true]
structure Mk (ops : Array Oper) (listed : Array Bool) (L : Nat) : Prop where
  size : listed.size = ops.size
  bit : ∀ j, j < ops.size → listed.getD j false = L.testBit j
theorem Mk.none_ {ops : Array Oper} : Mk ops (Array.replicate ops.size false) 0 := ⟨by simp, fun j hj => by simp [hj]⟩
theorem Mk.set {ops : Array Oper} {listed : Array Bool} {L : Nat} (h : Mk ops listed L) (i : Nat) : Mk ops (listed.setIfInBounds i true) (2 ^ i ||| L) := by
  refine ⟨by simpa using h.size, fun j hj => ?_⟩
  rw [Nat.testBit_or, Nat.testBit_two_pow]
  by_cases hij : i = j
  · subst hij
    have hl : i < listed.size := by rw [h.size]; exact hj
    simp [hl]
  · rw [getD_set_ne false hij, h.bit j hj]
    simp [hij]
theorem Mk.ready {ops : Array Oper} {listed : Array Bool} {L : Nat} (h : Mk ops listed L) (hb : ∀ (i : Nat) (o : Oper) (e : Edge), ops[i]? = some o → e ∈ o.after → Region.binds .any e = true → e.on < ops.size) : Region.ready .any ops listed = (List.range ops.size).filter (readyB ops L) := by
  unfold Region.ready
  refine List.filter_congr fun i hi => ?_
  have hlt := List.mem_range.1 hi
  have ho : ops[i]? = some ops[i] := Array.getElem?_eq_getElem hlt
  have hl : listed.getD i true = L.testBit i := by
    rw [← h.bit i hlt]
    have : i < listed.size := by rw [h.size]; exact hlt
    simp [this]
  unfold readyB amask
  rw [hl, ho]
  simp only [Option.map_some, Option.getD_some]
  congr 1
  rw [Bool.eq_iff_iff, land_eq, Array.all_eq_true_iff_forall_mem]
  constructor
  · intro hall j hj
    rw [edgeMask_bit, List.any_eq_true] at hj
    obtain ⟨e, he, hc⟩ := hj
    simp only [Bool.and_eq_true, beq_iff_eq] at hc
    obtain ⟨hc1, rfl⟩ := hc
    have he' : e ∈ ops[i].after := by simpa using he
    have h1 := hall e he'
    rw [hc1] at h1
    rw [← h.bit e.on (hb i _ e ho he' hc1)]
    simpa using h1
  · intro hall e he
    cases hc : Region.binds .any e with
    | false => rfl
    | true =>
      have h1 := hall e.on (by
        rw [edgeMask_bit, List.any_eq_true]
        exact ⟨e, by simpa using he, by simp [hc]⟩)
      rw [h.bit e.on (hb i _ e ho he hc), h1]
      rfl
theorem Mk.free {ops : Array Oper} {listed : Array Bool} {L : Nat} (h : Mk ops listed L) {i : Nat} {o : Oper} (ho : ops[i]? = some o) (hf : freeB ops L i = true) : Region.free .any ops listed i = true := by
  unfold Region.free
  simp only [ho]
  rw [List.all_eq_true]
  intro j hj
  have hlt := List.mem_range.1 hj
  have hoj : ops[j]? = some ops[j] := Array.getElem?_eq_getElem hlt
  by_cases hji : j = i
  · simp [hji]
  · cases hL : L.testBit j with
    | true =>
      have : listed.getD j true = true := by
        have h1 := h.bit j hlt
        rw [hL] at h1
        have h2 : j < listed.size := by rw [h.size]; exact hlt
        simpa [h2] using h1
      simp [this]
    | false =>
      cases hg : goesBy ops i j with
      | false =>
        have h1 := maskNot_bit hg hj
        have h2 := (land_eq.1 hf) j h1
        rw [hL] at h2
        cases h2
      | true =>
        unfold goesBy at hg
        rw [ho, hoj] at hg
        simp only [Bool.or_eq_true, beq_iff_eq, hji, false_or] at hg
        simp only [hoj]
        rcases hg with hg | hg
        · unfold amask at hg
          rw [hoj] at hg
          simp only at hg
          rw [edgeMask_bit] at hg
          have : (ops[j].after.any fun e => Region.binds .any e && e.on == i) = true := by
            rw [← Array.any_toList]
            exact hg
          simp [this]
        · simp [hg]
def edgesIn (ops : Array Oper) : Bool := ops.all fun o => o.after.all fun e => decide (e.on < ops.size)
theorem edgesIn_ok {ops : Array Oper} (h : edgesIn ops = true) : ∀ (i : Nat) (o : Oper) (e : Edge), ops[i]? = some o → e ∈ o.after → Region.binds .any e = true → e.on < ops.size := by
  intro i o e ho he _
  unfold edgesIn at h
  have h1 := Array.all_eq_true_iff_forall_mem.1 h o (Array.mem_of_getElem? ho)
  simpa using Array.all_eq_true_iff_forall_mem.1 h1 e he
/-- An operation that may come first. -/
def findFree (Γ : Kit) (ops : Array Oper) (L : Nat) (S : St) : List Nat → Option (Nat × St)
  | [] => none
  | i :: r => if freeB ops L i then (match ops[i]? with
    | none => findFree Γ ops L S r
    | some o => match o.guard with
      | some _ => findFree Γ ops L S r
      | none => match freeAV Γ S o.op with
        | some av => some (i, S.putR o av)
        | none => findFree Γ ops L S r) else findFree Γ ops L S r
def anyAll (f : Nat → Option (List St)) : List Nat → Option (List St)
  | [] => some []
  | i :: r => match f i, anyAll f r with
    | some L, some M => some (L ++ M)
    | _, _ => none
theorem anyAll_mem {f : Nat → Option (List St)} : ∀ {is : List Nat} {M : List St}, anyAll f is = some M → ∀ i ∈ is, ∃ N, f i = some N ∧ ∀ T ∈ N, T ∈ M
  | [], M, _, i, hi => by simp at hi
  | i0 :: r, M, h, i, hi => by
    unfold anyAll at h
    cases h1 : f i0 with
    | none => rw [h1] at h; cases h
    | some L1 => cases h2 : anyAll f r with
      | none => rw [h1, h2] at h; cases h
      | some M1 =>
        rw [h1, h2] at h
        cases h
        rcases List.mem_cons.1 hi with rfl | hi
        · exact ⟨L1, h1, fun T hT => List.mem_append_left _ hT⟩
        · obtain ⟨N, h3, h4⟩ := anyAll_mem h2 i hi
          exact ⟨N, h3, fun T hT => List.mem_append_right _ (h4 T hT)⟩
/-- The next operation in the text's order, if it may come first. -/
def nextFree (Γ : Kit) (ops : Array Oper) (L : Nat) (S : St) (i : Nat) : Option St :=
  if readyB ops L i && freeB ops L i then (match ops[i]? with
    | none => none
    | some o => match o.guard with
      | some _ => none
      | none => match freeAV Γ S o.op with
        | some av => some (S.putR o av)
        | none => none) else none
theorem nextFree_ok {Γ : Kit} {ops : Array Oper} {L : Nat} {S S' : St} {i : Nat} (h : nextFree Γ ops L S i = some S') : readyB ops L i = true ∧ freeB ops L i = true ∧ ∃ o av, ops[i]? = some o ∧ o.guard = none ∧ freeAV Γ S o.op = some av ∧ S' = S.putR o av := by
  unfold nextFree at h
  split at h
  · rename_i hrf
    simp only [Bool.and_eq_true] at hrf
    split at h
    · cases h
    · rename_i o ho
      split at h
      · cases h
      · rename_i hg
        split at h
        · rename_i av hav
          cases h
          exact ⟨hrf.1, hrf.2, o, av, ho, hg, hav, rfl⟩
        · cases h
  · cases h
def anyOps (Γ : Kit) (ops : Array Oper) : Nat → Nat → St → Option (List St)
  | 0, L, S => match (List.range ops.size).filter (readyB ops L) with
    | [] => some [S]
    | _ => none
  | n + 1, L, S => match nextFree Γ ops L S (ops.size - (n + 1)) with
   | some S' => anyOps Γ ops n (2 ^ (ops.size - (n + 1)) ||| L) S'
   | none => match (List.range ops.size).filter (readyB ops L) with
    | [] => some [S]
    | i0 :: rs => match findFree Γ ops L S (i0 :: rs) with
      | some (i, S') => anyOps Γ ops n (2 ^ i ||| L) S'
      | none => anyAll (fun i => match ops[i]? with
        | none => none
        | some o => match stepOp Γ ops o S with
          | none => none
          | some M => bindSt (anyOps Γ ops n (2 ^ i ||| L)) M) (i0 :: rs)
theorem findFree_ok {Γ : Kit} {ops : Array Oper} {L : Nat} {S : St} : ∀ {is : List Nat} {i : Nat} {S' : St}, findFree Γ ops L S is = some (i, S') → i ∈ is ∧ ∃ o av, ops[i]? = some o ∧ o.guard = none ∧ freeAV Γ S o.op = some av ∧ freeB ops L i = true ∧ S' = S.putR o av
  | [], i, S', h => by cases h
  | j :: r, i, S', h => by
    have tl : findFree Γ ops L S r = some (i, S') → i ∈ j :: r ∧ ∃ o av, ops[i]? = some o ∧ o.guard = none ∧ freeAV Γ S o.op = some av ∧ freeB ops L i = true ∧ S' = S.putR o av := fun h2 => by
      obtain ⟨h3, h4⟩ := findFree_ok h2
      exact ⟨List.mem_cons_of_mem _ h3, h4⟩
    unfold findFree at h
    split at h
    · rename_i hf
      split at h
      · exact tl h
      · rename_i o ho
        split at h
        · exact tl h
        · rename_i hg
          split at h
          · rename_i av hav
            cases h
            exact ⟨List.mem_cons_self, o, av, ho, hg, hav, hf, rfl⟩
          · exact tl h
    · exact tl h
theorem anyOps_ok {X : Ctx} {Γ : Kit} (hE : Env2 X Γ) {ops : Array Oper} (hsel : Region.noSelect ops = true) (hb : edgesIn ops = true) {Q : Exit → Act → World → Prop} (hP : ∀ c a w, ¬ Q (.panic c) a w) :
    ∀ {n L : Nat} {listed : Array Bool} {S : St} {E : Env} {M : List St}, Mk ops listed L → anyOps Γ ops n L S = some M → (∀ a' w', GoodL X E M a' w' → Q .normal a' w') → ∀ {a : Act} {w : World}, Good X E S a w → wpAnyH X.P .any ops Q (HeldW X) n listed a w
  | 0, L, listed, S, E, M, hm, h, hQ, a, w, hg => by
    have hr := hm.ready (edgesIn_ok hb)
    unfold anyOps at h
    split at h
    · rename_i he
      cases h
      exact ⟨hr.trans he, hQ a w (GoodL.one (Rel.refl E) hg)⟩
    · cases h
  | n + 1, L, listed, S, E, M, hm, h, hQ, a, w, hg => by
    have hr := hm.ready (edgesIn_ok hb)
    unfold anyOps at h
    split at h
    · rename_i S' hf
      obtain ⟨hrd, hfr, o, av, ho, hgd, hav, rfl⟩ := nextFree_ok hf
      obtain ⟨v, h1, h2⟩ := freeAV_ok hE hg hav
      obtain ⟨E', r, h3⟩ := hg.putR (h1 w hg.heldW) h2
      have hlt : ops.size - (n + 1) < ops.size := (Array.getElem?_eq_some_iff.1 ho).1
      refine wpAnyH_take ho hsel (hm.free ho hfr) (by rw [hr]; simpa using List.mem_filter.2 ⟨List.mem_range.2 hlt, hrd⟩) (fun c a w hq => absurd hq (hP c _ w)) (.inl ⟨by simp [Region.wanted, hgd], h1⟩) hg.heldW ?_
      exact anyOps_ok hE hsel hb hP (hm.set _) h (fun a' w' hh => hQ a' w' (hh.rel r.ext.rel)) h3
    split at h
    · rename_i he
      cases h
      exact wpAnyH_done (hr.trans he) (hQ a w (GoodL.one (Rel.refl E) hg)) (n + 1)
    · rename_i i0 rs hrs
      rw [hrs] at hr
      split at h
      · rename_i i S' hf
        obtain ⟨hi, o, av, ho, hgd, hav, hfr, rfl⟩ := findFree_ok hf
        obtain ⟨v, h1, h2⟩ := freeAV_ok hE hg hav
        obtain ⟨E', r, h3⟩ := hg.putR (h1 w hg.heldW) h2
        refine wpAnyH_take ho hsel (hm.free ho hfr) (by rw [hr]; simpa using hi) (fun c a w hq => absurd hq (hP c _ w)) (.inl ⟨by simp [Region.wanted, hgd], h1⟩) hg.heldW ?_
        exact anyOps_ok hE hsel hb hP (hm.set i) h (fun a' w' hh => hQ a' w' (hh.rel r.ext.rel)) h3
      · refine wpAnyH_all hr (by simp) fun i hi => ?_
        obtain ⟨N, h1, h2⟩ := anyAll_mem h i hi
        split at h1
        · cases h1
        · rename_i o ho
          split at h1
          · cases h1
          · rename_i L1 hL
            refine stepOp_ok hE hg ho hL fun a' w' hh => ?_
            obtain ⟨T, hT, E', r, hg'⟩ := hh
            obtain ⟨N', h3, h4⟩ := bindSt_mem h1 T hT
            exact ⟨hg'.heldW, anyOps_ok hE hsel hb hP (hm.set i) h3 (fun a'' w'' hh => hQ a'' w'' ((hh.mono fun U hU => h2 U (h4 U hU)).rel r)) hg'⟩
/-- Where a place comes from, within the region. -/
def rootOf (ops : List Oper) : Nat → Operand → Operand
  | 0, x => x
  | n + 1, .tmp t => match ops.find? (fun o => match o.dst with | some d => Nat.beq d t | none => false) with
    | some o => match o.op with
      | .move x => rootOf ops n x
      | .nilCheck x => rootOf ops n x
      | .fieldAddr _ x _ => rootOf ops n x
      | _ => .tmp t
    | none => .tmp t
  | _, x => x
def rootsOf (ops : List Oper) : List Oper → List Operand
  | [] => []
  | o :: r => match o.op with
    | .store _ x _ => rootOf ops ops.length x :: rootsOf ops r
    | .call c => c.args.toList.map (rootOf ops ops.length) ++ rootsOf ops r
    | _ => rootsOf ops r
def hitPtr (S : St) (b : Nat) : List Operand → Bool
  | [] => false
  | x :: r => (match S.eval x with | .one (.cell (.ptr c _)) => Nat.beq b c | _ => false) || hitPtr S b r
/-- The variables that a region does not write or hand on (looked at again by memOp). -/
def heldSet (Γ : Kit) (ops : Array Oper) (S : St) : List Nat := (List.range S.bl.length).filter fun b => !hitPtr S b (rootsOf ops.toList ops.toList)
def drawOps (Γ : Kit) (ops : Array Oper) (S : St) : Option (List St) := if edgesIn ops then anyOps { Γ with hd := heldSet Γ ops S } ops ops.size 0 S else none
theorem drawOps_ok {X : Ctx} {Γ : Kit} (hE : Env2 X Γ) (hX : X.hd = []) {ops : Array Oper} (hsel : Region.noSelect ops = true) {Q : Exit → Act → World → Prop} (hP : ∀ c a w, ¬ Q (.panic c) a w) {S : St} {E : Env} {M : List St} (h : drawOps Γ ops S = some M)
    (hQ : ∀ a' w', GoodL X E M a' w' → Q .normal a' w') {a : Act} {w : World} (hg : Good X E S a w) : wpAny X.P .any ops Q ops.size (Array.replicate ops.size false) a w := by
  unfold drawOps at h
  split at h
  rotate_left
  · cases h
  rename_i hb0
  let X' : Ctx := { X with hd := heldSet Γ ops S, hβ := E.β, hw := w }
  have hE' : Env2 X' { Γ with hd := heldSet Γ ops S } := ⟨hE.tab, hE.calls, rfl⟩
  have hg' : Good X' E S a w := ⟨hg.defers, hg.len, hg.nx, hg.tmps, hg.kinv, hg.fr, hg.blks, hg.lts, fun b hb => by
    have hb' : b ∈ heldSet Γ ops S := hb
    unfold heldSet at hb'
    exact ⟨List.mem_range.1 (List.mem_filter.1 hb').1, rfl, rfl⟩⟩
  refine wpAny_of_held _ _ _ _ (anyOps_ok (X := X') hE' hsel hb0 hP Mk.none_ h (fun a' w' hh => hQ a' w' ?_) hg')
  obtain ⟨T, hT, E2, r, h2⟩ := hh
  exact ⟨T, hT, E2, r, h2.defers, h2.len, h2.nx, h2.tmps, h2.kinv, h2.fr, h2.blks, h2.lts, fun b hb => by rw [hX] at hb; cases hb⟩
end Go.Proofs.Ytnoelppkcbelcaa.Ty
