/-
The interpreter, TyQ.
-/
import Derived.Test.YtnoelppkcbelcaaTyP
import Derived.Orders
import Derived.OrdersHeld
/-
Regions: in their order, and where the order is drawn.
-/
set_option linter.unusedVariables false
set_option linter.unusedSimpArgs false
namespace Go.Proofs.Ytnoelppkcbelcaa.Ty
open Go Go.RowKit

/-- The name of what was put into a slot. -/
def nameT (S : St) (dst : Option Nat) : Option Nat := match dst with
  | some d => match getT S.tmps d with
    | .one (.cell (.int _ _ _ (some (s, c)))) => if d < S.nt ∧ c = 0 then some s else none
    | _ => none
  | none => none
def shl (s u : Nat) : List (Nat × Nat) → List (Nat × Nat)
  | [] => []
  | (a, b) :: r => if a = s then (u, b) :: shl s u r else shl s u r
theorem shl_mem {s u : Nat} : ∀ {l : List (Nat × Nat)} {x y : Nat}, (x, y) ∈ shl s u l → x = u ∧ (s, y) ∈ l
  | [], _, _, h => by cases h
  | (a, b) :: r, x, y, h => by
    unfold shl at h
    split at h
    · rename_i ha
      subst ha
      rcases List.mem_cons.1 h with h1 | h1
      · cases h1; exact ⟨rfl, List.mem_cons_self⟩
      · obtain ⟨h2, h3⟩ := shl_mem h1
        exact ⟨h2, List.mem_cons_of_mem _ h3⟩
    · obtain ⟨h2, h3⟩ := shl_mem h
      exact ⟨h2, List.mem_cons_of_mem _ h3⟩
def sml (p u r : Nat) (lt : List (Nat × Nat)) : List (Nat × Nat × Nat) → List (Nat × Nat)
  | [] => []
  | (a, b, c) :: t => if b = p ∧ memP u a lt = true then (r, c) :: sml p u r lt t else sml p u r lt t
theorem sml_mem {p u r : Nat} {lt : List (Nat × Nat)} : ∀ {l : List (Nat × Nat × Nat)} {x y : Nat}, (x, y) ∈ sml p u r lt l → x = r ∧ ∃ a, (a, p, y) ∈ l ∧ (u, a) ∈ lt
  | [], _, _, h => by cases h
  | (a, b, c) :: t, x, y, h => by
    unfold sml at h
    split at h
    · rename_i hc
      obtain ⟨rfl, hm⟩ := hc
      rcases List.mem_cons.1 h with h1 | h1
      · cases h1; exact ⟨rfl, a, List.mem_cons_self, memP_mem hm⟩
      · obtain ⟨h2, z, h3, h4⟩ := sml_mem h1
        exact ⟨h2, z, List.mem_cons_of_mem _ h3, h4⟩
    · obtain ⟨h2, z, h3, h4⟩ := sml_mem h
      exact ⟨h2, z, List.mem_cons_of_mem _ h3, h4⟩
def putRem (S : St) (dst : Option Nat) (av : AV) : AV → AV → St
  | .one (.cell (.int k lx _ _)), .one (.cell (.int k' ly hy sy)) => if k = k' ∧ 0 ≤ lx ∧ 0 < ly then addLt (S.putF dst av) dst (.one (.cell (.int k' ly hy sy))) else S.putF dst av
  | _, _ => S.putF dst av
def subSm (S : St) (dst : Option Nat) (p q : Nat) : St := match nameT S dst with
  | some s => { S with sm := (s, p, q) :: S.sm }
  | none => S
def quoLt (S : St) (dst : Option Nat) (s : Nat) : St := match nameT S dst with
  | some u => { S with lt := shl s u S.lt ++ S.lt }
  | none => S
def addSu (S : St) (dst : Option Nat) (p u : Nat) : St := match nameT S dst with
  | some r => { S with lt := sml p u r S.lt S.sm ++ S.lt }
  | none => S
def putSub (S : St) (dst : Option Nat) (av : AV) : AV → AV → St
  | .one (.cell (.int k lx hx (some (q, c)))), .one (.cell (.int k' ly hy (some (p, d)))) => if (k = k' ∧ c = 0 ∧ d = 0) ∧ memP p q S.lt = true ∧ k.min ≤ lx - hy ∧ hx - ly ≤ k.max then subSm (S.putF dst (.one (.cell (.int k 1 (hx - ly) none)))) dst p q else S.putF dst av
  | _, _ => S.putF dst av
def putQuo (S : St) (dst : Option Nat) (av : AV) : AV → AV → St
  | .one (.cell (.int k lx hx (some (q, c)))), .one (.cell (.int k' ly _ _)) => if (k = k' ∧ c = 0) ∧ 0 ≤ lx ∧ 0 < ly ∧ hx ≤ k.max then quoLt (S.putF dst av) dst q else S.putF dst av
  | _, _ => S.putF dst av
def putAdd (S : St) (dst : Option Nat) (av : AV) : AV → AV → St
  | .one (.cell (.int k lx hx (some (p, c)))), .one (.cell (.int k' ly hy (some (u, d)))) => if (k = k' ∧ c = 0 ∧ d = 0) ∧ k.min ≤ lx + ly ∧ hx + hy ≤ k.max then addSu (S.putF dst av) dst p u else S.putF dst av
  | _, _ => S.putF dst av
/-- A rest lies below what was divided by; a difference, a part of one and a sum with such a part keep below what they are of. -/
def St.putR (S : St) (o : Oper) (av : AV) : St := match o.op with
  | .binOp .rem _ x y _ => putRem S o.dst av (S.eval x) (S.eval y)
  | .binOp .sub _ x y _ => putSub S o.dst av (S.eval x) (S.eval y)
  | .binOp .quo _ x y _ => putQuo S o.dst av (S.eval x) (S.eval y)
  | .binOp .add _ x y _ => putAdd S o.dst av (S.eval x) (S.eval y)
  | _ => S.putF o.dst av
section
variable {X : Ctx} {E : Env} {S : St} {a : Act} {w : World}
theorem slot_put (a : Act) (dst : Option Nat) (v : Value) : ∀ d, dst = some d → d < (a.put dst v).tmps.size → (a.put dst v).tmps.getD d undef = v := by
  intro d hd hdl
  rw [hd] at hdl ⊢
  have hdl2 : d < a.tmps.size := by simpa [Act.put] using hdl
  simp [Act.put, Array.getD_eq_getD_getElem?, Array.getElem?_setIfInBounds_self_of_lt hdl2]
theorem Good.nameT {dst : Option Nat} {v : Value} (h : Good X E S (a.put dst v) w) {s : Nat} (hn : nameT S dst = some s) {k : IntKind} {n : Int} (hv : v = .int k n) : s < E.nx ∧ E.σ s = n := by
  unfold Ty.nameT at hn
  split at hn
  · rename_i d
    split at hn
    · rename_i k' lo hi s' c heq
      split at hn
      · rename_i hc
        cases hn
        obtain ⟨h1, rfl⟩ := hc
        have h2 := h.tmps d
        rw [heq, slot_put a (some d) v d rfl (by rw [h.len]; exact h1), hv] at h2
        obtain ⟨n', e1, _, _, h3⟩ := h2
        cases e1
        obtain ⟨h4, h5⟩ := h3 s 0 rfl
        exact ⟨h4, by omega⟩
      · cases hn
    · cases hn
  · cases hn
theorem Good.addLts (h : Good X E S a w) {l : List (Nat × Nat)} (hl : ∀ x y, (x, y) ∈ l → x < E.nx ∧ y < E.nx ∧ E.σ x < E.σ y) : Good X E { S with lt := l ++ S.lt } a w :=
  ⟨h.defers, h.len, h.nx, h.tmps, h.kinv, h.fr, h.blks, ⟨fun x y hxy => (List.mem_append.1 hxy).elim (hl x y) (h.lts.1 x y), h.lts.2⟩, h.held⟩
theorem Good.subSm {dst : Option Nat} {v : Value} (h : Good X E S (a.put dst v) w) {k : IntKind} {n : Int} (hv : v = .int k n) {p q : Nat} (hp : p < E.nx) (hq : q < E.nx) (hn : n + E.σ p ≤ E.σ q) : Good X E (subSm S dst p q) (a.put dst v) w := by
  unfold Ty.subSm
  split
  · rename_i s hs
    obtain ⟨h1, h2⟩ := h.nameT hs hv
    refine ⟨h.defers, h.len, h.nx, h.tmps, h.kinv, h.fr, h.blks, ⟨h.lts.1, fun x y z hxy => ?_⟩, h.held⟩
    rcases List.mem_cons.1 hxy with h3 | h3
    · cases h3
      exact ⟨h1, hp, hq, by omega⟩
    · exact h.lts.2 x y z h3
  · exact h
theorem Good.quoLt {dst : Option Nat} {v : Value} (h : Good X E S (a.put dst v) w) {k : IntKind} {n : Int} (hv : v = .int k n) {s : Nat} (hn : n ≤ E.σ s) : Good X E (quoLt S dst s) (a.put dst v) w := by
  unfold Ty.quoLt
  split
  · rename_i u hu
    obtain ⟨h1, h2⟩ := h.nameT hu hv
    refine h.addLts fun x y hxy => ?_
    obtain ⟨rfl, h3⟩ := shl_mem hxy
    obtain ⟨h4, h5, h6⟩ := h.lts.1 s y h3
    exact ⟨h1, h5, by omega⟩
  · exact h
theorem Good.addSu {dst : Option Nat} {v : Value} (h : Good X E S (a.put dst v) w) {k : IntKind} {n : Int} (hv : v = .int k n) {p u : Nat} (hn : n ≤ E.σ p + E.σ u) : Good X E (addSu S dst p u) (a.put dst v) w := by
  unfold Ty.addSu
  split
  · rename_i r hr
    obtain ⟨h1, h2⟩ := h.nameT hr hv
    refine h.addLts fun x y hxy => ?_
    obtain ⟨rfl, z, h3, h4⟩ := sml_mem hxy
    obtain ⟨h5, h6, h7, h8⟩ := h.lts.2 z p y h3
    obtain ⟨_, _, h9⟩ := h.lts.1 u z h4
    exact ⟨h1, h7, by omega⟩
  · exact h
end
theorem kmin_le (k : IntKind) : k.min ≤ 0 := by cases k <;> decide
theorem Good.putR {X : Ctx} {E : Env} {S : St} {a : Act} {w : World} (h : Good X E S a w) {o : Oper} {av : AV} {v : Value} (h1 : (execOp a.eval o).run X.P w = .ok (.value v) w) (hv : hasAV E av v) :
    ∃ E', Ren E E' ∧ Good X E' (S.putR o av) (a.put o.dst v) w := by
  have dflt := h.putF o.dst hv
  unfold St.putR
  split
  · rename_i t x y t2 hop
    unfold putRem
    split
    · rename_i k lx hx sx k' ly hy sy ex ey
      split
      · rename_i hc
        obtain ⟨E', r, h3⟩ := dflt
        refine ⟨E', r, ?_⟩
        obtain ⟨rfl, hc1, hc2⟩ := hc
        have hx1 := h.eval x
        have hy1 := h.eval y
        rw [ex] at hx1
        rw [ey] at hy1
        have hy2 := hy1.ext r.ext
        obtain ⟨n, en, hn, _⟩ := hx1
        obtain ⟨m, em, hm, _⟩ := hy1
        have e5 : v = .int k (n.tmod m) := by
          simpa [execOp, hop, en, em, eqGuard, binOp, Op.intDiv, show m ≠ 0 by omega, eq_comm] using h1
        exact h3.addLt (v := v) (u := a.eval y) (slot_put a o.dst v) hy2 ⟨k, n.tmod m, k, m, e5, em, Int.tmod_lt_of_pos n (by omega)⟩
      · exact dflt
    · exact dflt
  · rename_i t x y t2 hop
    unfold putSub
    split
    · rename_i k lx hx q c k' ly hy p d ex ey
      split
      · rename_i hc
        obtain ⟨⟨rfl, rfl, rfl⟩, hm0, hc1, hc2⟩ := hc
        have hx1 := h.eval x
        have hy1 := h.eval y
        rw [ex] at hx1
        rw [ey] at hy1
        obtain ⟨n, en, n0, n1, n2⟩ := hx1
        obtain ⟨m, em, m0, m1, m2⟩ := hy1
        have e1 := (n2 q 0 rfl).2
        have e2 := (m2 p 0 rfl).2
        obtain ⟨b1, b2, b3⟩ := h.lts.1 p q (memP_mem hm0)
        have e5 : v = .int k (k.wrap (n - m)) := by
          simpa [execOp, hop, en, em, eqGuard, binOp, Op.intArith, eq_comm] using h1
        rw [wrap_same k (by omega) (by omega)] at e5
        obtain ⟨E', r, h3⟩ := h.putF o.dst (av := .one (.cell (.int k 1 (hx - ly) none))) (v := v) ⟨n - m, e5, by omega, by omega, fun s d hs => (by cases hs)⟩
        exact ⟨E', r, h3.subSm e5 (Nat.lt_of_lt_of_le b1 r.ext.nx) (Nat.lt_of_lt_of_le b2 r.ext.nx) (by rw [r.ext.σ p b1, r.ext.σ q b2]; omega)⟩
      · exact dflt
    · exact dflt
  · rename_i t x y t2 hop
    unfold putQuo
    split
    · rename_i k lx hx q c k' ly hy sy ex ey
      split
      · rename_i hc
        obtain ⟨⟨rfl, rfl⟩, hc1, hc2, hc3⟩ := hc
        have hx1 := h.eval x
        have hy1 := h.eval y
        rw [ex] at hx1
        rw [ey] at hy1
        obtain ⟨n, en, n0, n1, n2⟩ := hx1
        obtain ⟨m, em, m0, m1, m2⟩ := hy1
        obtain ⟨b1, e1⟩ := n2 q 0 rfl
        have e5 : v = .int k (k.wrap (n.tdiv m)) := by
          simpa [execOp, hop, en, em, eqGuard, binOp, Op.intDiv, show m ≠ 0 by omega, eq_comm] using h1
        have e6 : n.tdiv m ≤ n := by
          rw [Int.tdiv_eq_ediv_of_nonneg (by omega)]
          exact Int.ediv_le_self m (by omega)
        have e7 : 0 ≤ n.tdiv m := by
          rw [Int.tdiv_eq_ediv_of_nonneg (by omega)]
          exact Int.ediv_nonneg (by omega) (by omega)
        have e8 := kmin_le k
        rw [wrap_same k (by omega) (by omega)] at e5
        obtain ⟨E', r, h3⟩ := dflt
        exact ⟨E', r, h3.quoLt e5 (by rw [r.ext.σ q b1]; omega)⟩
      · exact dflt
    · exact dflt
  · rename_i t x y t2 hop
    unfold putAdd
    split
    · rename_i k lx hx p c k' ly hy u d ex ey
      split
      · rename_i hc
        obtain ⟨⟨rfl, rfl, rfl⟩, hc1, hc2⟩ := hc
        have hx1 := h.eval x
        have hy1 := h.eval y
        rw [ex] at hx1
        rw [ey] at hy1
        obtain ⟨n, en, n0, n1, n2⟩ := hx1
        obtain ⟨m, em, m0, m1, m2⟩ := hy1
        obtain ⟨b1, e1⟩ := n2 p 0 rfl
        obtain ⟨b2, e2⟩ := m2 u 0 rfl
        have e5 : v = .int k (k.wrap (n + m)) := by
          simpa [execOp, hop, en, em, eqGuard, binOp, Op.intArith, eq_comm] using h1
        rw [wrap_same k (by omega) (by omega)] at e5
        obtain ⟨E', r, h3⟩ := dflt
        exact ⟨E', r, h3.addSu e5 (by rw [r.ext.σ p b1, r.ext.σ u b2]; omega)⟩
      · exact dflt
    · exact dflt
  · exact dflt
def opx (Γ : Kit) (o : Oper) (S : St) : Option (List St) := match pureOp Γ.tab S.lt S.eval o.op with
  | some av => some [S.putR o av]
  | none => memOp Γ o S
structure Env2 (X : Ctx) (Γ : Kit) : Prop where
  tab : TabOK X.P Γ.tab
  calls : SoundT X.P X.CP Γ.T
  hd : X.hd = Γ.hd
theorem opx_ok {X : Ctx} {Γ : Kit} (hE : Env2 X Γ) {E : Env} {S : St} {a : Act} {w : World} (h : Good X E S a w) {o : Oper} {L : List St} (hx : opx Γ o S = some L) {Kn : Act → World → Prop} {Q : Exit → Act → World → Prop}
    (hk : ∀ a' w', GoodL X E L a' w' → Kn a' w') : o.wp X.P a w Kn Q := by
  unfold opx at hx
  split at hx
  · rename_i av hav
    cases hx
    obtain ⟨v, h1, h2⟩ := pureOp_ok hE.tab h.lts.1 (fun x => h.eval x) o hav
    obtain ⟨E', r, h3⟩ := h.putR (h1 w) h2
    unfold Oper.wp
    rw [h1 w, Oper.upon_value]
    exact hk _ _ (GoodL.one r.ext.rel h3)
  · cases hop : o.op with
    | alloc t => exact wp_alloc hE.tab h hop hx hk
    | box t x => exact wp_box h hop hx hk
    | buildSlice t n ps => exact wp_buildSlice hE.tab h hop hx hk
    | makeSlice t l c => exact wp_makeSlice hE.tab h hop hx hk
    | load t x => exact wp_load hE.tab h hop hx hk
    | store t x v => exact wp_store hE.tab h hE.hd hop hx hk
    | call c =>
      cases hc : c.callee with
      | value f => cases f with
        | func f => exact wp_callF h hE.hd hE.calls hop hc hx hk
        | _ => unfold memOp at hx; simp only [hop, callM, hc] at hx; cases hx
      | invoke r m => unfold memOp at hx; simp only [hop, callM, hc] at hx; cases hx
      | builtin b => cases b <;> first | exact wp_append hE.tab h hop hc hx hk | (unfold memOp at hx; simp only [hop, callM, hc] at hx; cases hx)
    | _ => unfold memOp at hx; simp only [hop] at hx; cases hx
/-- What is known better of a slot. -/
theorem Good.sharpen {X : Ctx} {E : Env} {S : St} {a : Act} {w : World} (h : Good X E S a w) {t : Nat} {av : AV} (hv : hasAV E av (a.tmps.getD t undef)) : Good X E (S.setT t av) a w := by
  refine ⟨h.defers, h.len, h.nx, fun i => ?_, h.kinv, h.fr, h.blks, h.lts, h.held⟩
  simp only [St.setT]
  by_cases ht : t = i
  · subst ht
    by_cases hl : t < S.nt
    · rw [getT_self hl]; exact hv
    · unfold putT
      rw [if_neg hl]
      exact h.tmps t
  · rw [getT_put ht]
    exact h.tmps i
/-- All that is not needed later is forgotten. -/
def keepT : List Nat → List (Nat × AV) → List (Nat × AV)
  | [], _ => []
  | k :: r, l => match getT l k with
    | .any => keepT r l
    | v => (k, v) :: keepT r l
theorem keepT_get : ∀ (keep : List Nat) (l : List (Nat × AV)) (j : Nat), getT (keepT keep l) j = getT l j ∨ getT (keepT keep l) j = .any
  | [], l, j => .inr rfl
  | k :: r, l, j => by
    unfold keepT
    split
    · exact keepT_get r l j
    · rw [getT]
      split
      · rename_i hk
        subst hk
        exact .inl rfl
      · exact keepT_get r l j
def St.only (keep : List Nat) (S : St) : St := { S with tmps := keepT keep S.tmps }
theorem Good.only {X : Ctx} {E : Env} {S : St} {a : Act} {w : World} (h : Good X E S a w) (keep : List Nat) : Good X E (S.only keep) a w := by
  refine ⟨h.defers, h.len, h.nx, fun i => ?_, h.kinv, h.fr, h.blks, h.lts, h.held⟩
  rcases keepT_get keep S.tmps i with h1 | h1
  · show hasAV E (getT (keepT keep S.tmps) i) _
    rw [h1]
    exact h.tmps i
  · show hasAV E (getT (keepT keep S.tmps) i) _
    rw [h1]
    trivial
/-- The two ways of a test. -/
def St.way (S : St) (t : Nat) (b : Bool) (fs : List Fact) : St := (S.setT t (.one (.cell (.bool (some b) [] [])))).assume fs
theorem Good.way {X : Ctx} {E : Env} {S : St} {a : Act} {w : World} (h : Good X E S a w) {t : Nat} {b : Bool} {fs : List Fact} (hb : a.tmps.getD t undef = .bool b) (hf : ∀ f ∈ fs, f.ok E) : Good X E (S.way t b fs) a w :=
  (h.sharpen (by rw [hb]; exact bool_sure)).assume hf
def sel (b : Bool) (x y : List Fact) : List Fact := match b with
  | true => x
  | false => y
def keepSt (S : St) (L : List St) : List St := if S.bad then [] else L
def stepOp (Γ : Kit) (ops : Array Oper) (o : Oper) (S : St) : Option (List St) :=
  match o.guard with
  | none => opx Γ o S
  | some (j, want) => match (ops[j]?).bind (·.dst) with
    | none => none
    | some t => match S.eval (.tmp t) with
      | .one (.cell (.bool (some b) _ _)) => if b = want then opx Γ o S else some [S.put o.dst (.tup [])]
      | .one (.cell (.bool none ft ff)) =>
        let S1 := S.way t want (sel want ft ff)
        let S0 := S.way t (!want) (sel want ff ft)
        if S1.bad then some (keepSt S0 [S0.put o.dst (.tup [])])
        else match opx Γ o S1 with
          | some L => some (L ++ keepSt S0 [S0.put o.dst (.tup [])])
          | none => none
      | .tup [] => some [S.put o.dst (.tup [])]
      | _ => none
theorem stepOp_ok {X : Ctx} {Γ : Kit} (hE : Env2 X Γ) {E : Env} {S : St} {a : Act} {w : World} (h : Good X E S a w) {ops : Array Oper} {i : Nat} {o : Oper} (ho : ops[i]? = some o) {L : List St} (hx : stepOp Γ ops o S = some L) {Kn : Act → World → Prop} {Q : Exit → Act → World → Prop}
    (hk : ∀ a' w', GoodL X E L a' w' → Kn a' w') : wpOp X.P ops Q i Kn a w := by
  unfold wpOp
  simp only [ho]
  unfold stepOp at hx
  cases hg : o.guard with
  | none =>
    rw [hg] at hx
    simp only [Region.wanted, hg, if_true]
    exact .inl (opx_ok hE h hx hk)
  | some jw =>
    obtain ⟨j, want⟩ := jw
    rw [hg] at hx
    simp only at hx
    split at hx
    · cases hx
    · rename_i t ht
      have hy : ∀ b, a.tmps.getD t undef = .bool b → yielded ops a.tmps j = some b := fun b hb => by
        unfold yielded
        rw [ht]
        simp only [Option.bind_some]
        have : a.tmps[t]? = some (.bool b) := by
          rw [Array.getD_eq_getD_getElem?] at hb
          cases hq : a.tmps[t]? with
          | none => rw [hq] at hb; simp [undef] at hb
          | some q => rw [hq] at hb; simp at hb; rw [hb]
        rw [this]
      have hv := h.tmps t
      have hwant : ∀ b, a.tmps.getD t undef = .bool b → Region.wanted o (yielded ops a.tmps) = (b == want) := fun b hb => by
        unfold Region.wanted
        rw [hg]
        simp only [hy b hb]
        cases b <;> cases want <;> rfl
      split at hx
      · rename_i b ft ff heq
        have heq' : getT S.tmps t = .one (.cell (.bool (some b) ft ff)) := heq
        rw [heq'] at hv
        obtain ⟨b', hb, h1, _⟩ := hv
        obtain rfl := h1 b rfl
        rw [hwant b' hb]
        split at hx
        · rename_i hbw
          rw [show (b' == want) = true by simpa using hbw]
          simp only [if_true]
          exact .inl (opx_ok hE h hx hk)
        · rename_i hbw
          rw [show (b' == want) = false by simpa using hbw]
          cases hx
          simp only [Bool.false_eq_true, if_false]
          exact hk _ _ (GoodL.one (Rel.refl E) (h.put o.dst (av := .tup []) (v := undef) ⟨#[], rfl, trivial⟩))
      · rename_i ft ff heq
        have heq' : getT S.tmps t = .one (.cell (.bool none ft ff)) := heq
        rw [heq'] at hv
        obtain ⟨b, hb, _, h2, h3⟩ := hv
        rw [hwant b hb]
        have hfacts : ∀ f ∈ (if b = true then ft else ff), f.ok E := by
          cases b
          · exact fun f hf => h3 rfl f hf
          · exact fun f hf => h2 rfl f hf
        have other : ∀ S0 : St, S0 = S.way t (!want) (sel want ff ft) → b = (!want) → GoodL X E (keepSt S0 [S0.put o.dst (.tup [])]) (a.put o.dst undef) w := fun S0 e hbw => by
          have hg0 : Good X E S0 a w := by
            rw [e]
            refine h.way (by rw [hb, hbw]) ?_
            subst hbw
            cases want <;> simpa [sel] using hfacts
          unfold keepSt
          rw [hg0.not_bad]
          exact GoodL.one (Rel.refl E) (hg0.put o.dst (av := .tup []) (v := undef) ⟨#[], rfl, trivial⟩)
        have this1 : b = want → Good X E (S.way t want (sel want ft ff)) a w := fun hbw => by
          refine h.way (by rw [hb, hbw]) ?_
          subst hbw
          cases b <;> simpa [sel] using hfacts
        by_cases hbw : b = want
        · rw [show (b == want) = true by simpa using hbw]
          simp only [if_true]
          have hg1 := this1 hbw
          split at hx
          · rename_i hbad
            rw [hg1.not_bad] at hbad
            cases hbad
          · split at hx
            · rename_i L1 hL1
              cases hx
              exact .inl (opx_ok hE hg1 hL1 fun a' w' hh => hk a' w' (hh.mono fun S hS => List.mem_append_left _ hS))
            · cases hx
        · have hbn : b = (!want) := by cases b <;> cases want <;> simp_all
          rw [show (b == want) = false by simpa using hbw]
          simp only [Bool.false_eq_true, if_false]
          have hoth := other _ rfl hbn
          split at hx
          · cases hx
            exact hk _ _ hoth
          · split at hx
            · cases hx
              exact hk _ _ (hoth.mono fun S hS => List.mem_append_right _ hS)
            · cases hx
      · rename_i heq
        have heq' : getT S.tmps t = .tup [] := heq
        rw [heq'] at hv
        obtain ⟨us, hu, _⟩ := hv
        have hyn : yielded ops a.tmps j = none := by
          unfold yielded
          rw [ht]
          simp only [Option.bind_some]
          rw [Array.getD_eq_getD_getElem?] at hu
          cases hq : a.tmps[t]? with
          | none => rfl
          | some q => rw [hq] at hu; simp at hu; rw [hu]
        have hwn : Region.wanted o (yielded ops a.tmps) = false := by
          unfold Region.wanted
          rw [hg]
          simp only [hyn]
          rfl
        rw [hwn]
        cases hx
        simp only [Bool.false_eq_true, if_false]
        exact hk _ _ (GoodL.one (Rel.refl E) (h.put o.dst (av := .tup []) (v := undef) ⟨#[], rfl, trivial⟩))
      · cases hx
def bindSt (f : St → Option (List St)) : List St → Option (List St)
  | [] => some []
  | S :: r => match f S, bindSt f r with
    | some L, some M => some (L ++ M)
    | _, _ => none
theorem bindSt_mem {f : St → Option (List St)} : ∀ {L M : List St}, bindSt f L = some M → ∀ S ∈ L, ∃ N, f S = some N ∧ ∀ T ∈ N, T ∈ M
  | [], M, _, S, hS => by simp at hS
  | S0 :: r, M, h, S, hS => by
    unfold bindSt at h
    cases h1 : f S0 with
    | none => rw [h1] at h; cases h
    | some L1 => cases h2 : bindSt f r with
      | none => rw [h1, h2] at h; cases h
      | some M1 =>
        rw [h1, h2] at h
        cases h
        rcases List.mem_cons.1 hS with rfl | hS
        · exact ⟨L1, h1, fun T hT => List.mem_append_left _ hT⟩
        · obtain ⟨N, h3, h4⟩ := bindSt_mem h2 S hS
          exact ⟨N, h3, fun T hT => List.mem_append_right _ (h4 T hT)⟩
def seqOps (Γ : Kit) (ops : Array Oper) : List Nat → List St → Option (List St)
  | [], L => some L
  | i :: r, L => match ops[i]? with
    | none => seqOps Γ ops r L
    | some o => match bindSt (stepOp Γ ops o) L with
      | some M => seqOps Γ ops r M
      | none => none
theorem seqOps_ok {X : Ctx} {Γ : Kit} (hE : Env2 X Γ) {E : Env} {ops : Array Oper} {Q : Exit → Act → World → Prop} : ∀ {is : List Nat} {L M : List St}, seqOps Γ ops is L = some M → (∀ a' w', GoodL X E M a' w' → Q .normal a' w') → ∀ {a : Act} {w : World}, GoodL X E L a w → wpOps X.P ops Q is a w
  | [], L, M, h, hQ, a, w, hL => by
    cases h
    exact hQ a w hL
  | i :: r, L, M, h, hQ, a, w, hL => by
    rw [wpOps_cons]
    unfold seqOps at h
    cases ho : ops[i]? with
    | none =>
      rw [ho] at h
      unfold wpOp
      rw [ho]
      exact seqOps_ok hE h hQ hL
    | some o =>
      rw [ho] at h
      simp only at h
      cases hb : bindSt (stepOp Γ ops o) L with
      | none => rw [hb] at h; cases h
      | some M1 =>
        rw [hb] at h
        obtain ⟨S, hS, E', r1, hg⟩ := hL
        obtain ⟨N, h1, h2⟩ := bindSt_mem hb S hS
        exact stepOp_ok hE hg ho h1 fun a' w' hh => seqOps_ok hE h hQ ((hh.mono h2).rel r1)
/-- What a load of a variable that the region leaves alone yields. -/
def heldLoad (Γ : Kit) (S : St) : Op → Option AV
  | .load t x => match Γ.tab t, S.eval x with
    | some d, .one (.cell (.ptr b off)) => if Γ.hd.contains b = true then (match S.bl[b]? with
      | some (_, cs) =>
        if d.agg = true then (if off + d.size ≤ cs.length then some (.one (.agg ((cs.drop off).take d.size))) else none)
        else (cs[off]?).map fun s => .one (.cell s)
      | none => none) else none
    | _, _ => none
  | _ => none
def HeldW (X : Ctx) (w : World) : Prop := ∀ b ∈ X.hd, w.heap[X.hβ b]? = X.hw.heap[X.hβ b]?
theorem Good.heldW {X : Ctx} {E : Env} {S : St} {a : Act} {w : World} (h : Good X E S a w) : HeldW X w := fun b hb => (h.held b hb).2.2
theorem heldLoad_ok {X : Ctx} {Γ : Kit} (hE : Env2 X Γ) {E : Env} {S : St} {a : Act} {w : World} (h : Good X E S a w) {o : Oper} {av : AV} (hl : heldLoad Γ S o.op = some av) :
    ∃ v, (∀ w', HeldW X w' → (execOp a.eval o).run X.P w' = .ok (.value v) w') ∧ hasAV E av v := by
  cases hop : o.op with
  | load t x =>
    rw [hop] at hl
    simp only [heldLoad] at hl
    have hx := h.eval x
    split at hl
    · rename_i d b off hd heq
      rw [heq] at hx
      obtain ⟨hbl, hpv⟩ := hx
      split at hl
      · rename_i hc
        have hbm : b ∈ X.hd := by rw [hE.hd]; simpa using hc
        split at hl
        · rename_i t' cs hb
          obtain ⟨h1, h2, vs, h3, h4⟩ := h.blks.at_ b t' cs hb
          obtain ⟨_, k2, k3⟩ := h.held b hbm
          have hsz : vs.size = cs.length := by rw [h4.length, Array.length_toList]
          have hh : ∀ w', HeldW X w' → w'.heap[E.β b]? = some (.cells vs t' (0, 0)) := fun w' hw' => by
            rw [k2, hw' b hbm, ← k3, ← k2]
            exact h3
          split at hl
          · rename_i hag
            split at hl
            · rename_i hle
              cases hl
              refine ⟨.agg ((vs.toList.drop off).take d.size).toArray, fun w' hw' => ?_, ⟨_, rfl, (h4.drop _).take _⟩⟩
              have hlc := run_loadCells_at (P := X.P) (hh w' hw') (show off + d.size ≤ vs.size by omega)
              simp [execOp, hop, Instr.loadAt, hpv, Instr.sureAddr, loadVar, hE.tab.isAgg hd, hag, hE.tab.size hd, hlc]
            · cases hl
          · rename_i hag
            cases hc2 : cs[off]? with
            | none => rw [hc2] at hl; cases hl
            | some s =>
              rw [hc2] at hl
              cases hl
              obtain ⟨v, hv1, hv2⟩ := h4.get hc2
              refine ⟨v, fun w' hw' => ?_, hv2⟩
              have hl2 := run_load_at (P := X.P) (hh w' hw') (show vs[off]? = some v by simpa using hv1)
              simp only [execOp, hop, Instr.loadAt, hpv, Instr.sureAddr, loadVar, Sem.run_bind, Sem.run_pure, Result.andThen_ok, hE.tab.isAgg hd, hag]
              simp only [Bool.false_eq_true, if_false, Sem.run_bind, hl2, Result.andThen_ok, Sem.run_pure]
        · cases hl
      · cases hl
    · cases hl
  | _ => rw [hop] at hl; cases hl
def freeAV (Γ : Kit) (S : St) (op : Op) : Option AV := match pureOp Γ.tab S.lt S.eval op with
  | some av => some av
  | none => heldLoad Γ S op
theorem freeAV_ok {X : Ctx} {Γ : Kit} (hE : Env2 X Γ) {E : Env} {S : St} {a : Act} {w : World} (h : Good X E S a w) {o : Oper} {av : AV} (hl : freeAV Γ S o.op = some av) :
    ∃ v, (∀ w', HeldW X w' → (execOp a.eval o).run X.P w' = .ok (.value v) w') ∧ hasAV E av v := by
  unfold freeAV at hl
  split at hl
  · rename_i av' hav
    cases hl
    obtain ⟨v, h1, h2⟩ := pureOp_ok hE.tab h.lts.1 (fun x => h.eval x) o hav
    exact ⟨v, fun w' _ => h1 w', h2⟩
  · exact heldLoad_ok hE h hl
/-- The operations ahead of each, as bits. -/
def edgeMask : List Edge → Nat
  | [] => 0
  | e :: r => if Region.binds .any e then 2 ^ e.on ||| edgeMask r else edgeMask r
def amask (ops : Array Oper) (i : Nat) : Nat := match ops[i]? with
  | some o => edgeMask o.after.toList
  | none => 0
def readyB (ops : Array Oper) (L i : Nat) : Bool := !L.testBit i && (amask ops i &&& L) == amask ops i
def goesBy (ops : Array Oper) (i j : Nat) : Bool := j == i || (match ops[i]?, ops[j]? with
  | some oi, some oj => (amask ops j).testBit i || oi.apart ops oj
  | _, _ => false)
def maskNot (p : Nat → Bool) : List Nat → Nat
  | [] => 0
  | j :: r => if p j then maskNot p r else 2 ^ j ||| maskNot p r
def fmask (ops : Array Oper) (i : Nat) : Nat := maskNot (goesBy ops i) (List.range ops.size)
def freeB (ops : Array Oper) (L i : Nat) : Bool := (fmask ops i &&& L) == fmask ops i
theorem edgeMask_bit (j : Nat) : ∀ es : List Edge, (edgeMask es).testBit j = es.any fun e => Region.binds .any e && e.on == j
  | [] => by simp [edgeMask]
  | e :: r => by
    unfold edgeMask
    rw [List.any_cons, ← edgeMask_bit j r]
    split
    · rename_i h
      rw [Nat.testBit_or, Nat.testBit_two_pow, h, Bool.true_and]
      congr 1
    · rename_i h
      simp [h]
theorem land_eq {a L : Nat} : ((a &&& L) == a) = true ↔ ∀ j, a.testBit j = true → L.testBit j = true := by
  rw [beq_iff_eq]
  constructor
  · intro h j hj
    have := congrArg (fun x => x.testBit j) h
    simp only [Nat.testBit_and, hj, Bool.true_and] at this
    exact this
  · intro h
    apply Nat.eq_of_testBit_eq
    intro j
    rw [Nat.testBit_and]
    cases ha : a.testBit j with
    | false => rfl
    | true => rw [h j ha]; rfl
theorem maskNot_bit {p : Nat → Bool} {j : Nat} (hp : p j = false) : ∀ {l : List Nat}, j ∈ l → (maskNot p l).testBit j = true
  | [], h => by cases h
  | k :: r, h => by
    unfold maskNot
    rcases List.mem_cons.1 h with rfl | h1
    · rw [hp]
      simp [Nat.testBit_or, Nat.testBit_two_pow]
    · split
      · exact maskNot_bit hp h1
      · rw [Nat.testBit_or, maskNot_bit hp h1, Bool.or_true]
structure Mk (ops : Array Oper) (listed : Array Bool) (L : Nat) : Prop where
  size : listed.size = ops.size
  bit : ∀ j, j < ops.size → listed.getD j false = L.testBit j
theorem Mk.none_ {ops : Array Oper} : Mk ops (Array.replicate ops.size false) 0 := ⟨by simp, fun j hj => by simp [hj]⟩
theorem Mk.set {ops : Array Oper} {listed : Array Bool} {L : Nat} (h : Mk ops listed L) (i : Nat) : Mk ops (listed.setIfInBounds i true) (2 ^ i ||| L) := by
  refine ⟨by simpa using h.size, fun j hj => ?_⟩
  rw [Nat.testBit_or, Nat.testBit_two_pow]
  by_cases hij : i = j
  · subst hij
    have hl : i < listed.size := by rw [h.size]; exact hj
    simp [hl]
  · rw [getD_set_ne false hij, h.bit j hj]
    simp [hij]
theorem Mk.ready {ops : Array Oper} {listed : Array Bool} {L : Nat} (h : Mk ops listed L) (hb : ∀ (i : Nat) (o : Oper) (e : Edge), ops[i]? = some o → e ∈ o.after → Region.binds .any e = true → e.on < ops.size) : Region.ready .any ops listed = (List.range ops.size).filter (readyB ops L) := by
  unfold Region.ready
  refine List.filter_congr fun i hi => ?_
  have hlt := List.mem_range.1 hi
  have ho : ops[i]? = some ops[i] := Array.getElem?_eq_getElem hlt
  have hl : listed.getD i true = L.testBit i := by
    rw [← h.bit i hlt]
    have : i < listed.size := by rw [h.size]; exact hlt
    simp [this]
  unfold readyB amask
  rw [hl, ho]
  simp only [Option.map_some, Option.getD_some]
  congr 1
  rw [Bool.eq_iff_iff, land_eq, Array.all_eq_true_iff_forall_mem]
  constructor
  · intro hall j hj
    rw [edgeMask_bit, List.any_eq_true] at hj
    obtain ⟨e, he, hc⟩ := hj
    simp only [Bool.and_eq_true, beq_iff_eq] at hc
    obtain ⟨hc1, rfl⟩ := hc
    have he' : e ∈ ops[i].after := by simpa using he
    have h1 := hall e he'
    rw [hc1] at h1
    rw [← h.bit e.on (hb i _ e ho he' hc1)]
    simpa using h1
  · intro hall e he
    cases hc : Region.binds .any e with
    | false => rfl
    | true =>
      have h1 := hall e.on (by
        rw [edgeMask_bit, List.any_eq_true]
        exact ⟨e, by simpa using he, by simp [hc]⟩)
      rw [h.bit e.on (hb i _ e ho he hc), h1]
      rfl
theorem Mk.free {ops : Array Oper} {listed : Array Bool} {L : Nat} (h : Mk ops listed L) {i : Nat} {o : Oper} (ho : ops[i]? = some o) (hf : freeB ops L i = true) : Region.free .any ops listed i = true := by
  unfold Region.free
  simp only [ho]
  rw [List.all_eq_true]
  intro j hj
  have hlt := List.mem_range.1 hj
  have hoj : ops[j]? = some ops[j] := Array.getElem?_eq_getElem hlt
  by_cases hji : j = i
  · simp [hji]
  · cases hL : L.testBit j with
    | true =>
      have : listed.getD j true = true := by
        have h1 := h.bit j hlt
        rw [hL] at h1
        have h2 : j < listed.size := by rw [h.size]; exact hlt
        simpa [h2] using h1
      simp [this]
    | false =>
      cases hg : goesBy ops i j with
      | false =>
        have h1 := maskNot_bit hg hj
        have h2 := (land_eq.1 hf) j h1
        rw [hL] at h2
        cases h2
      | true =>
        unfold goesBy at hg
        rw [ho, hoj] at hg
        simp only [Bool.or_eq_true, beq_iff_eq, hji, false_or] at hg
        simp only [hoj]
        rcases hg with hg | hg
        · unfold amask at hg
          rw [hoj] at hg
          simp only at hg
          rw [edgeMask_bit] at hg
          have : (ops[j].after.any fun e => Region.binds .any e && e.on == i) = true := by
            rw [← Array.any_toList]
            exact hg
          simp [this]
        · simp [hg]
def edgesIn (ops : Array Oper) : Bool := ops.all fun o => o.after.all fun e => decide (e.on < ops.size)
theorem edgesIn_ok {ops : Array Oper} (h : edgesIn ops = true) : ∀ (i : Nat) (o : Oper) (e : Edge), ops[i]? = some o → e ∈ o.after → Region.binds .any e = true → e.on < ops.size := by
  intro i o e ho he _
  unfold edgesIn at h
  have h1 := Array.all_eq_true_iff_forall_mem.1 h o (Array.mem_of_getElem? ho)
  simpa using Array.all_eq_true_iff_forall_mem.1 h1 e he
/-- An operation that may come first. -/
def findFree (Γ : Kit) (ops : Array Oper) (L : Nat) (S : St) : List Nat → Option (Nat × St)
  | [] => none
  | i :: r => if freeB ops L i then (match ops[i]? with
    | none => findFree Γ ops L S r
    | some o => match o.guard with
      | some _ => findFree Γ ops L S r
      | none => match freeAV Γ S o.op with
        | some av => some (i, S.putR o av)
        | none => findFree Γ ops L S r) else findFree Γ ops L S r
def anyAll (f : Nat → Option (List St)) : List Nat → Option (List St)
  | [] => some []
  | i :: r => match f i, anyAll f r with
    | some L, some M => some (L ++ M)
    | _, _ => none
theorem anyAll_mem {f : Nat → Option (List St)} : ∀ {is : List Nat} {M : List St}, anyAll f is = some M → ∀ i ∈ is, ∃ N, f i = some N ∧ ∀ T ∈ N, T ∈ M
  | [], M, _, i, hi => by simp at hi
  | i0 :: r, M, h, i, hi => by
    unfold anyAll at h
    cases h1 : f i0 with
    | none => rw [h1] at h; cases h
    | some L1 => cases h2 : anyAll f r with
      | none => rw [h1, h2] at h; cases h
      | some M1 =>
        rw [h1, h2] at h
        cases h
        rcases List.mem_cons.1 hi with rfl | hi
        · exact ⟨L1, h1, fun T hT => List.mem_append_left _ hT⟩
        · obtain ⟨N, h3, h4⟩ := anyAll_mem h2 i hi
          exact ⟨N, h3, fun T hT => List.mem_append_right _ (h4 T hT)⟩
/-- The next operation in the text's order, if it may come first. -/
def nextFree (Γ : Kit) (ops : Array Oper) (L : Nat) (S : St) (i : Nat) : Option St :=
  if readyB ops L i && freeB ops L i then (match ops[i]? with
    | none => none
    | some o => match o.guard with
      | some _ => none
      | none => match freeAV Γ S o.op with
        | some av => some (S.putR o av)
        | none => none) else none
theorem nextFree_ok {Γ : Kit} {ops : Array Oper} {L : Nat} {S S' : St} {i : Nat} (h : nextFree Γ ops L S i = some S') : readyB ops L i = true ∧ freeB ops L i = true ∧ ∃ o av, ops[i]? = some o ∧ o.guard = none ∧ freeAV Γ S o.op = some av ∧ S' = S.putR o av := by
  unfold nextFree at h
  split at h
  · rename_i hrf
    simp only [Bool.and_eq_true] at hrf
    split at h
    · cases h
    · rename_i o ho
      split at h
      · cases h
      · rename_i hg
        split at h
        · rename_i av hav
          cases h
          exact ⟨hrf.1, hrf.2, o, av, ho, hg, hav, rfl⟩
        · cases h
  · cases h
def anyOps (Γ : Kit) (ops : Array Oper) : Nat → Nat → St → Option (List St)
  | 0, L, S => match (List.range ops.size).filter (readyB ops L) with
    | [] => some [S]
    | _ => none
  | n + 1, L, S => match nextFree Γ ops L S (ops.size - (n + 1)) with
   | some S' => anyOps Γ ops n (2 ^ (ops.size - (n + 1)) ||| L) S'
   | none => match (List.range ops.size).filter (readyB ops L) with
    | [] => some [S]
    | i0 :: rs => match findFree Γ ops L S (i0 :: rs) with
      | some (i, S') => anyOps Γ ops n (2 ^ i ||| L) S'
      | none => anyAll (fun i => match ops[i]? with
        | none => none
        | some o => match stepOp Γ ops o S with
          | none => none
          | some M => bindSt (anyOps Γ ops n (2 ^ i ||| L)) M) (i0 :: rs)
theorem findFree_ok {Γ : Kit} {ops : Array Oper} {L : Nat} {S : St} : ∀ {is : List Nat} {i : Nat} {S' : St}, findFree Γ ops L S is = some (i, S') → i ∈ is ∧ ∃ o av, ops[i]? = some o ∧ o.guard = none ∧ freeAV Γ S o.op = some av ∧ freeB ops L i = true ∧ S' = S.putR o av
  | [], i, S', h => by cases h
  | j :: r, i, S', h => by
    have tl : findFree Γ ops L S r = some (i, S') → i ∈ j :: r ∧ ∃ o av, ops[i]? = some o ∧ o.guard = none ∧ freeAV Γ S o.op = some av ∧ freeB ops L i = true ∧ S' = S.putR o av := fun h2 => by
      obtain ⟨h3, h4⟩ := findFree_ok h2
      exact ⟨List.mem_cons_of_mem _ h3, h4⟩
    unfold findFree at h
    split at h
    · rename_i hf
      split at h
      · exact tl h
      · rename_i o ho
        split at h
        · exact tl h
        · rename_i hg
          split at h
          · rename_i av hav
            cases h
            exact ⟨List.mem_cons_self, o, av, ho, hg, hav, hf, rfl⟩
          · exact tl h
    · exact tl h
theorem anyOps_ok {X : Ctx} {Γ : Kit} (hE : Env2 X Γ) {ops : Array Oper} (hsel : Region.noSelect ops = true) (hb : edgesIn ops = true) {Q : Exit → Act → World → Prop} (hP : ∀ c a w, ¬ Q (.panic c) a w) :
    ∀ {n L : Nat} {listed : Array Bool} {S : St} {E : Env} {M : List St}, Mk ops listed L → anyOps Γ ops n L S = some M → (∀ a' w', GoodL X E M a' w' → Q .normal a' w') → ∀ {a : Act} {w : World}, Good X E S a w → wpAnyH X.P .any ops Q (HeldW X) n listed a w
  | 0, L, listed, S, E, M, hm, h, hQ, a, w, hg => by
    have hr := hm.ready (edgesIn_ok hb)
    unfold anyOps at h
    split at h
    · rename_i he
      cases h
      exact ⟨hr.trans he, hQ a w (GoodL.one (Rel.refl E) hg)⟩
    · cases h
  | n + 1, L, listed, S, E, M, hm, h, hQ, a, w, hg => by
    have hr := hm.ready (edgesIn_ok hb)
    unfold anyOps at h
    split at h
    · rename_i S' hf
      obtain ⟨hrd, hfr, o, av, ho, hgd, hav, rfl⟩ := nextFree_ok hf
      obtain ⟨v, h1, h2⟩ := freeAV_ok hE hg hav
      obtain ⟨E', r, h3⟩ := hg.putR (h1 w hg.heldW) h2
      have hlt : ops.size - (n + 1) < ops.size := (Array.getElem?_eq_some_iff.1 ho).1
      refine wpAnyH_take ho hsel (hm.free ho hfr) (by rw [hr]; simpa using List.mem_filter.2 ⟨List.mem_range.2 hlt, hrd⟩) (fun c a w hq => absurd hq (hP c _ w)) (.inl ⟨by simp [Region.wanted, hgd], h1⟩) hg.heldW ?_
      exact anyOps_ok hE hsel hb hP (hm.set _) h (fun a' w' hh => hQ a' w' (hh.rel r.ext.rel)) h3
    split at h
    · rename_i he
      cases h
      exact wpAnyH_done (hr.trans he) (hQ a w (GoodL.one (Rel.refl E) hg)) (n + 1)
    · rename_i i0 rs hrs
      rw [hrs] at hr
      split at h
      · rename_i i S' hf
        obtain ⟨hi, o, av, ho, hgd, hav, hfr, rfl⟩ := findFree_ok hf
        obtain ⟨v, h1, h2⟩ := freeAV_ok hE hg hav
        obtain ⟨E', r, h3⟩ := hg.putR (h1 w hg.heldW) h2
        refine wpAnyH_take ho hsel (hm.free ho hfr) (by rw [hr]; simpa using hi) (fun c a w hq => absurd hq (hP c _ w)) (.inl ⟨by simp [Region.wanted, hgd], h1⟩) hg.heldW ?_
        exact anyOps_ok hE hsel hb hP (hm.set i) h (fun a' w' hh => hQ a' w' (hh.rel r.ext.rel)) h3
      · refine wpAnyH_all hr (by simp) fun i hi => ?_
        obtain ⟨N, h1, h2⟩ := anyAll_mem h i hi
        split at h1
        · cases h1
        · rename_i o ho
          split at h1
          · cases h1
          · rename_i L1 hL
            refine stepOp_ok hE hg ho hL fun a' w' hh => ?_
            obtain ⟨T, hT, E', r, hg'⟩ := hh
            obtain ⟨N', h3, h4⟩ := bindSt_mem h1 T hT
            exact ⟨hg'.heldW, anyOps_ok hE hsel hb hP (hm.set i) h3 (fun a'' w'' hh => hQ a'' w'' ((hh.mono fun U hU => h2 U (h4 U hU)).rel r)) hg'⟩
/-- Where a place comes from, within the region. -/
def rootOf (ops : List Oper) : Nat → Operand → Operand
  | 0, x => x
  | n + 1, .tmp t => match ops.find? (fun o => match o.dst with | some d => Nat.beq d t | none => false) with
    | some o => match o.op with
      | .move x => rootOf ops n x
      | .nilCheck x => rootOf ops n x
      | .fieldAddr _ x _ => rootOf ops n x
      | _ => .tmp t
    | none => .tmp t
  | _, x => x
def rootsOf (ops : List Oper) : List Oper → List Operand
  | [] => []
  | o :: r => match o.op with
    | .store _ x _ => rootOf ops ops.length x :: rootsOf ops r
    | .call c => c.args.toList.map (rootOf ops ops.length) ++ rootsOf ops r
    | _ => rootsOf ops r
def hitPtr (S : St) (b : Nat) : List Operand → Bool
  | [] => false
  | x :: r => (match S.eval x with | .one (.cell (.ptr c _)) => Nat.beq b c | _ => false) || hitPtr S b r
/-- The variables that a region does not write or hand on (looked at again by memOp). -/
def heldSet (Γ : Kit) (ops : Array Oper) (S : St) : List Nat := (List.range S.bl.length).filter fun b => !hitPtr S b (rootsOf ops.toList ops.toList)
def drawOps (Γ : Kit) (ops : Array Oper) (S : St) : Option (List St) := if edgesIn ops then anyOps { Γ with hd := heldSet Γ ops S } ops ops.size 0 S else none
theorem drawOps_ok {X : Ctx} {Γ : Kit} (hE : Env2 X Γ) (hX : X.hd = []) {ops : Array Oper} (hsel : Region.noSelect ops = true) {Q : Exit → Act → World → Prop} (hP : ∀ c a w, ¬ Q (.panic c) a w) {S : St} {E : Env} {M : List St} (h : drawOps Γ ops S = some M)
    (hQ : ∀ a' w', GoodL X E M a' w' → Q .normal a' w') {a : Act} {w : World} (hg : Good X E S a w) : wpAny X.P .any ops Q ops.size (Array.replicate ops.size false) a w := by
  unfold drawOps at h
  split at h
  rotate_left
  · cases h
  rename_i hb0
  let X' : Ctx := { X with hd := heldSet Γ ops S, hβ := E.β, hw := w }
  have hE' : Env2 X' { Γ with hd := heldSet Γ ops S } := ⟨hE.tab, hE.calls, rfl⟩
  have hg' : Good X' E S a w := ⟨hg.defers, hg.len, hg.nx, hg.tmps, hg.kinv, hg.fr, hg.blks, hg.lts, fun b hb => by
    have hb' : b ∈ heldSet Γ ops S := hb
    unfold heldSet at hb'
    exact ⟨List.mem_range.1 (List.mem_filter.1 hb').1, rfl, rfl⟩⟩
  refine wpAny_of_held _ _ _ _ (anyOps_ok (X := X') hE' hsel hb0 hP Mk.none_ h (fun a' w' hh => hQ a' w' ?_) hg')
  obtain ⟨T, hT, E2, r, h2⟩ := hh
  exact ⟨T, hT, E2, r, h2.defers, h2.len, h2.nx, h2.tmps, h2.kinv, h2.fr, h2.blks, h2.lts, fun b hb => by rw [hX] at hb; cases hb⟩
end Go.Proofs.Ytnoelppkcbelcaa.Ty

/-
Code, loops, functions.
-/
set_option linter.unusedVariables false
set_option linter.unusedSimpArgs false
namespace Go.Proofs.Ytnoelppkcbelcaa.Ty
open Go Go.RowKit

structure Res where
  norm : List St
  exits : List (Nat × St)
  rets : List St
def Res.none' : Res := ⟨[], [], []⟩
def Res.app (A B : Res) : Res := ⟨A.norm ++ B.norm, A.exits ++ B.exits, A.rets ++ B.rets⟩
def exitsOf (id : Nat) : List (Nat × St) → List St
  | [] => []
  | (j, S) :: r => if j = id then S :: exitsOf id r else exitsOf id r
def exitsNot (id : Nat) : List (Nat × St) → List (Nat × St)
  | [] => []
  | (j, S) :: r => if j = id then exitsNot id r else (j, S) :: exitsNot id r
theorem exitsOf_mem {id : Nat} {S : St} : ∀ {l : List (Nat × St)}, S ∈ exitsOf id l ↔ (id, S) ∈ l
  | [] => by simp [exitsOf]
  | (j, T) :: r => by
    unfold exitsOf
    split
    · rename_i h
      subst h
      rw [List.mem_cons, List.mem_cons, exitsOf_mem]
      simp
    · rename_i h
      rw [List.mem_cons, exitsOf_mem]
      constructor
      · exact .inr
      · rintro (h1 | h1)
        · cases h1; exact absurd rfl h
        · exact h1
theorem exitsNot_mem {id j : Nat} {S : St} (hj : j ≠ id) : ∀ {l : List (Nat × St)}, (j, S) ∈ l → (j, S) ∈ exitsNot id l
  | [], h => by simp at h
  | (i, T) :: r, h => by
    unfold exitsNot
    rcases List.mem_cons.1 h with h1 | h1
    · cases h1
      rw [if_neg hj]
      exact List.mem_cons_self
    · split
      · exact exitsNot_mem hj h1
      · exact List.mem_cons_of_mem _ (exitsNot_mem hj h1)
def bindRes (f : St → Option Res) : List St → Option Res
  | [] => some Res.none'
  | S :: r => match f S, bindRes f r with
    | some A, some B => some (A.app B)
    | _, _ => none
structure Res.Sub (A B : Res) : Prop where
  norm : ∀ S ∈ A.norm, S ∈ B.norm
  exits : ∀ x ∈ A.exits, x ∈ B.exits
  rets : ∀ S ∈ A.rets, S ∈ B.rets
theorem bindRes_mem {f : St → Option Res} : ∀ {L : List St} {R : Res}, bindRes f L = some R → ∀ S ∈ L, ∃ A, f S = some A ∧ A.Sub R
  | [], R, _, S, hS => by simp at hS
  | S0 :: r, R, h, S, hS => by
    unfold bindRes at h
    cases h1 : f S0 with
    | none => rw [h1] at h; cases h
    | some A => cases h2 : bindRes f r with
      | none => rw [h1, h2] at h; cases h
      | some B =>
        rw [h1, h2] at h
        cases h
        rcases List.mem_cons.1 hS with rfl | hS
        · exact ⟨A, h1, fun T hT => List.mem_append_left _ hT, fun T hT => List.mem_append_left _ hT, fun T hT => List.mem_append_left _ hT⟩
        · obtain ⟨C, h3, h4⟩ := bindRes_mem h2 S hS
          exact ⟨C, h3, fun T hT => List.mem_append_right _ (h4.norm T hT), fun T hT => List.mem_append_right _ (h4.exits T hT), fun T hT => List.mem_append_right _ (h4.rets T hT)⟩
/-- How a piece of code ends. -/
def GoodR (X : Ctx) (E : Env) (R : Res) : Exit → Act → World → Prop
  | .normal, a, w => GoodL X E R.norm a w
  | .exit id, a, w => GoodL X E (exitsOf id R.exits) a w
  | .ret, a, w => GoodL X E R.rets a w
  | _, _, _ => False
theorem GoodR.mono {X : Ctx} {E E' : Env} {A B : Res} (r : Rel E E') (h : A.Sub B) {e : Exit} {a : Act} {w : World} (hg : GoodR X E' A e a w) : GoodR X E B e a w := by
  cases e with
  | normal => exact (GoodL.mono h.norm hg).rel r
  | exit id => exact (GoodL.mono (fun S hS => exitsOf_mem.2 (h.exits _ (exitsOf_mem.1 hS))) hg).rel r
  | ret => exact (GoodL.mono h.rets hg).rel r
  | _ => exact hg.elim
/-- A loop, round after round. -/
def unroll (f : St → Option Res) : Nat → List St → Option Res
  | _, [] => some Res.none'
  | 0, _ :: _ => none
  | k + 1, S :: r => match bindRes f (S :: r) with
    | none => none
    | some R => match unroll f k (mergeSt [] R.norm) with
      | none => none
      | some R' => some ⟨[], R.exits ++ R'.exits, R.rets ++ R'.rets⟩
def clampSV (q : Nat) : SV → SV
  | .int k lo hi (some (s, d)) => if s < q then .int k lo hi (some (s, d)) else .int k lo hi none
  | .slice c lo hi (some s) => if s < q then .slice c lo hi (some s) else .slice c lo hi none
  | .bool t _ _ => .bool t [] []
  | s => s
/-- The state at a loop's head: the counter anywhere between its bounds. -/
def headOf (S : St) (t : Nat) (k : IntKind) (lo lim : Int) : St :=
  (S.map (clampSV S.nx)).setT t (.one (.cell (.int k lo lim none)))
def roundOf (H : St) (t : Nat) (k : IntKind) (lo lim : Int) : St :=
  { (H.setT t (.one (.cell (.int k lo lim (some (H.nx, 0)))))) with nx := H.nx + 1 }
def joinAll (S : St) : List St → St
  | [] => S
  | N :: r => joinAll (joinSt true S N) r
def counted (t : Nat) (k : IntKind) (c : Nat) (lim : Int) (N : St) : Bool := match getT N.tmps t with
  | .one (.cell (.int k' _ hi (some (s, d)))) => decide (k = k') && (decide (s = c) && (decide (1 ≤ d) && decide (hi ≤ lim)))
  | _ => false
def allB (p : St → Bool) : List St → Bool
  | [] => true
  | S :: r => p S && allB p r
def headOk (S H : St) (t : Nat) (k : IntKind) (lim : Int) (L : List St) : Bool :=
  leSt S H && ((match getT H.tmps t with | .one (.cell (.int k' _ hi none)) => decide (k = k') && decide (hi ≤ lim) | _ => false) && (decide (t < H.nt) && allB (fun N => leSt0 N H && counted t k H.nx lim N) L))
def countLoop (f : St → Option Res) (t : Nat) (k : IntKind) (lo lim : Int) (S : St) : Option Res :=
  match f (roundOf (headOf S t k lo lim) t k lo lim) with
  | none => none
  | some R1 =>
    let J := joinAll (headOf S t k lo lim) R1.norm
    let H := headOf { J with nx := S.nx } t k lo lim
    match f (roundOf H t k lo lim) with
    | none => none
    | some R2 =>
      match headOk S H t k lim R2.norm with
      | true => some ⟨[], R2.exits, R2.rets⟩
      | false => none
abbrev How := Nat → Option (Nat × IntKind × Int × Int)
/-- How a function is gone through. -/
structure Hint where
  how : How
  mg : Bool
  U : Nat
  keep : Option (List Nat)
  lp : Nat → Option (St × Res) := fun _ => none
  nm : List Nat := []
def Hint.only (H : Hint) (S : St) : St := match H.keep with
  | some k => S.only k
  | none => S
theorem Good.hint {X : Ctx} {E : Env} {S : St} {a : Act} {w : World} (h : Good X E S a w) (H : Hint) : Good X E (H.only S) a w := by
  unfold Hint.only
  split
  · exact h.only _
  · exact h
/-- A slot under a name. -/
def St.nameS (S : St) (i : Nat) : St := match freshAV (getT S.tmps i) S.nx with
  | (v, n) => if n = S.nx then S else { S with nx := n }.setT i v
def nameAll : List Nat → St → St
  | [], S => S
  | i :: r, S => nameAll r (S.nameS i)
theorem Good.nameS {X : Ctx} {E : Env} {S : St} {a : Act} {w : World} (h : Good X E S a w) (i : Nat) : ∃ E', Rel E E' ∧ Good X E' (S.nameS i) a w := by
  obtain ⟨E', r, hn, h1⟩ := freshAV_ok (h.tmps i)
  rw [h.nx] at hn h1
  unfold St.nameS
  split
  rename_i v n he
  rw [he] at hn h1
  split
  · exact ⟨E, Rel.refl E, h⟩
  · have h2 := (h.ren r).sharpen (t := i) h1
    rw [hn] at h2
    exact ⟨E', r.ext.rel, h2⟩
theorem Good.nameAll {X : Ctx} : ∀ {l : List Nat} {E : Env} {S : St} {a : Act} {w : World}, Good X E S a w → ∃ E', Rel E E' ∧ Good X E' (nameAll l S) a w
  | [], E, S, a, w, h => ⟨E, Rel.refl E, h⟩
  | i :: r, E, S, a, w, h => by
    obtain ⟨E1, r1, h1⟩ := h.nameS i
    obtain ⟨E2, r2, h2⟩ := Good.nameAll (l := r) h1
    exact ⟨E2, r1.trans r2, h2⟩
def Hint.reg (H : Hint) (S : St) : St := nameAll H.nm (H.only S)
theorem Good.reg {X : Ctx} {E : Env} {S : St} {a : Act} {w : World} (h : Good X E S a w) (H : Hint) : ∃ E', Rel E E' ∧ Good X E' (H.reg S) a w := (h.hint H).nameAll
def runCode (Γ : Kit) (H : Hint) : Nat → Code → St → Option Res
  | 0, _, _ => none
  | n + 1, c, S => match c with
    | .skip => some ⟨[S], [], []⟩
    | .region _ ops draw =>
      match (if draw then (if Region.noSelect ops then drawOps Γ ops (H.reg S) else none) else seqOps Γ ops (List.range ops.size) [H.reg S]) with
      | some L => some ⟨L, [], []⟩
      | none => none
    | .seq x y => match runCode Γ H n x S with
      | none => none
      | some A => match bindRes (runCode Γ H n y) A.norm with
        | none => none
        | some B => some ⟨B.norm, A.exits ++ B.exits, A.rets ++ B.rets⟩
    | .cond (.tmp t) x y => match S.eval (.tmp t) with
      | .one (.cell (.bool (some b) _ _)) => runCode Γ H n (if b then x else y) S
      | .one (.cell (.bool none ft ff)) =>
        let S1 := S.way t true ft
        let S0 := S.way t false ff
        match (if S1.bad then some Res.none' else runCode Γ H n x S1), (if S0.bad then some Res.none' else runCode Γ H n y S0) with
        | some A, some B => some ⟨if H.mg then mergeSt [] ((A.norm ++ B.norm).map H.only) else A.norm ++ B.norm, A.exits ++ B.exits, A.rets ++ B.rets⟩
        | _, _ => none
      | _ => none
    | .block id c => match (match c with
        | .loop d => match H.lp id with
          | some (S0, R0) => if leSt S S0 then some R0 else none
          | none => match H.how id with
            | some (t, k, lo, lim) => countLoop (runCode Γ H n d) t k lo lim S
            | none => runCode Γ H n c S
        | _ => runCode Γ H n c S) with
      | none => none
      | some A => some ⟨if H.mg then mergeSt [] ((A.norm ++ exitsOf id A.exits).map H.only) else A.norm ++ exitsOf id A.exits, exitsNot id A.exits, A.rets⟩
    | .loop d => unroll (runCode Γ H n d) H.U [S]
    | .exit id => some ⟨[], [(id, S)], []⟩
    | .ret => some ⟨[], [], [S]⟩
    | _ => none
/-- The bodies of the loops that stand in a block of that number. -/
def loopsAt (id : Nat) : Code → List Code
  | .seq x y => loopsAt id x ++ loopsAt id y
  | .cond _ x y => loopsAt id x ++ loopsAt id y
  | .block j (.loop d) => if j = id then d :: loopsAt id d else loopsAt id d
  | .block _ c => loopsAt id c
  | .loop d => loopsAt id d
  | _ => []
/-- A loop that was gone through elsewhere. -/
def LoopOK (X : Ctx) (d : Code) (S0 : St) (R : Res) : Prop := ∀ (E : Env) (a : Act) (w : World), Good X E S0 a w → (Code.loop d).wp X.P (GoodR X E R) a w
def LpOK (X : Ctx) (H : Hint) (c : Code) : Prop := ∀ id S0 R, H.lp id = some (S0, R) → ∀ d ∈ loopsAt id c, LoopOK X d S0 R
theorem least {p : Nat → Prop} (h : ∃ n, p n) : ∃ n, p n ∧ ∀ m, p m → n ≤ m := by
  obtain ⟨n, hn⟩ := h
  induction n using Nat.strongRecOn with
  | _ n ih =>
    by_cases hh : ∃ m, m < n ∧ p m
    · obtain ⟨m, h1, h2⟩ := hh
      exact ih m h1 h2
    · refine ⟨n, hn, fun m hm => ?_⟩
      rcases Nat.lt_or_ge m n with h1 | h1
      · exact absurd ⟨m, h1, hm⟩ hh
      · exact h1
theorem unroll_ok {X : Ctx} (hX : X.hd = []) {f : St → Option Res} {d : Code} (hf : ∀ S R, f S = some R → ∀ E a w, Good X E S a w → d.wp X.P (GoodR X E R) a w) {U : Nat} {L : List St} {R : Res} (h : unroll f U L = some R) {E : Env} {a : Act} {w : World} (hg : GoodL X E L a w) : (Code.loop d).wp X.P (GoodR X E R) a w := by
  let Lev : Nat → Act → World → Prop := fun j a w => ∃ M R', unroll f j M = some R' ∧ (∀ x ∈ R'.exits, x ∈ R.exits) ∧ (∀ x ∈ R'.rets, x ∈ R.rets) ∧ GoodL X E M a w
  classical
  refine wp_loop (I := fun a w => ∃ j, Lev j a w) (μ := fun a w => if hh : ∃ j, Lev j a w then Classical.choose (least hh) else 0) ⟨U, L, R, h, fun _ hx => hx, fun _ hx => hx, hg⟩ ?_
  intro a w hI
  have hspec := (Classical.choose_spec (least hI)).1
  have hmu : (if hh : ∃ j, Lev j a w then Classical.choose (least hh) else 0) = Classical.choose (least hI) := dif_pos hI
  simp only [hmu]
  generalize Classical.choose (least hI) = j at hspec
  obtain ⟨M, R', h1, h2, h3, S, hS, E', r, hg'⟩ := hspec
  cases M with
  | nil => simp at hS
  | cons S0 M =>
    cases j with
    | zero => simp [unroll] at h1
    | succ j =>
      unfold unroll at h1
      cases hb : bindRes f (S0 :: M) with
      | none => rw [hb] at h1; cases h1
      | some R1 =>
        rw [hb] at h1
        simp only at h1
        cases hu : unroll f j (mergeSt [] R1.norm) with
        | none => rw [hu] at h1; cases h1
        | some R2 =>
          rw [hu] at h1
          cases h1
          obtain ⟨A, hA, hsub⟩ := bindRes_mem hb S hS
          refine wp_mono (hf S A hA E' a w hg') ?_
          intro e a' w' hr
          have hr2 := GoodR.mono (X := X) r hsub hr
          cases e with
          | normal =>
            have hlev : Lev j a' w' := ⟨_, R2, hu, fun x hx => h2 x (List.mem_append_right _ hx), fun x hx => h3 x (List.mem_append_right _ hx), mergeSt_ok hX (show GoodL X E ([] ++ R1.norm) a' w' from hr2)⟩
            refine ⟨⟨j, hlev⟩, ?_⟩
            have hh : ∃ j, Lev j a' w' := ⟨j, hlev⟩
            simp only [dif_pos hh]
            exact Nat.lt_succ_of_le ((Classical.choose_spec (least hh)).2 j hlev)
          | exit id => exact GoodL.mono (fun S hS => exitsOf_mem.2 (h2 _ (List.mem_append_left _ (exitsOf_mem.1 hS)))) hr2
          | ret => exact GoodL.mono (fun S hS => h3 _ (List.mem_append_left _ hS)) hr2
          | _ => exact hr2.elim
theorem allB_mem {p : St → Bool} : ∀ {L : List St}, allB p L = true → ∀ S ∈ L, p S = true
  | [], _, S, hS => by simp at hS
  | S0 :: r, h, S, hS => by
    simp only [allB, Bool.and_eq_true] at h
    rcases List.mem_cons.1 hS with rfl | hS
    · exact h.1
    · exact allB_mem h.2 S hS
def cntOf (t : Nat) (a : Act) : Int := match a.tmps.getD t undef with
  | .int _ n => n
  | _ => 0
theorem countLoop_ok {X : Ctx} (hX : X.hd = []) {f : St → Option Res} {d : Code} (hf : ∀ S R, f S = some R → ∀ E a w, Good X E S a w → d.wp X.P (GoodR X E R) a w) {t : Nat} {k : IntKind} {lo lim : Int} {S : St} {R : Res} (h : countLoop f t k lo lim S = some R) {E : Env} {a : Act} {w : World} (hg : Good X E S a w) : (Code.loop d).wp X.P (GoodR X E R) a w := by
  unfold countLoop at h
  split at h
  · cases h
  · rename_i R1 hR1
    dsimp only at h
    split at h
    · cases h
    · rename_i R2 hR2
      split at h
      · rename_i hc
        cases h
        unfold headOk at hc
        generalize hH : headOf { joinAll (headOf S t k lo lim) R1.norm with nx := S.nx } t k lo lim = H at hR2 hc
        simp only [Bool.and_eq_true, decide_eq_true_eq] at hc
        obtain ⟨c1, c2, c3, c4⟩ := hc
        have hle := c1
        unfold leSt at hle
        simp only [Bool.and_eq_true, decide_eq_true_eq] at hle
        obtain ⟨hle0, hnx⟩ := hle
        -- the counter's cell at the head
        have hcell : ∃ lo' hi', getT H.tmps t = .one (.cell (.int k lo' hi' none)) ∧ hi' ≤ lim := by
          split at c2
          · rename_i k' lo' hi' heq
            simp only [Bool.and_eq_true, decide_eq_true_eq] at c2
            obtain ⟨rfl, h2⟩ := c2
            exact ⟨lo', hi', heq, h2⟩
          · cases c2
        have hHt : getT H.tmps t = .one (.cell (.int k lo lim none)) := by
          have hl : t < H.nt := c3
          subst hH
          exact getT_self hl _ _
        refine wp_loop (I := fun a w => ∃ E', Rel E E' ∧ Good X E' H a w) (μ := fun a w => (lim + 1 - cntOf t a).toNat) ⟨{ E with nx := H.nx, nb := H.bl.length }, ⟨by rw [hg.nx]; exact hnx, fun _ _ => rfl⟩, leSt0_ok hX hle0 hg⟩ ?_
        rintro a w ⟨E', r, hg'⟩
        have hv := hg'.tmps t
        rw [hHt] at hv
        obtain ⟨n, hn, n0, n1, _⟩ := hv
        -- the round's own name of the counter
        have hren := hg'.ren (Ren.bump E' n)
        have hb : (E'.bump n).nx = H.nx + 1 := by rw [← hg'.nx]; rfl
        have hround : Good X (E'.bump n) (roundOf H t k lo lim) a w := by
          have h9 := hren.sharpen (t := t) (av := .one (.cell (.int k lo lim (some (H.nx, 0))))) (by
            rw [hn]
            refine ⟨n, rfl, n0, n1, fun s dd hs => ?_⟩
            obtain ⟨rfl, rfl⟩ : H.nx = s ∧ 0 = dd := by simpa using hs
            exact ⟨by rw [hb]; exact Nat.lt_succ_self _, by simp [Env.bump, hg'.nx]⟩)
          rw [hb] at h9
          exact h9
        refine wp_mono (hf _ _ hR2 _ a w hround) ?_
        intro e a' w' hr
        have r2 : Rel E (E'.bump n) := r.trans (Ren.bump E' n).ext.rel
        cases e with
        | normal =>
          obtain ⟨N, hN, E3, r3, hg3⟩ := hr
          have hN2 := allB_mem c4 N hN
          simp only [Bool.and_eq_true] at hN2
          obtain ⟨hN3, hN4⟩ := hN2
          have hg4 := leSt0_ok hX hN3 hg3
          have h5 : Rel E { E3 with nx := H.nx, nb := H.bl.length } := by
            refine ⟨Nat.le_trans r.nx (by rw [hg'.nx]; exact Nat.le_refl _), fun s hs => ?_⟩
            have hs1 : s < E'.nx := Nat.lt_of_lt_of_le hs r.nx
            have hs2 : s < (E'.bump n).nx := Nat.lt_of_lt_of_le hs1 (Nat.le_succ _)
            show E3.σ s = _
            rw [r3.σ s hs2, r2.σ s hs]
          refine ⟨⟨_, h5, hg4⟩, ?_⟩
          unfold counted at hN4
          split at hN4
          · rename_i k' lo' hi' s dd heq
            simp only [Bool.and_eq_true, decide_eq_true_eq] at hN4
            obtain ⟨rfl, rfl, hd, hl⟩ := hN4
            have hv3 := hg3.tmps t
            rw [heq] at hv3
            obtain ⟨m, hm, m0, m1, m2⟩ := hv3
            obtain ⟨_, hm3⟩ := m2 H.nx dd rfl
            have e1 : E3.σ H.nx = n := by
              rw [r3.σ H.nx (by rw [hb]; exact Nat.lt_succ_self _)]
              simp [Env.bump, hg'.nx]
            have e2 : cntOf t a' = m := by unfold cntOf; rw [hm]
            have e3 : cntOf t a = n := by unfold cntOf; rw [hn]
            rw [e2, e3]
            omega
          · cases hN4
        | exit id => exact GoodL.rel r2 hr
        | ret => exact GoodL.rel r2 hr
        | _ => exact hr.elim
      · cases h
theorem runCode_ok {X : Ctx} (hX : X.hd = []) {Γ : Kit} (hE : Env2 X Γ) (hmix : X.P.follows .mixedOrders = true) {H : Hint} : ∀ {n : Nat} {c : Code} {S : St} {R : Res}, LpOK X H c → runCode Γ H n c S = some R → ∀ {E : Env} {a : Act} {w : World}, Good X E S a w → c.wp X.P (GoodR X E R) a w
  | 0, c, S, R, _, h, E, a, w, hg => by cases h
  | n + 1, c, S, R, hl, h, E, a, w, hg => by
    have mrg : ∀ {L : List St} {a' : Act} {w' : World}, GoodL X E L a' w' → GoodL X E (if H.mg then mergeSt [] (L.map H.only) else L) a' w' := fun hl => by
      split
      · refine mergeSt_ok hX ?_
        obtain ⟨S, hS, E', r, hg'⟩ := hl
        exact ⟨H.only S, List.mem_map.2 ⟨S, hS, rfl⟩, E', r, hg'.hint H⟩
      · exact hl
    unfold runCode at h
    cases c with
    | skip =>
      cases h
      exact wp_skip (GoodL.one (Rel.refl E) hg)
    | region id ops draw =>
      simp only at h
      split at h
      · rename_i L hL
        cases h
        obtain ⟨En, rn, hgn⟩ := hg.reg H
        cases draw with
        | false =>
          simp only [Bool.false_eq_true, if_false] at hL
          exact wp_region (seqOps_ok hE hL (fun a' w' hh => hh) (GoodL.one rn hgn))
        | true =>
          simp only [if_true] at hL
          split at hL
          · rename_i hs
            refine wp_region_any hmix ?_
            exact drawOps_ok hE hX hs (fun c a w hq => hq) hL (fun a' w' hh => GoodL.rel rn hh) (hgn.draw _)
          · cases hL
      · cases h
    | seq x y =>
      simp only at h
      cases hx : runCode Γ H n x S with
      | none => rw [hx] at h; cases h
      | some A =>
        rw [hx] at h
        simp only at h
        cases hy : bindRes (runCode Γ H n y) A.norm with
        | none => rw [hy] at h; cases h
        | some B =>
          rw [hy] at h
          cases h
          refine wp_seq (wp_mono (runCode_ok hX hE hmix (fun i s r hh d hd => hl i s r hh d (List.mem_append_left _ hd)) hx hg) ?_)
          intro e a' w' hr
          cases e with
          | normal =>
            obtain ⟨S', hS', E', r, hg'⟩ := hr
            obtain ⟨C, hC, hsub⟩ := bindRes_mem hy S' hS'
            refine wp_mono (runCode_ok hX hE hmix (fun i s r hh d hd => hl i s r hh d (List.mem_append_right _ hd)) hC hg') fun e a'' w'' hr2 => ?_
            exact GoodR.mono (B := ⟨B.norm, A.exits ++ B.exits, A.rets ++ B.rets⟩) r ⟨hsub.norm, fun x hx => List.mem_append_right _ (hsub.exits x hx), fun x hx => List.mem_append_right _ (hsub.rets x hx)⟩ hr2
          | exit id => exact GoodL.mono (fun S hS => exitsOf_mem.2 (List.mem_append_left _ (exitsOf_mem.1 hS))) hr
          | ret => exact GoodL.mono (fun S hS => List.mem_append_left _ hS) hr
          | _ => exact hr.elim
    | cond o x y =>
      cases o with
      | tmp t =>
        simp only at h
        have hv := hg.tmps t
        split at h
        · rename_i b ft ff heq
          have heq' : getT S.tmps t = .one (.cell (.bool (some b) ft ff)) := heq
          rw [heq'] at hv
          obtain ⟨b', hb, h1, _⟩ := hv
          obtain rfl := h1 b rfl
          refine wp_cond (t := b') hb ?_
          cases b'
          · exact runCode_ok hX hE hmix (fun i s r hh d hd => hl i s r hh d (List.mem_append_right _ hd)) h hg
          · exact runCode_ok hX hE hmix (fun i s r hh d hd => hl i s r hh d (List.mem_append_left _ hd)) h hg
        · rename_i ft ff heq
          have heq' : getT S.tmps t = .one (.cell (.bool none ft ff)) := heq
          rw [heq'] at hv
          obtain ⟨b, hb, _, h2, h3⟩ := hv
          split at h
          · rename_i A B hA hB
            cases h
            refine wp_cond (t := b) hb ?_
            cases b with
            | true =>
              have hg1 : Good X E (S.way t true ft) a w := hg.way hb (h2 rfl)
              rw [hg1.not_bad] at hA
              simp only [Bool.false_eq_true, if_false] at hA
              simp only [if_true]
              refine wp_mono (runCode_ok hX hE hmix (fun i s r hh d hd => hl i s r hh d (List.mem_append_left _ hd)) hA hg1) fun e a' w' hr => ?_
              cases e with
              | normal => exact mrg (GoodL.mono (fun S hS => List.mem_append_left _ hS) hr)
              | exit id => exact GoodL.mono (fun S hS => exitsOf_mem.2 (List.mem_append_left _ (exitsOf_mem.1 hS))) hr
              | ret => exact GoodL.mono (fun S hS => List.mem_append_left _ hS) hr
              | _ => exact hr.elim
            | false =>
              have hg1 : Good X E (S.way t false ff) a w := hg.way hb (h3 rfl)
              rw [hg1.not_bad] at hB
              simp only [Bool.false_eq_true, if_false] at hB
              simp only [Bool.false_eq_true, if_false]
              refine wp_mono (runCode_ok hX hE hmix (fun i s r hh d hd => hl i s r hh d (List.mem_append_right _ hd)) hB hg1) fun e a' w' hr => ?_
              cases e with
              | normal => exact mrg (GoodL.mono (fun S hS => List.mem_append_right _ hS) hr)
              | exit id => exact GoodL.mono (fun S hS => exitsOf_mem.2 (List.mem_append_right _ (exitsOf_mem.1 hS))) hr
              | ret => exact GoodL.mono (fun S hS => List.mem_append_right _ hS) hr
              | _ => exact hr.elim
          · cases h
        · cases h
      | _ => cases h
    | block id c =>
      simp only at h
      split at h
      · cases h
      · rename_i A hA
        cases h
        have hbody : c.wp X.P (GoodR X E A) a w := by
          have hl' : LpOK X H c := fun i s r hh d hd => hl i s r hh d (by
            cases c with
            | loop d' =>
              simp only [loopsAt] at hd ⊢
              split
              · exact List.mem_cons_of_mem _ hd
              · exact hd
            | _ => exact hd)
          cases c with
          | loop d =>
            simp only at hA
            split at hA
            · rename_i S0 R0 hlp
              split at hA
              · rename_i hle
                cases hA
                obtain ⟨E', r, hg'⟩ := leSt_ok hX hle hg
                refine wp_mono (hl id S0 _ hlp d (by simp [loopsAt]) E' a w hg') fun e a' w' hr => ?_
                exact GoodR.mono r ⟨fun _ h => h, fun _ h => h, fun _ h => h⟩ hr
              · cases hA
            · split at hA
              · have hd : LpOK X H d := fun i s r hh d' hd' => hl' i s r hh d' hd'
                exact countLoop_ok hX (fun S R hS E a w hg => runCode_ok hX hE hmix hd hS hg) hA hg
              · exact runCode_ok hX hE hmix hl' hA hg
          | _ => exact runCode_ok hX hE hmix hl' hA hg
        refine wp_block (wp_mono hbody fun e a' w' hr => ?_)
        cases e with
        | normal => exact mrg (GoodL.mono (fun S hS => List.mem_append_left _ hS) hr)
        | exit id' =>
          show if id' = id then _ else _
          split
          · rename_i he
            subst he
            exact mrg (GoodL.mono (fun S hS => List.mem_append_right _ hS) hr)
          · rename_i he
            exact GoodL.mono (fun S hS => exitsOf_mem.2 (exitsNot_mem he (exitsOf_mem.1 hS))) hr
        | ret => exact hr
        | _ => exact hr.elim
    | loop d =>
      have hd : LpOK X H d := fun i s r hh d' hd' => hl i s r hh d' hd'
      exact unroll_ok hX (fun S R hS E a w hg => runCode_ok hX hE hmix hd hS hg) h (GoodL.one (Rel.refl E) hg)
    | exit id =>
      cases h
      refine wp_exit ?_
      show GoodL X E (exitsOf id [(id, S)]) a w
      rw [show exitsOf id [(id, S)] = [S] by simp [exitsOf]]
      exact GoodL.one (Rel.refl E) hg
    | ret =>
      cases h
      exact wp_ret (GoodL.one (Rel.refl E) hg)
    | _ => cases h
/-- One round, from one state at the loop's head to another. -/
def roundB (Γ : Kit) (H : Hint) (fuel : Nat) (d : Code) (S S' : St) (EX : List (Nat × St)) : Bool := match runCode Γ H fuel d S with
  | none => false
  | some R => allB (fun T => leSt T S') R.norm && (R.exits.all (fun x => EX.any fun y => decide (x.1 = y.1) && leSt x.2 y.2) && (match R.rets with | [] => true | _ => false))
/-- The last round: none behind it. -/
def lastB (Γ : Kit) (H : Hint) (fuel : Nat) (d : Code) (S : St) (EX : List (Nat × St)) : Bool := match runCode Γ H fuel d S with
  | none => false
  | some R => (match R.norm with | [] => true | _ => false) && (R.exits.all (fun x => EX.any fun y => decide (x.1 = y.1) && leSt x.2 y.2) && (match R.rets with | [] => true | _ => false))
theorem exits_le {X : Ctx} (hX : X.hd = []) {E E' : Env} (r : Rel E E') {a : Act} {w : World} {id : Nat} {xs EX : List (Nat × St)} (h : (xs.all fun x => EX.any fun y => decide (x.1 = y.1) && leSt x.2 y.2) = true) (hg : GoodL X E' (exitsOf id xs) a w) : GoodL X E (exitsOf id EX) a w := by
  obtain ⟨S, hS, E2, r2, hg2⟩ := hg
  have h1 := List.all_eq_true.1 h _ (exitsOf_mem.1 hS)
  obtain ⟨⟨j, T⟩, hT, h2⟩ := List.any_eq_true.1 h1
  simp only [Bool.and_eq_true, decide_eq_true_eq] at h2
  obtain ⟨rfl, h3⟩ := h2
  obtain ⟨E3, r3, hg3⟩ := leSt_ok hX h3 hg2
  exact ⟨T, exitsOf_mem.2 hT, E3, (r.trans r2).trans r3, hg3⟩
theorem heads_ok {X : Ctx} (hX : X.hd = []) {Γ : Kit} (hE : Env2 X Γ) (hmix : X.P.follows .mixedOrders = true) {H : Hint} {fuel : Nat} {d : Code} (hl : LpOK X H d) {hs : Nat → St} {n : Nat} {EX : List (Nat × St)}
    (hr : ∀ k, k < n → roundB Γ H fuel d (hs k) (hs (k + 1)) EX = true) (hn : lastB Γ H fuel d (hs n) EX = true) : LoopOK X d (hs 0) ⟨[], EX, []⟩ := by
  intro E a w hg
  let Lev : Nat → Act → World → Prop := fun j a w => ∃ k, k + j = n ∧ ∃ E', Rel E E' ∧ Good X E' (hs k) a w
  classical
  refine wp_loop (I := fun a w => ∃ j, Lev j a w) (μ := fun a w => if hh : ∃ j, Lev j a w then Classical.choose (least hh) else 0) ⟨n, 0, by omega, E, Rel.refl E, hg⟩ ?_
  intro a w hI
  have hspec := (Classical.choose_spec (least hI)).1
  have hmu : (if hh : ∃ j, Lev j a w then Classical.choose (least hh) else 0) = Classical.choose (least hI) := dif_pos hI
  simp only [hmu]
  generalize Classical.choose (least hI) = j at hspec
  obtain ⟨k, hk, E', r, hg'⟩ := hspec
  cases j with
  | zero =>
    obtain rfl : k = n := by omega
    unfold lastB at hn
    split at hn
    · cases hn
    · rename_i R hR
      simp only [Bool.and_eq_true] at hn
      obtain ⟨h1, h2, h3⟩ := hn
      refine wp_mono (runCode_ok hX hE hmix hl hR hg') fun e a' w' hr' => ?_
      cases e with
      | normal =>
        have : GoodL X E' R.norm a' w' := hr'
        obtain ⟨S, hS, _⟩ := this
        split at h1
        · rename_i e; rw [e] at hS; cases hS
        · cases h1
      | exit id => exact exits_le hX r h2 hr'
      | ret =>
        have : GoodL X E' R.rets a' w' := hr'
        obtain ⟨S, hS, _⟩ := this
        split at h3
        · rename_i e; rw [e] at hS; cases hS
        · cases h3
      | _ => exact hr'.elim
  | succ j =>
    have hb := hr k (by omega)
    unfold roundB at hb
    split at hb
    · cases hb
    · rename_i R hR
      simp only [Bool.and_eq_true] at hb
      obtain ⟨h1, h2, h3⟩ := hb
      refine wp_mono (runCode_ok hX hE hmix hl hR hg') fun e a' w' hr' => ?_
      cases e with
      | normal =>
        have : GoodL X E' R.norm a' w' := hr'
        obtain ⟨S, hS, E2, r2, hg2⟩ := this
        obtain ⟨E3, r3, hg3⟩ := leSt_ok hX (allB_mem h1 S hS) hg2
        have hlev : Lev j a' w' := ⟨k + 1, by omega, E3, (r.trans r2).trans r3, hg3⟩
        refine ⟨⟨j, hlev⟩, ?_⟩
        have hh : ∃ j, Lev j a' w' := ⟨j, hlev⟩
        simp only [dif_pos hh]
        exact Nat.lt_succ_of_le ((Classical.choose_spec (least hh)).2 j hlev)
      | exit id => exact exits_le hX r h2 hr'
      | ret =>
        have : GoodL X E' R.rets a' w' := hr'
        obtain ⟨S, hS, _⟩ := this
        split at h3
        · rename_i e; rw [e] at hS; cases hS
        · cases h3
      | _ => exact hr'.elim
end Go.Proofs.Ytnoelppkcbelcaa.Ty

/-
A function's contract, reckoned; contracts that lean on contracts.
-/
set_option linter.unusedVariables false
set_option linter.unusedSimpArgs false
namespace Go.Proofs.Ytnoelppkcbelcaa.Ty
open Go Go.RowKit

def cleanSV : SV → SV
  | .ptr b o => .ptr b o
  | s => stripSV s
theorem cleanSV_ok {E : Env} {s : SV} {v : Value} (h : hasSV E s v) : hasSV { E with nx := 0 } (cleanSV s) v := by
  have h1 := stripSV_ok (E := E) (E' := { E with nx := 0 }) (fun _ _ hh => hh) h
  cases s with
  | ptr b o => exact h
  | _ => exact h1
def freshArgs : List AV → Nat → List AV × Nat
  | [], n => ([], n)
  | a :: as, n => match freshAV a n with
    | (a', n') => match freshArgs as n' with
      | (as', n'') => (a' :: as', n'')
theorem freshArgs_ok : ∀ {ss : List AV} {E : Env} {vs : List Value}, hasArgs E ss vs → ∃ E', Ren E E' ∧ E'.nx = (freshArgs ss E.nx).2 ∧ hasArgs E' (freshArgs ss E.nx).1 vs
  | [], E, [], h => ⟨E, Ren.refl E, rfl, trivial⟩
  | [], _, _ :: _, h => h.elim
  | _ :: _, _, [], h => h.elim
  | s :: ss, E, v :: vs, h => by
    obtain ⟨E1, r1, n1, h1⟩ := freshAV_ok h.1
    obtain ⟨E2, r2, n2, h2⟩ := freshArgs_ok (ss := ss) (h.2.ext r1.ext)
    rw [n1] at n2 h2
    exact ⟨E2, r1.trans r2, n2, h1.ext r2.ext, h2⟩
def typed : Option (TypeId × List SV) → TypeId
  | some (t, _) => t
  | none => 0
def numT : Nat → List AV → List (Nat × AV)
  | _, [] => []
  | i, a :: r => (i, a) :: numT (i + 1) r
theorem numT_get : ∀ (l : List AV) (k i : Nat), getT (numT k l) i = if k ≤ i then l.getD (i - k) .any else .any
  | [], k, i => by
    show AV.any = _
    split <;> rfl
  | a :: r, k, i => by
    rw [numT, getT]
    by_cases h : k = i
    · subst h
      rw [if_pos rfl, if_pos (Nat.le_refl _), Nat.sub_self]
      rfl
    · rw [if_neg h, numT_get r (k + 1) i]
      by_cases h2 : k ≤ i
      · rw [if_pos (by omega), if_pos h2, show i - k = (i - (k + 1)) + 1 by omega]
        rfl
      · rw [if_neg (by omega), if_neg h2]
def initSt (args : List AV) (blk : Option (TypeId × List SV)) (nt : Nat) : St := match freshArgs (args.map (mapAV cleanSV)) 0 with
  | (as, n) => match blk with
    | none => ⟨numT 0 as, as.length + (nt - as.length), [], [], n, []⟩
    | some (t, cs) => match freshL (cs.map cleanSV) n with
      | (cs', n') => ⟨numT 0 as, as.length + (nt - as.length), [(t, cs')], [], n', []⟩
theorem init_ok {P : Program} {CP : (Nat → Option KT) → List Value → Prop} {cpm : ∀ (K K' : Nat → Option KT), (∀ g k, K g = some k → K' g = some k) → ∀ vs, CP K vs → CP K' vs} {E : Env} {w : World} {vs : Array Value} {args : List AV} {blk : Option (TypeId × List SV)} (nt : Nat)
    (hA : hasArgs E args vs.toList) (hK : KInv CP E.K w) (hB : BlkAt E w blk) :
    ∃ E', E'.K = E.K ∧ Good ⟨P, CP, cpm, E.K, passed (E.β 0) blk, typed blk, w, [], fun _ => 0, w⟩ E' (initSt args blk nt) { tmps := vs ++ Array.replicate (nt - vs.size) undef, defers := [] } w := by
  have hA0 : hasArgs { E with nx := 0 } (args.map (mapAV cleanSV)) vs.toList := hasArgs_map (fun s v h => cleanSV_ok h) hA
  obtain ⟨E1, r1, n1, hA1⟩ := freshArgs_ok hA0
  have tm : ∀ {E2 : Env}, Ext E1 E2 → ∀ i, hasAV E2 (getT (numT 0 (freshArgs (args.map (mapAV cleanSV)) 0).1) i) ((vs ++ Array.replicate (nt - vs.size) undef).getD i undef) := fun {E2} hx i => by
    have hl : (freshArgs (args.map (mapAV cleanSV)) 0).1.length = vs.toList.length := hA1.length
    rw [Array.length_toList] at hl
    by_cases hi : i < vs.size
    · have h1 := hA1.get i (by show i < (freshArgs (args.map (mapAV cleanSV)) 0).1.length; omega)
      have e1 : getT (numT 0 (freshArgs (args.map (mapAV cleanSV)) 0).1) i = (freshArgs (args.map (mapAV cleanSV)) 0).1.getD i .any := by
        rw [numT_get, if_pos (Nat.zero_le _), Nat.sub_zero]
      have e2 : (vs ++ Array.replicate (nt - vs.size) undef).getD i undef = vs.toList.getD i undef := by
        rw [Array.getD_eq_getD_getElem?, Array.getElem?_append_left hi, List.getD_eq_getElem?_getD, Array.getElem?_toList]
      rw [e1, e2]
      exact h1.ext hx
    · have e1 : getT (numT 0 (freshArgs (args.map (mapAV cleanSV)) 0).1) i = .any := by
        rw [numT_get, if_pos (Nat.zero_le _), Nat.sub_zero, List.getD_eq_getElem?_getD, List.getElem?_eq_none (by omega)]
        rfl
      rw [e1]
      trivial
  have len : (vs ++ Array.replicate (nt - vs.size) undef).size = (freshArgs (args.map (mapAV cleanSV)) 0).1.length + (nt - (freshArgs (args.map (mapAV cleanSV)) 0).1.length) := by
    have hl : (freshArgs (args.map (mapAV cleanSV)) 0).1.length = vs.toList.length := hA1.length
    rw [Array.length_toList] at hl
    simp only [Array.size_append, Array.size_replicate, hl]
  have K1 : E1.K = E.K := r1.K
  have fr : Fr E.K (passed (E.β 0) blk) w E.K w := ⟨rfl, rfl, rfl, Nat.le_refl _, fun _ _ _ _ => rfl, fun _ _ => rfl⟩
  cases blk with
  | none =>
    refine ⟨E1, K1, rfl, len, n1, tm (Ext.refl E1), by rw [K1]; exact hK, by rw [K1]; exact fr, ⟨?_, fun b t cs hb => ?_, fun b c hb => ?_, fun g0 hg0 => ?_⟩, ⟨fun x y hxy => ?_, fun x y z hxy => by simp [initSt] at hxy⟩, fun b hb => (by cases hb)⟩
    · show E1.nb = 0
      rw [r1.nb]
      exact hB
    · simp [initSt] at hb
    · simp [initSt] at hb
    · cases hg0
    · simp [initSt] at hxy
  | some tc =>
    obtain ⟨t, cs⟩ := tc
    obtain ⟨b1, b2, us, b3, b4⟩ := hB
    have hL0 : hasL E1 (cs.map cleanSV) us.toList := (b4.map (fun s v h => cleanSV_ok h)).ext r1.ext
    obtain ⟨E2, r2, n2, hL2⟩ := freshL_ok hL0
    rw [n1] at n2 hL2
    have K2 : E2.K = E.K := r2.K.trans K1
    have e2b : E2.β 0 = E.β 0 := by rw [r2.β, r1.β]
    refine ⟨E2, K2, rfl, len, n2, tm r2.ext, by rw [K2]; exact hK, by rw [K2]; exact fr, ⟨?_, fun b t' cs' hb => ?_, fun b c hb hc _ => ?_, fun g0 hg0 => ?_⟩, ⟨fun x y hxy => ?_, fun x y z hxy => by simp [initSt] at hxy⟩, fun b hb => (by cases hb)⟩
    · show E2.nb = 1
      rw [r2.nb, r1.nb]
      exact b1
    · cases b with
      | succ b => simp [initSt] at hb
      | zero =>
        have e3 : (t, (freshL (cs.map cleanSV) (freshArgs (args.map (mapAV cleanSV)) 0).2).1) = (t', cs') := by simpa [initSt] using hb
        cases e3
        rw [e2b, K2]
        exact ⟨b2, .inr rfl, us, b3, hL2⟩
    · have hb' : b < 1 := hb
      have hc' : c < 1 := hc
      omega
    · cases hg0
      exact ⟨e2b, _, by simp only [initSt]; rfl⟩
    · simp [initSt] at hxy

def resAV (Γ : Kit) (S : St) : ResultVar → Option AV
  | .tmp t => some (S.eval (.tmp t))
  | .cell a t => match Γ.tab t, S.eval (.tmp a) with
    | some d, .one (.cell (.ptr b off)) => match S.bl[b]? with
      | some (_, cs) =>
        if d.agg = true then (if off + d.size ≤ cs.length then some (.one (.agg ((cs.drop off).take d.size))) else none)
        else (cs[off]?).map fun s => .one (.cell s)
      | none => none
    | _, _ => none
def resAll (Γ : Kit) (S : St) : List ResultVar → Option (List AV)
  | [] => some []
  | r :: rs => match resAV Γ S r, resAll Γ S rs with
    | some a, some as => some (a :: as)
    | _, _ => none
def toV1 : AV → V1
  | .one v => v
  | _ => .cell .any
theorem toV1_ok {E : Env} {av : AV} {v : Value} (h : hasAV E av v) : hasV1 E (toV1 av) v := by
  cases av with
  | one v => exact h
  | any => trivial
  | tup vs => trivial
theorem toV1s_ok {E : Env} : ∀ {ss : List AV} {vs : List Value}, hasArgs E ss vs → hasL1 E (ss.map toV1) vs
  | [], [], _ => trivial
  | [], _ :: _, hv => hv.elim
  | _ :: _, [], hv => hv.elim
  | _ :: _, _ :: _, hv => ⟨toV1_ok hv.1, toV1s_ok hv.2⟩
def outOf (Γ : Kit) (fn : Func) (S : St) : Option Out := match resAll Γ S fn.results.toList with
  | none => none
  | some rs => some { res := mapAV stripSV (match rs with | [x] => x | _ => .tup (rs.map toV1)), blk := match S.bl with | (_, cs) :: _ => cs.map stripSV | [] => [] }
def outsAll (Γ : Kit) (fn : Func) : List St → Option (List Out)
  | [] => some []
  | S :: r => match outOf Γ fn S, outsAll Γ fn r with
    | some o, some os => some (o :: os)
    | _, _ => none
theorem outsAll_mem {Γ : Kit} {fn : Func} : ∀ {L : List St} {os : List Out}, outsAll Γ fn L = some os → ∀ S ∈ L, ∃ o ∈ os, outOf Γ fn S = some o
  | [], os, _, S, hS => by simp at hS
  | S0 :: r, os, h, S, hS => by
    unfold outsAll at h
    cases h1 : outOf Γ fn S0 with
    | none => rw [h1] at h; cases h
    | some o => cases h2 : outsAll Γ fn r with
      | none => rw [h1, h2] at h; cases h
      | some os' =>
        rw [h1, h2] at h
        cases h
        rcases List.mem_cons.1 hS with rfl | hS
        · exact ⟨o, List.mem_cons_self, h1⟩
        · obtain ⟨o', h3, h4⟩ := outsAll_mem h2 S hS
          exact ⟨o', List.mem_cons_of_mem _ h3, h4⟩
def resTmp : ResultVar → Nat
  | .tmp t => t
  | .cell a _ => a
def St.proj (fn : Func) (S : St) : St := S.only (fn.results.toList.map resTmp)
theorem Good.proj {X : Ctx} {E : Env} {S : St} {a : Act} {w : World} (h : Good X E S a w) (fn : Func) : Good X E (S.proj fn) a w := h.only _
def resSem (tmps : Array Value) : ResultVar → Sem Value
  | .tmp t => pure (tmps.getD t undef)
  | .cell x t => do loadVar t (← asAddr (tmps.getD x undef))
theorem results_eq (fn : Func) (tmps : Array Value) : results fn tmps = (do
    let vs ← fn.results.mapM (resSem tmps)
    pure (if h : vs.size = 1 then vs[0] else .tuple vs)) := by
  unfold results
  congr 2
theorem resAll_ok {X : Ctx} {Γ : Kit} (hT : TabOK X.P Γ.tab) {E : Env} {S : St} {a : Act} {w : World} (h : Good X E S a w) : ∀ {rs : List ResultVar} {as : List AV}, resAll Γ S rs = some as →
    ∃ us, (rs.mapM (resSem a.tmps)).run X.P w = .ok us w ∧ hasArgs E as us
  | [], as, hr => by
    cases hr
    exact ⟨[], by simp, trivial⟩
  | r :: rs, as, hr => by
    unfold resAll at hr
    cases h1 : resAV Γ S r with
    | none => rw [h1] at hr; cases hr
    | some av => cases h2 : resAll Γ S rs with
      | none => rw [h1, h2] at hr; cases hr
      | some as' =>
        rw [h1, h2] at hr
        cases hr
        obtain ⟨us, h3, h4⟩ := resAll_ok hT h h2
        have hone : ∃ v, (resSem a.tmps r).run X.P w = .ok v w ∧ hasAV E av v := by
          cases r with
          | tmp t =>
            cases h1
            exact ⟨_, rfl, h.tmps t⟩
          | cell x t =>
            simp only [resAV] at h1
            have hx := h.tmps x
            split at h1
            · rename_i d b off hd heq
              have heq' : getT S.tmps x = .one (.cell (.ptr b off)) := heq
              rw [heq'] at hx
              obtain ⟨hbl, hpv⟩ := hx
              split at h1
              · rename_i t' cs hb
                obtain ⟨b1, b2, vs, b3, b4⟩ := h.blks.at_ b t' cs hb
                have hsz : vs.size = cs.length := by rw [b4.length, Array.length_toList]
                split at h1
                · rename_i hag
                  split at h1
                  · rename_i hle
                    cases h1
                    have hlc := run_loadCells_at (P := X.P) b3 (show off + d.size ≤ vs.size by omega)
                    refine ⟨.agg ((vs.toList.drop off).take d.size).toArray, ?_, ⟨_, rfl, (b4.drop _).take _⟩⟩
                    simp [resSem, hpv, asAddr, loadVar, hT.isAgg hd, hag, hT.size hd, hlc]
                  · cases h1
                · rename_i hag
                  cases hc : cs[off]? with
                  | none => rw [hc] at h1; cases h1
                  | some s =>
                    rw [hc] at h1
                    cases h1
                    obtain ⟨v, hv1, hv2⟩ := b4.get hc
                    refine ⟨v, ?_, hv2⟩
                    have hl := run_load_at (P := X.P) b3 (show vs[off]? = some v by simpa using hv1)
                    simp only [resSem, hpv, asAddr, loadVar, Sem.run_bind, Sem.run_pure, Result.andThen_ok, hT.isAgg hd, hag]
                    simp only [Bool.false_eq_true, if_false, hl]
              · cases h1
            · cases h1
        obtain ⟨v, h5, h6⟩ := hone
        refine ⟨v :: us, ?_, h6, h4⟩
        rw [List.mapM_cons]
        simp only [Sem.run_bind, h5, Result.andThen_ok, h3, Sem.run_pure]
def analyze (Γ : Kit) (fn : Func) (H : Hint) (fuel : Nat) (args : List AV) (blk : Option (TypeId × List SV)) : Option (List Out) :=
  match fn.body with
  | none => none
  | some c => match runCode Γ H fuel c (initSt args blk fn.ntmps) with
    | none => none
    | some R => match R.exits with
      | [] => outsAll Γ fn (mergeSt [] ((R.norm ++ R.rets).map (St.proj fn)))
      | _ => none
theorem analyze_ok {P : Program} {CP : (Nat → Option KT) → List Value → Prop} (cpm : ∀ (K K' : Nat → Option KT), (∀ g k, K g = some k → K' g = some k) → ∀ vs, CP K vs → CP K' vs) {Γ : Kit} (hT : TabOK P Γ.tab) (hS : SoundT P CP Γ.T) (hH : [] = Γ.hd) (hmix : P.follows .mixedOrders = true)
    {f : FuncId} {fn : Func} (hf : P.funcs[f]? = some fn) (hent : ∀ vs w, (callFunc f vs).run P w = .ok (.enter f vs) w) {H : Hint} {fuel : Nat} {args : List AV} {blk : Option (TypeId × List SV)} {outs : List Out}
    (hlp : ∀ c, fn.body = some c → ∀ X : Ctx, X.P = P → X.CP = CP → X.hd = [] → LpOK X H c) (h : analyze Γ fn H fuel args blk = some outs) : CallOK P CP f args blk outs := by
  refine ⟨hent, fun E w vs hA hK hB => ?_⟩
  unfold analyze at h
  split at h
  · cases h
  · rename_i c hc
    split at h
    · cases h
    · rename_i R hR
      split at h
      · rename_i hex
        obtain ⟨E0, hK0, hg⟩ := init_ok (P := P) (cpm := cpm) fn.ntmps hA hK hB
        refine calls_of_wp hf hc (wp_mono (runCode_ok (hX := rfl) (X := ⟨P, CP, cpm, E.K, passed (E.β 0) blk, typed blk, w, [], fun _ => 0, w⟩) ⟨hT, hS, hH⟩ hmix (hlp c hc _ rfl rfl rfl) hR hg) ?_)
        intro e a' w' hr
        have fin : GoodL ⟨P, CP, cpm, E.K, passed (E.β 0) blk, typed blk, w, [], fun _ => 0, w⟩ E0 (R.norm ++ R.rets) a' w' → a'.defers = [] ∧ ∃ v, (results fn a'.tmps).run P w' = .ok v w' ∧ ∃ v' K', Ending.returned v = .returned v' ∧ KInv CP K' w' ∧ Fr E.K (passed (E.β 0) blk) w K' w' ∧ ∃ o ∈ outs, hasAV (envK K') o.res v' ∧ BlkOut K' (E.β 0) w' o blk ∧ LtOut o vs.toList v' := by
          rintro ⟨S, hS', E1, r1, hg1⟩
          have hgl : GoodL ⟨P, CP, cpm, E.K, passed (E.β 0) blk, typed blk, w, [], fun _ => 0, w⟩ E0 (mergeSt [] ((R.norm ++ R.rets).map (St.proj fn))) a' w' := mergeSt_ok rfl (by
            show GoodL _ E0 ([] ++ (R.norm ++ R.rets).map (St.proj fn)) a' w'
            exact ⟨_, List.mem_map.2 ⟨S, hS', rfl⟩, E1, r1, hg1.proj fn⟩)
          obtain ⟨S2, hS2, E2, r2, hg2⟩ := hgl
          obtain ⟨o, ho, hoS⟩ := outsAll_mem h S2 hS2
          unfold outOf at hoS
          split at hoS
          · cases hoS
          · rename_i rs hrs
            cases hoS
            obtain ⟨us, h1, h2⟩ := resAll_ok hT hg2 hrs
            refine ⟨hg2.defers, ?_⟩
            have strip : ∀ s v, hasSV E2 s v → hasSV (envK E2.K) (stripSV s) v := fun s v hh => stripSV_ok (E := E2) (E' := envK E2.K) (fun _ _ hk => hk) hh
            have hrun : (results fn a'.tmps).run P w' = .ok (if hh : us.toArray.size = 1 then us.toArray[0] else .tuple us.toArray) w' := by
              rw [results_eq]
              simp only [Array.mapM_eq_mapM_toList, Sem.run_bind, Sem.run_map]
              rw [show (fn.results.toList.mapM (resSem a'.tmps)).run P w' = .ok us w' from h1]
              rfl
            refine ⟨_, hrun, _, E2.K, rfl, hg2.kinv, hg2.fr, _, ho, ?_, ?_, LtOut.no rfl _ _⟩
            · cases rs with
              | nil => cases us with
                | nil => exact ⟨#[], rfl, trivial⟩
                | cons _ _ => exact h2.elim
              | cons r rs => cases us with
                | nil => exact h2.elim
                | cons u us => cases rs with
                  | nil => cases us with
                    | nil =>
                      have h3 : hasAV E2 r u := h2.1
                      exact h3.map strip
                    | cons _ _ => exact h2.2.elim
                  | cons r2 rs => cases us with
                    | nil => exact h2.2.elim
                    | cons u2 us =>
                      have h3 : hasAV E2 (.tup ((r :: r2 :: rs).map toV1)) (.tuple (u :: u2 :: us).toArray) := ⟨_, rfl, toV1s_ok h2⟩
                      have e4 : (if hh : (u :: u2 :: us).toArray.size = 1 then (u :: u2 :: us).toArray[0] else Value.tuple (u :: u2 :: us).toArray) = Value.tuple (u :: u2 :: us).toArray := dif_neg (by simp)
                      rw [e4]
                      exact h3.map strip
            · cases blk with
              | none => trivial
              | some tc =>
                obtain ⟨t, cs⟩ := tc
                obtain ⟨g1, cs1, g2⟩ := hg2.blks.first (E.β 0) rfl
                obtain ⟨_, _, us1, g3, g4⟩ := hg2.blks.at_ 0 _ _ g2
                rw [g1] at g3
                refine ⟨us1, g3, ?_⟩
                cases hbl : S2.bl with
                | nil => rw [hbl] at g2; cases g2
                | cons x r =>
                  rw [hbl] at g2
                  obtain rfl : x = (t, cs1) := by simpa [typed] using g2
                  exact g4.map strip
        cases e with
        | normal => exact fin (GoodL.mono (fun S hS => List.mem_append_left _ hS) hr)
        | ret => exact fin (GoodL.mono (fun S hS => List.mem_append_right _ hS) hr)
        | exit id =>
          have hr' : GoodL _ E0 (exitsOf id R.exits) a' w' := hr
          rw [hex] at hr'
          obtain ⟨S, hS, _⟩ := hr'
          simp [exitsOf] at hS
        | _ => exact hr.elim
      · cases h
end Go.Proofs.Ytnoelppkcbelcaa.Ty

/-
Kits: functions reckoned anew at each call, functions whose answer is kept.
-/
set_option linter.unusedVariables false
set_option linter.unusedSimpArgs false
namespace Go.Proofs.Ytnoelppkcbelcaa.Ty
open Go Go.RowKit

def leArgs : List AV → List AV → Bool
  | [], [] => true
  | a :: r, b :: s => leAV 0 0 a b && leArgs r s
  | _, _ => false
theorem leArgs_ok {E E' : Env} (c : Cut E E' 0 0) : ∀ {as bs : List AV} {vs : List Value}, leArgs as bs = true → hasArgs E as vs → hasArgs E' bs vs
  | [], [], [], _, _ => trivial
  | [], [], _ :: _, _, h => h.elim
  | [], _ :: _, _, h, _ => by simp [leArgs] at h
  | _ :: _, [], _, h, _ => by simp [leArgs] at h
  | _ :: _, _ :: _, [], _, h => h.elim
  | a :: r, b :: s, v :: vs, h, hv => by
    simp only [leArgs, Bool.and_eq_true] at h
    exact ⟨leAV_ok c h.1 hv.1, leArgs_ok c h.2 hv.2⟩
structure KitOK (P : Program) (CP : (Nat → Option KT) → List Value → Prop) (Γ : Kit) : Prop where
  tab : TabOK P Γ.tab
  T : SoundT P CP Γ.T
  hd : [] = Γ.hd
def Kit.inl (Γ : Kit) (f : Nat) (fn : Func) (H : Hint) (fuel : Nat) : Kit := { Γ with T := fun g args blk => if g = f then analyze Γ fn H fuel args blk else Γ.T g args blk }
def Kit.ent (Γ : Kit) (f : Nat) (A : List AV) (outs : List Out) : Kit := { Γ with T := fun g args blk => if g = f ∧ blk.isNone = true ∧ leArgs args A = true then some outs else Γ.T g args blk }
/-- A draw below a bound: the result lies below the argument. -/
def belowT (f : Nat) (T : Oracle) : Oracle := fun g args blk =>
  if g = f ∧ blk.isNone = true then
    match args with
    | [a, .one (.cell (.int k lo hi sy))] => if leArgs [a, .one (.cell (.int k lo hi sy))] [.one (.cell .cur), .one (.cell (.int .i64 1 hi none))] = true then some [{ res := .one (.cell (.int .i64 0 (hi - 1) none)), blk := [], lt := some 1 }] else T g args blk
    | _ => T g args blk
  else T g args blk
def Kit.below (Γ : Kit) (f : Nat) : Kit := { Γ with T := belowT f Γ.T }
def covers (os : Option (List Out)) (lit : List Out) : Bool := match os with
  | some os => os.all fun o => lit.any fun q => leAV 0 0 o.res q.res && q.lt.isNone
  | none => false
section
variable {P : Program} {CP : (Nat → Option KT) → List Value → Prop} {Γ : Kit}
theorem KitOK.inl (cpm : ∀ (K K' : Nat → Option KT), (∀ g k, K g = some k → K' g = some k) → ∀ vs, CP K vs → CP K' vs) (hmix : P.follows .mixedOrders = true) (h : KitOK P CP Γ)
    {f : Nat} {fn : Func} (hf : P.funcs[f]? = some fn) (hent : ∀ vs w, (callFunc f vs).run P w = .ok (.enter f vs) w) (H : Hint) (fuel : Nat) (hlp : ∀ i, H.lp i = none) : KitOK P CP (Γ.inl f fn H fuel) := by
  refine ⟨h.tab, fun g args blk outs hg => ?_, h.hd⟩
  simp only [Kit.inl] at hg
  split at hg
  · rename_i e
    subst e
    exact analyze_ok cpm h.tab h.T h.hd hmix hf hent (fun c hc X _ _ _ id S0 R hh => by rw [hlp id] at hh; cases hh) hg
  · exact h.T _ _ _ _ hg
theorem KitOK.ent (h : KitOK P CP Γ) {f : Nat} {A : List AV} {outs : List Out} (hc : CallOK P CP f A none outs) : KitOK P CP (Γ.ent f A outs) := by
  refine ⟨h.tab, fun g args blk os hg => ?_, h.hd⟩
  simp only [Kit.ent] at hg
  split at hg
  · rename_i e
    obtain ⟨rfl, hb, hle⟩ := e
    cases hg
    cases blk with
    | some x => cases hb
    | none =>
      refine ⟨hc.1, fun E w vs hA hK hB => ?_⟩
      exact hc.2 { E with nx := 0, nb := 0 } w vs (leArgs_ok (E := E) (E' := { E with nx := 0, nb := 0 }) ⟨rfl, rfl, rfl, rfl, rfl⟩ hle hA) hK rfl
  · exact h.T _ _ _ _ hg
theorem KitOK.below (h : KitOK P CP Γ) {f : Nat} (hc : ∀ hi, CallOK P CP f [.one (.cell .cur), .one (.cell (.int .i64 1 hi none))] none [⟨.one (.cell (.int .i64 0 (hi - 1) none)), [], some 1⟩]) : KitOK P CP (Γ.below f) := by
  refine ⟨h.tab, fun g args blk os hg => ?_, h.hd⟩
  simp only [Kit.below, belowT] at hg
  split at hg
  · rename_i e
    obtain ⟨rfl, hb⟩ := e
    split at hg
    · rename_i a k lo hi sy
      split at hg
      · rename_i hle
        cases hg
        cases blk with
        | some x => cases hb
        | none =>
          refine ⟨(hc hi).1, fun E w vs hA hK hB => ?_⟩
          exact (hc hi).2 { E with nx := 0, nb := 0 } w vs (leArgs_ok (E := E) (E' := { E with nx := 0, nb := 0 }) ⟨rfl, rfl, rfl, rfl, rfl⟩ hle hA) hK rfl
      · exact h.T _ _ _ _ hg
    · exact h.T _ _ _ _ hg
  · exact h.T _ _ _ _ hg
theorem covers_ok {f : Nat} {args : List AV} {outs lit : List Out} (hc : CallOK P CP f args none outs) (h : covers (some outs) lit = true) : CallOK P CP f args none lit := by
  refine ⟨hc.1, fun E w vs hA hK hB => (hc.2 E w vs hA hK hB).mono ?_⟩
  rintro e w' ⟨v, K', rfl, k1, k2, o, ho, k3, k4, k5⟩
  simp only [covers, List.all_eq_true, List.any_eq_true, Bool.and_eq_true] at h
  obtain ⟨q, hq, hle, hlt⟩ := h o ho
  exact ⟨v, K', rfl, k1, k2, q, hq, leAV_ok (E := envK K') (E' := envK K') ⟨rfl, rfl, rfl, rfl, rfl⟩ hle k3, trivial, LtOut.no (by simpa using hlt) _ _⟩
theorem KitOK.call (cpm : ∀ (K K' : Nat → Option KT), (∀ g k, K g = some k → K' g = some k) → ∀ vs, CP K vs → CP K' vs) (hmix : P.follows .mixedOrders = true) (h : KitOK P CP Γ)
    {f : Nat} {fn : Func} (hf : P.funcs[f]? = some fn) (hent : ∀ vs w, (callFunc f vs).run P w = .ok (.enter f vs) w) {H : Hint} {fuel : Nat} {args : List AV} {lit : List Out}
    (hlp : ∀ c, fn.body = some c → ∀ X : Ctx, X.P = P → X.CP = CP → X.hd = [] → LpOK X H c) (hc : covers (analyze Γ fn H fuel args none) lit = true) : CallOK P CP f args none lit := by
  cases ha : analyze Γ fn H fuel args none with
  | none => rw [ha] at hc; cases hc
  | some outs =>
    rw [ha] at hc
    exact covers_ok (analyze_ok cpm h.tab h.T h.hd hmix hf hent hlp ha) hc
end
/-- No loop was gone through elsewhere. -/
theorem noLp {H : Hint} (h : ∀ i, H.lp i = none) {X : Ctx} {c : Code} : LpOK X H c := fun id S0 R hh => by rw [h id] at hh; cases hh
/-- A contract out of those of the parts of what the arguments may be. -/
theorem split_ok {P : Program} {CP : (Nat → Option KT) → List Value → Prop} {f : FuncId} {args : List AV} {outs : List Out} (L : List (List AV)) (hne : ∃ A, A ∈ L) (hL : ∀ (E : Env) vs, hasArgs E args vs → ∃ A ∈ L, hasArgs E A vs) (hc : ∀ A ∈ L, CallOK P CP f A none outs) : CallOK P CP f args none outs := by
  obtain ⟨A0, h0⟩ := hne
  refine ⟨(hc A0 h0).1, fun E w vs hA hK hB => ?_⟩
  obtain ⟨A, hA1, hA2⟩ := hL E vs.toList hA
  exact (hc A hA1).2 E w vs hA2 hK hB
/-- A row in a struct of one cell, told by parts of its length. -/
def parts (c : List CT) : List (Nat × Nat) → List AV
  | [] => []
  | (a, b) :: r => .one (.agg [.slice c a b none]) :: parts c r
def covered : Nat → Nat → List (Nat × Nat) → Bool
  | lo, hi, [] => decide (hi < lo)
  | lo, hi, (a, b) :: r => decide (a ≤ lo) && covered (b + 1) hi r
theorem parts_ok {E : Env} {c : List CT} {v : Value} {a : Option Addr} {l k : Nat} (h5 : l ≤ k) (h6 : a = none → k = 0) (h7 : ∀ ad, a = some ad → ad.spot = none ∧ ∃ n, E.K ad.block = some (.row c n) ∧ ad.off % c.length = 0 ∧ ad.off + k * c.length ≤ n) (hv : v = .agg #[.slice a l k]) : ∀ (L : List (Nat × Nat)) (lo hi : Nat), lo ≤ l → l ≤ hi → covered lo hi L = true → ∃ A ∈ parts c L, hasAV E A v
  | [], lo, hi, h1, h2, h => by
    simp only [covered, decide_eq_true_eq] at h
    omega
  | (x, y) :: r, lo, hi, h1, h2, h => by
    simp only [covered, Bool.and_eq_true, decide_eq_true_eq] at h
    by_cases hy : l ≤ y
    · exact ⟨_, List.mem_cons_self, _, hv, ⟨a, l, k, rfl, by omega, hy, h5, fun s hs => (by cases hs), h6, h7⟩, trivial⟩
    · obtain ⟨A, hA, hA2⟩ := parts_ok h5 h6 h7 hv r (y + 1) hi (by omega) h2 h.2
      exact ⟨A, List.mem_cons_of_mem _ hA, hA2⟩
theorem parts_row {E : Env} {c : List CT} {lo hi : Nat} {v : Value} (h : hasAV E (.one (.agg [.slice c lo hi none])) v) {L : List (Nat × Nat)} (hc : covered lo hi L = true) : ∃ A ∈ parts c L, hasAV E A v := by
  obtain ⟨vs, rfl, h1⟩ := h
  obtain ⟨vs⟩ := vs
  match vs, h1 with
  | [], h1 => exact h1.elim
  | [v], h1 =>
    obtain ⟨⟨a, l, k, rfl, h2, h3, h4, _, h6, h7⟩, _⟩ := h1
    exact parts_ok h4 h6 h7 rfl L lo hi h2 h3 hc
  | _ :: _ :: _, h1 => exact h1.2.elim
theorem args_mid {E : Env} {B : AV} : ∀ {pre : List AV} {post : List AV} {vs : List Value}, hasArgs E (pre ++ B :: post) vs → ∃ v, hasAV E B v ∧ ∀ A, hasAV E A v → hasArgs E (pre ++ A :: post) vs
  | [], _, [], h => h.elim
  | [], _, v :: _, h => ⟨v, h.1, fun A hA => ⟨hA, h.2⟩⟩
  | _ :: _, _, [], h => h.elim
  | p :: pre, post, v :: vs, h => by
    obtain ⟨u, h1, h2⟩ := args_mid (pre := pre) h.2
    exact ⟨u, h1, fun A hA => ⟨h.1, h2 A hA⟩⟩
def AllC (P : Program) (CP : (Nat → Option KT) → List Value → Prop) (f : FuncId) (pre post : List AV) (outs : List Out) : List AV → Prop
  | [] => True
  | A :: r => CallOK P CP f (pre ++ A :: post) none outs ∧ AllC P CP f pre post outs r
theorem AllC.mem {P : Program} {CP : (Nat → Option KT) → List Value → Prop} {f : FuncId} {pre post : List AV} {outs : List Out} : ∀ {L : List AV}, AllC P CP f pre post outs L → ∀ A ∈ L, CallOK P CP f (pre ++ A :: post) none outs
  | [], _, _, h => by cases h
  | B :: r, h, A, hA => by
    rcases List.mem_cons.1 hA with rfl | hA
    · exact h.1
    · exact h.2.mem A hA
theorem any_ok {P : Program} {CP : (Nat → Option KT) → List Value → Prop} {f : FuncId} {outs : List Out} (pre post : List AV) (c : List CT) (lo hi : Nat) (x : Nat × Nat) (L : List (Nat × Nat)) (hc : covered lo hi (x :: L) = true) (h : AllC P CP f pre post outs (parts c (x :: L))) : CallOK P CP f (pre ++ .one (.agg [.slice c lo hi none]) :: post) none outs := by
  refine split_ok ((parts c (x :: L)).map fun A => pre ++ A :: post) ⟨_, List.mem_map.2 ⟨_, List.mem_cons_self, rfl⟩⟩ (fun E vs hA => ?_) (fun A hA => ?_)
  · obtain ⟨v, h1, h2⟩ := args_mid hA
    obtain ⟨A, hA1, hA2⟩ := parts_row h1 hc
    exact ⟨_, List.mem_map.2 ⟨A, hA1, rfl⟩, h2 A hA2⟩
  · obtain ⟨B, hB, rfl⟩ := List.mem_map.1 hA
    exact h.mem B hB
def lookT {α : Type} : List (Nat × α) → Nat → Option α
  | [], _ => none
  | (i, d) :: r, t => if i = t then some d else lookT r t
theorem lookT_mem {α : Type} : ∀ {l : List (Nat × α)} {t : Nat} {d : α}, lookT l t = some d → (t, d) ∈ l
  | [], _, _, h => by cases h
  | (i, d0) :: r, t, d, h => by
    rw [lookT] at h
    split at h
    · rename_i e
      cases h
      rw [e]
      exact List.mem_cons_self
    · exact List.mem_cons_of_mem _ (lookT_mem h)
/-- The table is that of the program's types. -/
def tabs (P : Program) : List Nat → List (Nat × TD)
  | [] => []
  | t :: r => match mkTD P t with
    | some d => (t, d) :: tabs P r
    | none => tabs P r
theorem tabs_mem {P : Program} : ∀ {l : List Nat} {t : Nat} {d : TD}, (t, d) ∈ tabs P l → mkTD P t = some d
  | [], _, _, h => by cases h
  | t0 :: r, t, d, h => by
    rw [tabs] at h
    split at h
    · rename_i d0 e
      rcases List.mem_cons.1 h with hh | hh
      · cases hh
        exact e
      · exact tabs_mem hh
    · exact tabs_mem h
theorem tabs_ok {P : Program} {l : List Nat} {T : List (Nat × TD)} (h : T = tabs P l) : TabOK P (lookT T) := ⟨fun t d ht => by
  have h1 := lookT_mem ht
  rw [h] at h1
  exact tabs_mem h1⟩
end Go.Proofs.Ytnoelppkcbelcaa.Ty

/-
A function gone through from its middle on: behind a call that was walked by hand.
-/
set_option linter.unusedVariables false
set_option linter.unusedSimpArgs false
namespace Go.Proofs.Ytnoelppkcbelcaa.Ty
open Go Go.RowKit

def analyzeFrom (Γ : Kit) (fn : Func) (H : Hint) (fuel : Nat) (c : Code) (S : St) : Option (List Out) :=
  match runCode Γ H fuel c S with
  | none => none
  | some R => match R.exits with
    | [] => outsAll Γ fn (mergeSt [] ((R.norm ++ R.rets).map (St.proj fn)))
    | _ => none
/-- What is left of a call: a value of one of the forms, old memory as it was. -/
def Leaves (CP : (Nat → Option KT) → List Value → Prop) (K0 : Nat → Option KT) (w0 : World) (outs : List Out) (e : Ending) (w' : World) : Prop :=
  ∃ v K', e = .returned v ∧ KInv CP K' w' ∧ Fr K0 none w0 K' w' ∧ ∃ o ∈ outs, hasAV (envK K') o.res v
theorem from_ok {P : Program} {CP : (Nat → Option KT) → List Value → Prop} (cpm : ∀ (K K' : Nat → Option KT), (∀ g k, K g = some k → K' g = some k) → ∀ vs, CP K vs → CP K' vs) {Γ : Kit} (hk : KitOK P CP Γ) (hmix : P.follows .mixedOrders = true)
    {fn : Func} {c : Code} {H : Hint} {fuel : Nat} {S : St} {lit : List Out} (hlp : ∀ i, H.lp i = none) (hc : covers (analyzeFrom Γ fn H fuel c S) lit = true) {K0 : Nat → Option KT} {w0 : World} {E : Env} {a : Act} {w : World} (hg : Good ⟨P, CP, cpm, K0, none, 0, w0, [], fun _ => 0, w0⟩ E S a w) :
    c.wp P (bodyPost P fn (Leaves CP K0 w0 lit)) a w := by
  cases hcase : analyzeFrom Γ fn H fuel c S with
  | none => rw [hcase] at hc; cases hc
  | some outs =>
    rw [hcase] at hc
    have h := hcase
    unfold analyzeFrom at h
    split at h
    · cases h
    · rename_i R hR
      split at h
      · rename_i hex
        refine wp_mono (runCode_ok (hX := rfl) (X := ⟨P, CP, cpm, K0, none, 0, w0, [], fun _ => 0, w0⟩) ⟨hk.tab, hk.T, hk.hd⟩ hmix (noLp hlp) hR hg) ?_
        intro e a' w' hr
        have fin : GoodL ⟨P, CP, cpm, K0, none, 0, w0, [], fun _ => 0, w0⟩ E (R.norm ++ R.rets) a' w' → a'.defers = [] ∧ ∃ v, (results fn a'.tmps).run P w' = .ok v w' ∧ Leaves CP K0 w0 lit (.returned v) w' := by
          rintro ⟨S, hS', E1, r1, hg1⟩
          have hgl : GoodL ⟨P, CP, cpm, K0, none, 0, w0, [], fun _ => 0, w0⟩ E (mergeSt [] ((R.norm ++ R.rets).map (St.proj fn))) a' w' := mergeSt_ok rfl (by
            show GoodL _ E ([] ++ (R.norm ++ R.rets).map (St.proj fn)) a' w'
            exact ⟨_, List.mem_map.2 ⟨S, hS', rfl⟩, E1, r1, hg1.proj fn⟩)
          obtain ⟨S2, hS2, E2, r2, hg2⟩ := hgl
          obtain ⟨o, ho, hoS⟩ := outsAll_mem h S2 hS2
          unfold outOf at hoS
          split at hoS
          · cases hoS
          · rename_i rs hrs
            cases hoS
            obtain ⟨us, h1, h2⟩ := resAll_ok hk.tab hg2 hrs
            refine ⟨hg2.defers, ?_⟩
            have strip : ∀ s v, hasSV E2 s v → hasSV (envK E2.K) (stripSV s) v := fun s v hh => stripSV_ok (E := E2) (E' := envK E2.K) (fun _ _ hk => hk) hh
            have hrun : (results fn a'.tmps).run P w' = .ok (if hh : us.toArray.size = 1 then us.toArray[0] else .tuple us.toArray) w' := by
              rw [results_eq]
              simp only [Array.mapM_eq_mapM_toList, Sem.run_bind, Sem.run_map]
              rw [show (fn.results.toList.mapM (resSem a'.tmps)).run P w' = .ok us w' from h1]
              rfl
            simp only [covers, List.all_eq_true, List.any_eq_true, Bool.and_eq_true] at hc
            obtain ⟨q, hq, hle, _⟩ := hc _ ho
            refine ⟨_, hrun, _, E2.K, rfl, hg2.kinv, hg2.fr, q, hq, leAV_ok (E := envK E2.K) (E' := envK E2.K) ⟨rfl, rfl, rfl, rfl, rfl⟩ hle ?_⟩
            cases rs with
            | nil => cases us with
              | nil => exact ⟨#[], rfl, trivial⟩
              | cons _ _ => exact h2.elim
            | cons r rs => cases us with
              | nil => exact h2.elim
              | cons u us => cases rs with
                | nil => cases us with
                  | nil =>
                    have h3 : hasAV E2 r u := h2.1
                    exact h3.map strip
                  | cons _ _ => exact h2.2.elim
                | cons r2 rs => cases us with
                  | nil => exact h2.2.elim
                  | cons u2 us =>
                    have h3 : hasAV E2 (.tup ((r :: r2 :: rs).map toV1)) (.tuple (u :: u2 :: us).toArray) := ⟨_, rfl, toV1s_ok h2⟩
                    have e4 : (if hh : (u :: u2 :: us).toArray.size = 1 then (u :: u2 :: us).toArray[0] else Value.tuple (u :: u2 :: us).toArray) = Value.tuple (u :: u2 :: us).toArray := dif_neg (by simp)
                    rw [e4]
                    exact h3.map strip
        cases e with
        | normal => exact fin (GoodL.mono (fun S hS => List.mem_append_left _ hS) hr)
        | ret => exact fin (GoodL.mono (fun S hS => List.mem_append_right _ hS) hr)
        | exit id =>
          have hr' : GoodL _ E (exitsOf id R.exits) a' w' := hr
          rw [hex] at hr'
          obtain ⟨S, hS, _⟩ := hr'
          simp [exitsOf] at hS
        | _ => exact hr.elim
      · cases h
theorem leaves_post {P : Program} {fn : Func} {R R' : Ending → World → Prop} (hR : ∀ e w', R e w' → R' e w') (e : Exit) (a : Act) (w : World) (h : bodyPost P fn R e a w) : bodyPost P fn R' e a w := by
  cases e with
  | normal => exact ⟨h.1, h.2.choose, h.2.choose_spec.1, hR _ _ h.2.choose_spec.2⟩
  | ret => exact ⟨h.1, h.2.choose, h.2.choose_spec.1, hR _ _ h.2.choose_spec.2⟩
  | panic c => exact ⟨h.1, hR _ _ h.2⟩
  | outgrown => exact hR _ _ h
  | exit id => exact h
  | goto l => exact h
/-- One slot holds a cursor; of the others nothing is known. -/
theorem start_good {P : Program} {CP : (Nat → Option KT) → List Value → Prop} (cpm : ∀ (K K' : Nat → Option KT), (∀ g k, K g = some k → K' g = some k) → ∀ vs, CP K vs → CP K' vs) {K0 : Nat → Option KT} {w : World} (hK : KInv CP K0 w) {tmps : Array Value} {c nt g : Nat} (hs : tmps.size = nt) (hc : tmps.getD c undef = .pointer (some ⟨g, 0, none⟩)) (hg : K0 g = some .cur) :
    Good ⟨P, CP, cpm, K0, none, 0, w, [], fun _ => 0, w⟩ (envK K0) ⟨[(c, .one (.cell .cur))], nt, [], [], 0, []⟩ ⟨tmps, []⟩ w := by
  refine ⟨rfl, hs, rfl, fun i => ?_, hK, ⟨rfl, rfl, rfl, Nat.le_refl _, fun _ _ _ _ => rfl, fun _ _ => rfl⟩, ⟨rfl, fun b t cs hb => ?_, fun b c hb => ?_, fun g0 hg0 => ?_⟩, ⟨fun x y hxy => ?_, fun x y z hxy => by simp at hxy⟩, fun b hb => ?_⟩
  · show hasAV _ (if c = i then _ else _) _
    split
    · rename_i e
      subst e
      show hasAV _ _ (tmps.getD c undef)
      rw [hc]
      exact ⟨g, rfl, hg⟩
    · trivial
  · simp at hb
  · simp at hb
  · cases hg0
  · simp at hxy
  · cases hb
end Go.Proofs.Ytnoelppkcbelcaa.Ty
