/-
Abstract values and what they say of a value, of memory and of a call's own state.
-/
import Derived.RowKit
import Derived.Below
set_option linter.unusedVariables false
set_option linter.unusedSimpArgs false
namespace Go.Proofs.Ytnoelppkcbelcaa.Ty
open Go

/-- A cell of a row whose cells are told by their place alone. -/
inductive CT where
  | bool
  | int (k : IntKind) (lo hi : Int)
  | str
def CT.eqb : CT → CT → Bool
  | .bool, .bool => true
  | .str, .str => true
  | .int k a b, .int k' a' b' => decide (k = k') && (decide (a = a') && decide (b = b'))
  | _, _ => false
theorem CT.eqb_eq : ∀ {a b : CT}, a.eqb b = true → a = b := by
  intro a b h
  cases a <;> cases b <;> simp_all [CT.eqb]
def ctsEq : List CT → List CT → Bool
  | [], [] => true
  | a :: as, b :: bs => a.eqb b && ctsEq as bs
  | _, _ => false
theorem ctsEq_eq : ∀ {a b : List CT}, ctsEq a b = true → a = b
  | [], [], _ => rfl
  | [], _ :: _, h => by simp [ctsEq] at h
  | _ :: _, [], h => by simp [ctsEq] at h
  | a :: as, b :: bs, h => by
    simp only [ctsEq, Bool.and_eq_true] at h
    rw [CT.eqb_eq h.1, ctsEq_eq h.2]
inductive Fact where
  | le (s : Nat) (c : Int)
  | ge (s : Nat) (c : Int)
  | lt (s t : Nat)
/-- One cell's value. -/
inductive SV where
  | any
  | bool (t : Option Bool) (ft ff : List Fact)
  | int (k : IntKind) (lo hi : Int) (sy : Option (Nat × Int))
  | str
  | ptr (b off : Nat)
  | eptr (cts : List CT) (j : Nat)
  | cur
  | nils
  | slice (cts : List CT) (lo hi : Nat) (sy : Option Nat)
inductive V1 where
  | cell (s : SV)
  | agg (cs : List SV)
inductive AV where
  | any
  | one (v : V1)
  | tup (vs : List V1)
/-- What a block is, that is not a variable of the call's own. -/
inductive KT where
  | row (cts : List CT) (n : Nat)
  | cur
  | ro (o : Obj)
structure Env where
  σ : Nat → Int
  nx : Nat
  β : Nat → Nat
  nb : Nat
  K : Nat → Option KT
def hasCT : CT → Value → Prop
  | .bool, v => ∃ b, v = .bool b
  | .int k lo hi, v => ∃ n, v = .int k n ∧ lo ≤ n ∧ n ≤ hi
  | .str, v => ∃ s, v = .string s
def Fact.ok (E : Env) : Fact → Prop
  | .le s c => s < E.nx ∧ E.σ s ≤ c
  | .ge s c => s < E.nx ∧ c ≤ E.σ s
  | .lt s t => s < E.nx ∧ t < E.nx ∧ E.σ s < E.σ t
def hasSV (E : Env) : SV → Value → Prop
  | .any, _ => True
  | .bool t ft ff, v => ∃ b, v = .bool b ∧ (∀ c, t = some c → b = c) ∧ (b = true → ∀ f ∈ ft, f.ok E) ∧ (b = false → ∀ f ∈ ff, f.ok E)
  | .int k lo hi sy, v => ∃ n, v = .int k n ∧ lo ≤ n ∧ n ≤ hi ∧ ∀ s d, sy = some (s, d) → s < E.nx ∧ n = E.σ s + d
  | .str, v => ∃ s, v = .string s
  | .ptr b off, v => b < E.nb ∧ v = .pointer (some ⟨E.β b, off, none⟩)
  | .eptr cts j, v => ∃ g o n, v = .pointer (some ⟨g, o + j, none⟩) ∧ E.K g = some (.row cts n) ∧ o % cts.length = 0 ∧ o + cts.length ≤ n
  | .cur, v => ∃ g, v = .pointer (some ⟨g, 0, none⟩) ∧ E.K g = some .cur
  | .nils, v => v = .slice none 0 0
  | .slice cts lo hi sy, v => ∃ a l c, v = .slice a l c ∧ lo ≤ l ∧ l ≤ hi ∧ l ≤ c ∧ (∀ s, sy = some s → s < E.nx ∧ E.σ s = l) ∧ (a = none → c = 0) ∧
      ∀ ad, a = some ad → ad.spot = none ∧ ∃ n, E.K ad.block = some (.row cts n) ∧ ad.off % cts.length = 0 ∧ ad.off + c * cts.length ≤ n
def hasL (E : Env) : List SV → List Value → Prop
  | [], [] => True
  | s :: ss, v :: vs => hasSV E s v ∧ hasL E ss vs
  | _, _ => False
def hasV1 (E : Env) : V1 → Value → Prop
  | .cell s, v => hasSV E s v
  | .agg cs, v => ∃ vs, v = .agg vs ∧ hasL E cs vs.toList
def hasL1 (E : Env) : List V1 → List Value → Prop
  | [], [] => True
  | s :: ss, v :: vs => hasV1 E s v ∧ hasL1 E ss vs
  | _, _ => False
def hasAV (E : Env) : AV → Value → Prop
  | .any, _ => True
  | .one v, x => hasV1 E v x
  | .tup vs, x => ∃ us, x = .tuple us ∧ hasL1 E vs us.toList

/-- A later state of names: old ones stay as they are. -/
structure Ext (E E' : Env) : Prop where
  nx : E.nx ≤ E'.nx
  σ : ∀ s, s < E.nx → E'.σ s = E.σ s
  nb : E.nb ≤ E'.nb
  β : ∀ b, b < E.nb → E'.β b = E.β b
  K : ∀ g k, E.K g = some k → E'.K g = some k
theorem Ext.refl (E : Env) : Ext E E := ⟨Nat.le_refl _, fun _ _ => rfl, Nat.le_refl _, fun _ _ => rfl, fun _ _ h => h⟩
theorem Ext.trans {A B C : Env} (h : Ext A B) (k : Ext B C) : Ext A C :=
  ⟨Nat.le_trans h.nx k.nx, fun s hs => (k.σ s (Nat.lt_of_lt_of_le hs h.nx)).trans (h.σ s hs), Nat.le_trans h.nb k.nb, fun b hb => (k.β b (Nat.lt_of_lt_of_le hb h.nb)).trans (h.β b hb), fun g x hx => k.K g x (h.K g x hx)⟩
theorem Fact.ext {E E' : Env} (h : Ext E E') {f : Fact} (hf : f.ok E) : f.ok E' := by
  cases f with
  | le s c => exact ⟨Nat.lt_of_lt_of_le hf.1 h.nx, by rw [h.σ s hf.1]; exact hf.2⟩
  | ge s c => exact ⟨Nat.lt_of_lt_of_le hf.1 h.nx, by rw [h.σ s hf.1]; exact hf.2⟩
  | lt s t => exact ⟨Nat.lt_of_lt_of_le hf.1 h.nx, Nat.lt_of_lt_of_le hf.2.1 h.nx, by rw [h.σ s hf.1, h.σ t hf.2.1]; exact hf.2.2⟩
theorem hasSV.ext {E E' : Env} (h : Ext E E') {s : SV} {v : Value} (hv : hasSV E s v) : hasSV E' s v := by
  cases s with
  | any => trivial
  | bool t ft ff =>
    obtain ⟨b, rfl, h1, h2, h3⟩ := hv
    exact ⟨b, rfl, h1, fun hb f hf => Fact.ext h (h2 hb f hf), fun hb f hf => Fact.ext h (h3 hb f hf)⟩
  | int k lo hi sy =>
    obtain ⟨n, rfl, h1, h2, h3⟩ := hv
    exact ⟨n, rfl, h1, h2, fun s d hs => ⟨Nat.lt_of_lt_of_le (h3 s d hs).1 h.nx, by rw [h.σ s (h3 s d hs).1]; exact (h3 s d hs).2⟩⟩
  | str => exact hv
  | ptr b off => exact ⟨Nat.lt_of_lt_of_le hv.1 h.nb, by rw [h.β b hv.1]; exact hv.2⟩
  | eptr cts j =>
    obtain ⟨g, o, n, rfl, h1, h2⟩ := hv
    exact ⟨g, o, n, rfl, h.K g _ h1, h2⟩
  | cur =>
    obtain ⟨g, rfl, h1⟩ := hv
    exact ⟨g, rfl, h.K g _ h1⟩
  | nils => exact hv
  | slice cts lo hi sy =>
    obtain ⟨a, l, c, rfl, h1, h2, h3, h4, h5, h6⟩ := hv
    refine ⟨a, l, c, rfl, h1, h2, h3, fun s hs => ⟨Nat.lt_of_lt_of_le (h4 s hs).1 h.nx, by rw [h.σ s (h4 s hs).1]; exact (h4 s hs).2⟩, h5, fun ad had => ?_⟩
    obtain ⟨h7, n, h8, h9⟩ := h6 ad had
    exact ⟨h7, n, h.K _ _ h8, h9⟩
theorem hasL.ext {E E' : Env} (h : Ext E E') : ∀ {ss : List SV} {vs : List Value}, hasL E ss vs → hasL E' ss vs
  | [], [], _ => trivial
  | [], _ :: _, hv => hv.elim
  | _ :: _, [], hv => hv.elim
  | _ :: _, _ :: _, hv => ⟨hv.1.ext h, hasL.ext h hv.2⟩
theorem hasV1.ext {E E' : Env} (h : Ext E E') {s : V1} {v : Value} (hv : hasV1 E s v) : hasV1 E' s v := by
  cases s with
  | cell s => exact hasSV.ext h hv
  | agg cs => obtain ⟨vs, rfl, h1⟩ := hv; exact ⟨vs, rfl, h1.ext h⟩
theorem hasL1.ext {E E' : Env} (h : Ext E E') : ∀ {ss : List V1} {vs : List Value}, hasL1 E ss vs → hasL1 E' ss vs
  | [], [], _ => trivial
  | [], _ :: _, hv => hv.elim
  | _ :: _, [], hv => hv.elim
  | _ :: _, _ :: _, hv => ⟨hv.1.ext h, hasL1.ext h hv.2⟩
theorem hasAV.ext {E E' : Env} (h : Ext E E') {s : AV} {v : Value} (hv : hasAV E s v) : hasAV E' s v := by
  cases s with
  | any => trivial
  | one s => exact hasV1.ext h hv
  | tup vs => obtain ⟨us, rfl, h1⟩ := hv; exact ⟨us, rfl, h1.ext h⟩
theorem hasL.length {E : Env} : ∀ {ss : List SV} {vs : List Value}, hasL E ss vs → ss.length = vs.length
  | [], [], _ => rfl
  | [], _ :: _, hv => hv.elim
  | _ :: _, [], hv => hv.elim
  | _ :: _, _ :: _, hv => by rw [List.length_cons, List.length_cons, hasL.length hv.2]
theorem hasL.get {E : Env} : ∀ {ss : List SV} {vs : List Value}, hasL E ss vs → ∀ {i : Nat} {s : SV}, ss[i]? = some s → ∃ v, vs[i]? = some v ∧ hasSV E s v
  | [], _, _, i, s, h => by simp at h
  | _ :: _, [], hv, _, _, _ => hv.elim
  | s :: _, v :: _, hv, 0, s', h => by
    obtain rfl : s = s' := by simpa using h
    exact ⟨v, rfl, hv.1⟩
  | _ :: ss, _ :: vs, hv, i + 1, s', h => by
    simpa using hasL.get hv.2 (i := i) (by simpa using h)
theorem hasL.set {E : Env} : ∀ {ss : List SV} {vs : List Value}, hasL E ss vs → ∀ (i : Nat) {s : SV} {v : Value}, hasSV E s v → hasL E (ss.set i s) (vs.set i v)
  | [], [], _, _, _, _, _ => trivial
  | [], _ :: _, hv, _, _, _, _ => hv.elim
  | _ :: _, [], hv, _, _, _, _ => hv.elim
  | _ :: _, _ :: _, hv, 0, _, _, h => ⟨h, hv.2⟩
  | _ :: _, _ :: _, hv, i + 1, _, _, h => ⟨hv.1, hasL.set hv.2 i h⟩
theorem hasL.append {E : Env} : ∀ {s1 : List SV} {v1 : List Value} {s2 : List SV} {v2 : List Value}, hasL E s1 v1 → hasL E s2 v2 → hasL E (s1 ++ s2) (v1 ++ v2)
  | [], [], _, _, _, h => h
  | [], _ :: _, _, _, hv, _ => hv.elim
  | _ :: _, [], _, _, hv, _ => hv.elim
  | _ :: _, _ :: _, _, _, hv, h => ⟨hv.1, hasL.append hv.2 h⟩
theorem hasL.drop {E : Env} : ∀ {ss : List SV} {vs : List Value}, hasL E ss vs → ∀ n, hasL E (ss.drop n) (vs.drop n)
  | _, _, h, 0 => by simpa using h
  | [], [], _, n + 1 => trivial
  | [], _ :: _, hv, _ + 1 => hv.elim
  | _ :: _, [], hv, _ + 1 => hv.elim
  | _ :: _, _ :: _, hv, n + 1 => by simpa using hasL.drop hv.2 n
theorem hasL.take {E : Env} : ∀ {ss : List SV} {vs : List Value}, hasL E ss vs → ∀ n, hasL E (ss.take n) (vs.take n)
  | _, _, _, 0 => by simp; exact trivial
  | [], [], _, n + 1 => trivial
  | [], _ :: _, hv, _ + 1 => hv.elim
  | _ :: _, [], hv, _ + 1 => hv.elim
  | _ :: _, _ :: _, hv, n + 1 => by simpa using ⟨hv.1, hasL.take hv.2 n⟩
theorem hasL1.get {E : Env} : ∀ {ss : List V1} {vs : List Value}, hasL1 E ss vs → ∀ {i : Nat} {s : V1}, ss[i]? = some s → ∃ v, vs[i]? = some v ∧ hasV1 E s v
  | [], _, _, i, s, h => by simp at h
  | _ :: _, [], hv, _, _, _ => hv.elim
  | s :: _, v :: _, hv, 0, s', h => by
    obtain rfl : s = s' := by simpa using h
    exact ⟨v, rfl, hv.1⟩
  | _ :: ss, _ :: vs, hv, i + 1, s', h => by
    simpa using hasL1.get hv.2 (i := i) (by simpa using h)

/-- What is known of the blocks that are not the call's own variables. -/
structure KInv (CP : (Nat → Option KT) → List Value → Prop) (K : Nat → Option KT) (w : World) : Prop where
  rows : ∀ g cts n, K g = some (.row cts n) → ∃ cs t, w.heap[g]? = some (.cells cs t (0, 0)) ∧ cs.size = n ∧ 0 < cts.length ∧ n % cts.length = 0 ∧ ∀ i, i < n → ∃ c v, cts[i % cts.length]? = some c ∧ cs[i]? = some v ∧ hasCT c v
  curs : ∀ g, K g = some .cur → ∃ cs t, w.heap[g]? = some (.cells cs t (0, 0)) ∧ CP K (.int .i64 (t : Int) :: cs.toList)
  ros : ∀ g o, K g = some (.ro o) → w.heap[g]? = some o
theorem KInv.lt {CP : (Nat → Option KT) → List Value → Prop} {K : Nat → Option KT} {w : World} (h : KInv CP K w) {g : Nat} {k : KT} (hk : K g = some k) : g < w.heap.size := by
  have : ∃ o, w.heap[g]? = some o := by
    cases k with
    | row cts n => obtain ⟨cs, t, h1, _⟩ := h.rows g cts n hk; exact ⟨_, h1⟩
    | cur => obtain ⟨cs, t, h1, _⟩ := h.curs g hk; exact ⟨_, h1⟩
    | ro o => exact ⟨_, h.ros g o hk⟩
  obtain ⟨o, ho⟩ := this
  exact (Array.getElem?_eq_some_iff.1 ho).1
/-- What a call has left of old memory: all of it but what it was handed. -/
structure Fr (K0 : Nat → Option KT) (p : Option Nat) (w0 : World) (K : Nat → Option KT) (w : World) : Prop where
  os : w.os = w0.os
  tape : w.tape = w0.tape
  output : w.output = w0.output
  size : w0.heap.size ≤ w.heap.size
  kept : ∀ g, g < w0.heap.size → K0 g = none → p ≠ some g → w.heap[g]? = w0.heap[g]?
  kext : ∀ g, g < w0.heap.size → K g = K0 g
/-- The call's own variables. -/
structure Blks (p : Option Nat) (pt : TypeId) (n0 : Nat) (E : Env) (bl : List (TypeId × List SV)) (w : World) : Prop where
  nb : E.nb = bl.length
  at_ : ∀ b t cs, bl[b]? = some (t, cs) → E.K (E.β b) = none ∧ (n0 ≤ E.β b ∨ p = some (E.β b)) ∧ ∃ vs, w.heap[E.β b]? = some (.cells vs t (0, 0)) ∧ hasL E cs vs.toList
  inj : ∀ b c, b < bl.length → c < bl.length → E.β b = E.β c → b = c
  first : ∀ g, p = some g → E.β 0 = g ∧ ∃ cs, bl[0]? = some (pt, cs)
/-- Slots: the ones of which something is known. -/
def getT : List (Nat × AV) → Nat → AV
  | [], _ => .any
  | (j, v) :: r, i => if j = i then v else getT r i
def putT (nt : Nat) (l : List (Nat × AV)) (i : Nat) (v : AV) : List (Nat × AV) := if i < nt then (i, v) :: l else l
theorem getT_put {nt i j : Nat} (h : i ≠ j) (l : List (Nat × AV)) (v : AV) : getT (putT nt l i v) j = getT l j := by
  unfold putT
  split
  · rw [getT, if_neg h]
  · rfl
theorem getT_self {nt i : Nat} (h : i < nt) (l : List (Nat × AV)) (v : AV) : getT (putT nt l i v) i = v := by
  unfold putT
  rw [if_pos h, getT, if_pos rfl]
theorem getT_map (g : AV → AV) (hg : g .any = .any) : ∀ (l : List (Nat × AV)) (i : Nat), getT (l.map fun x => (x.1, g x.2)) i = g (getT l i)
  | [], _ => hg.symm
  | (j, v) :: r, i => by
    rw [List.map_cons, getT, getT]
    split
    · rfl
    · exact getT_map g hg r i
structure St where
  tmps : List (Nat × AV)
  nt : Nat
  bl : List (TypeId × List SV)
  lt : List (Nat × Nat)
  nx : Nat
structure Ctx where
  P : Program
  CP : (Nat → Option KT) → List Value → Prop
  cpm : ∀ (K K' : Nat → Option KT), (∀ g k, K g = some k → K' g = some k) → ∀ vs, CP K vs → CP K' vs
  K0 : Nat → Option KT
  p : Option Nat
  pt : TypeId
  w0 : World
  hd : List Nat
  hβ : Nat → Nat
  hw : World
structure Good (X : Ctx) (E : Env) (S : St) (a : Act) (w : World) : Prop where
  defers : a.defers = []
  len : a.tmps.size = S.nt
  nx : E.nx = S.nx
  tmps : ∀ i, hasAV E (getT S.tmps i) (a.tmps.getD i undef)
  kinv : KInv X.CP E.K w
  fr : Fr X.K0 X.p X.w0 E.K w
  blks : Blks X.p X.pt X.w0.heap.size E S.bl w
  lts : ∀ x y, (x, y) ∈ S.lt → x < E.nx ∧ y < E.nx ∧ E.σ x < E.σ y
  held : ∀ b ∈ X.hd, b < S.bl.length ∧ E.β b = X.hβ b ∧ w.heap[X.hβ b]? = X.hw.heap[X.hβ b]?

def St.setT (S : St) (i : Nat) (v : AV) : St := { S with tmps := putT S.nt S.tmps i v }
def St.put (S : St) : Option Nat → AV → St
  | none, _ => S
  | some d, v => S.setT d v
theorem Good.put {X : Ctx} {E : Env} {S : St} {a : Act} {w : World} (h : Good X E S a w) (dst : Option Nat) {av : AV} {v : Value} (hv : hasAV E av v) : Good X E (S.put dst av) (a.put dst v) w := by
  cases dst with
  | none => exact h
  | some d =>
    refine ⟨h.defers, by simpa [Act.put, St.put, St.setT] using h.len, h.nx, fun i => ?_, h.kinv, h.fr, h.blks, h.lts, h.held⟩
    have h1 := h.tmps i
    simp only [St.put, St.setT, Act.put]
    by_cases hd : d = i
    · subst hd
      by_cases hl : d < S.nt
      · have hl2 : d < a.tmps.size := by rw [h.len]; exact hl
        rw [getT_self hl]
        simpa [Array.getD_eq_getD_getElem?, Array.getElem?_setIfInBounds_self_of_lt hl2] using hv
      · have hl2 : ¬ d < a.tmps.size := by rw [h.len]; exact hl
        unfold putT
        rw [if_neg hl, Array.setIfInBounds_def, dif_neg hl2]
        exact h1
    · rw [getT_put hd]
      simpa [Array.getD_eq_getD_getElem?, Array.getElem?_setIfInBounds_ne hd] using h1
end Go.Proofs.Ytnoelppkcbelcaa.Ty
