/-
The interpreter, TyP.
-/
import Derived.RowKit
import Derived.Below
import Derived.Laws.Tables
import Derived.Laws.Slices
import Derived.Laws.Append
import Derived.Laws.IdiomCopy
/-
Abstract values and what they say of a value, of memory and of a call's own state.
-/
set_option linter.unusedVariables false
set_option linter.unusedSimpArgs false
namespace Go.Proofs.Ytnoelppkcbelcaa.Ty
open Go

/-- A cell of a row whose cells are told by their place alone. -/
inductive CT where
  | bool
  | int (k : IntKind) (lo hi : Int)
  | str
def CT.eqb : CT → CT → Bool
  | .bool, .bool => true
  | .str, .str => true
  | .int k a b, .int k' a' b' => decide (k = k') && (decide (a = a') && decide (b = b'))
  | _, _ => false
theorem CT.eqb_eq : ∀ {a b : CT}, a.eqb b = true → a = b := by
  intro a b h
  cases a <;> cases b <;> simp_all [CT.eqb]
def ctsEq : List CT → List CT → Bool
  | [], [] => true
  | a :: as, b :: bs => a.eqb b && ctsEq as bs
  | _, _ => false
theorem ctsEq_eq : ∀ {a b : List CT}, ctsEq a b = true → a = b
  | [], [], _ => rfl
  | [], _ :: _, h => by simp [ctsEq] at h
  | _ :: _, [], h => by simp [ctsEq] at h
  | a :: as, b :: bs, h => by
    simp only [ctsEq, Bool.and_eq_true] at h
    rw [CT.eqb_eq h.1, ctsEq_eq h.2]
inductive Fact where
  | le (s : Nat) (c : Int)
  | ge (s : Nat) (c : Int)
  | lt (s t : Nat)
/-- One cell's value. -/
inductive SV where
  | any
  | bool (t : Option Bool) (ft ff : List Fact)
  | int (k : IntKind) (lo hi : Int) (sy : Option (Nat × Int))
  | str
  | ptr (b off : Nat)
  | eptr (cts : List CT) (j : Nat)
  | cur
  | nils
  | slice (cts : List CT) (lo hi : Nat) (sy : Option Nat)
inductive V1 where
  | cell (s : SV)
  | agg (cs : List SV)
inductive AV where
  | any
  | one (v : V1)
  | tup (vs : List V1)
/-- What a block is, that is not a variable of the call's own. -/
inductive KT where
  | row (cts : List CT) (n : Nat)
  | cur
  | ro (o : Obj)
structure Env where
  σ : Nat → Int
  nx : Nat
  β : Nat → Nat
  nb : Nat
  K : Nat → Option KT
def hasCT : CT → Value → Prop
  | .bool, v => ∃ b, v = .bool b
  | .int k lo hi, v => ∃ n, v = .int k n ∧ lo ≤ n ∧ n ≤ hi
  | .str, v => ∃ s, v = .string s
def Fact.ok (E : Env) : Fact → Prop
  | .le s c => s < E.nx ∧ E.σ s ≤ c
  | .ge s c => s < E.nx ∧ c ≤ E.σ s
  | .lt s t => s < E.nx ∧ t < E.nx ∧ E.σ s < E.σ t
def hasSV (E : Env) : SV → Value → Prop
  | .any, _ => True
  | .bool t ft ff, v => ∃ b, v = .bool b ∧ (∀ c, t = some c → b = c) ∧ (b = true → ∀ f ∈ ft, f.ok E) ∧ (b = false → ∀ f ∈ ff, f.ok E)
  | .int k lo hi sy, v => ∃ n, v = .int k n ∧ lo ≤ n ∧ n ≤ hi ∧ ∀ s d, sy = some (s, d) → s < E.nx ∧ n = E.σ s + d
  | .str, v => ∃ s, v = .string s
  | .ptr b off, v => b < E.nb ∧ v = .pointer (some ⟨E.β b, off, none⟩)
  | .eptr cts j, v => ∃ g o n, v = .pointer (some ⟨g, o + j, none⟩) ∧ E.K g = some (.row cts n) ∧ o % cts.length = 0 ∧ o + cts.length ≤ n
  | .cur, v => ∃ g, v = .pointer (some ⟨g, 0, none⟩) ∧ E.K g = some .cur
  | .nils, v => v = .slice none 0 0
  | .slice cts lo hi sy, v => ∃ a l c, v = .slice a l c ∧ lo ≤ l ∧ l ≤ hi ∧ l ≤ c ∧ (∀ s, sy = some s → s < E.nx ∧ E.σ s = l) ∧ (a = none → c = 0) ∧
      ∀ ad, a = some ad → ad.spot = none ∧ ∃ n, E.K ad.block = some (.row cts n) ∧ ad.off % cts.length = 0 ∧ ad.off + c * cts.length ≤ n
def hasL (E : Env) : List SV → List Value → Prop
  | [], [] => True
  | s :: ss, v :: vs => hasSV E s v ∧ hasL E ss vs
  | _, _ => False
def hasV1 (E : Env) : V1 → Value → Prop
  | .cell s, v => hasSV E s v
  | .agg cs, v => ∃ vs, v = .agg vs ∧ hasL E cs vs.toList
def hasL1 (E : Env) : List V1 → List Value → Prop
  | [], [] => True
  | s :: ss, v :: vs => hasV1 E s v ∧ hasL1 E ss vs
  | _, _ => False
def hasAV (E : Env) : AV → Value → Prop
  | .any, _ => True
  | .one v, x => hasV1 E v x
  | .tup vs, x => ∃ us, x = .tuple us ∧ hasL1 E vs us.toList

/-- A later state of names: old ones stay as they are. -/
structure Ext (E E' : Env) : Prop where
  nx : E.nx ≤ E'.nx
  σ : ∀ s, s < E.nx → E'.σ s = E.σ s
  nb : E.nb ≤ E'.nb
  β : ∀ b, b < E.nb → E'.β b = E.β b
  K : ∀ g k, E.K g = some k → E'.K g = some k
theorem Ext.refl (E : Env) : Ext E E := ⟨Nat.le_refl _, fun _ _ => rfl, Nat.le_refl _, fun _ _ => rfl, fun _ _ h => h⟩
theorem Ext.trans {A B C : Env} (h : Ext A B) (k : Ext B C) : Ext A C :=
  ⟨Nat.le_trans h.nx k.nx, fun s hs => (k.σ s (Nat.lt_of_lt_of_le hs h.nx)).trans (h.σ s hs), Nat.le_trans h.nb k.nb, fun b hb => (k.β b (Nat.lt_of_lt_of_le hb h.nb)).trans (h.β b hb), fun g x hx => k.K g x (h.K g x hx)⟩
theorem Fact.ext {E E' : Env} (h : Ext E E') {f : Fact} (hf : f.ok E) : f.ok E' := by
  cases f with
  | le s c => exact ⟨Nat.lt_of_lt_of_le hf.1 h.nx, by rw [h.σ s hf.1]; exact hf.2⟩
  | ge s c => exact ⟨Nat.lt_of_lt_of_le hf.1 h.nx, by rw [h.σ s hf.1]; exact hf.2⟩
  | lt s t => exact ⟨Nat.lt_of_lt_of_le hf.1 h.nx, Nat.lt_of_lt_of_le hf.2.1 h.nx, by rw [h.σ s hf.1, h.σ t hf.2.1]; exact hf.2.2⟩
theorem hasSV.ext {E E' : Env} (h : Ext E E') {s : SV} {v : Value} (hv : hasSV E s v) : hasSV E' s v := by
  cases s with
  | any => trivial
  | bool t ft ff =>
    obtain ⟨b, rfl, h1, h2, h3⟩ := hv
    exact ⟨b, rfl, h1, fun hb f hf => Fact.ext h (h2 hb f hf), fun hb f hf => Fact.ext h (h3 hb f hf)⟩
  | int k lo hi sy =>
    obtain ⟨n, rfl, h1, h2, h3⟩ := hv
    exact ⟨n, rfl, h1, h2, fun s d hs => ⟨Nat.lt_of_lt_of_le (h3 s d hs).1 h.nx, by rw [h.σ s (h3 s d hs).1]; exact (h3 s d hs).2⟩⟩
  | str => exact hv
  | ptr b off => exact ⟨Nat.lt_of_lt_of_le hv.1 h.nb, by rw [h.β b hv.1]; exact hv.2⟩
  | eptr cts j =>
    obtain ⟨g, o, n, rfl, h1, h2⟩ := hv
    exact ⟨g, o, n, rfl, h.K g _ h1, h2⟩
  | cur =>
    obtain ⟨g, rfl, h1⟩ := hv
    exact ⟨g, rfl, h.K g _ h1⟩
  | nils => exact hv
  | slice cts lo hi sy =>
    obtain ⟨a, l, c, rfl, h1, h2, h3, h4, h5, h6⟩ := hv
    refine ⟨a, l, c, rfl, h1, h2, h3, fun s hs => ⟨Nat.lt_of_lt_of_le (h4 s hs).1 h.nx, by rw [h.σ s (h4 s hs).1]; exact (h4 s hs).2⟩, h5, fun ad had => ?_⟩
    obtain ⟨h7, n, h8, h9⟩ := h6 ad had
    exact ⟨h7, n, h.K _ _ h8, h9⟩
theorem hasL.ext {E E' : Env} (h : Ext E E') : ∀ {ss : List SV} {vs : List Value}, hasL E ss vs → hasL E' ss vs
  | [], [], _ => trivial
  | [], _ :: _, hv => hv.elim
  | _ :: _, [], hv => hv.elim
  | _ :: _, _ :: _, hv => ⟨hv.1.ext h, hasL.ext h hv.2⟩
theorem hasV1.ext {E E' : Env} (h : Ext E E') {s : V1} {v : Value} (hv : hasV1 E s v) : hasV1 E' s v := by
  cases s with
  | cell s => exact hasSV.ext h hv
  | agg cs => obtain ⟨vs, rfl, h1⟩ := hv; exact ⟨vs, rfl, h1.ext h⟩
theorem hasL1.ext {E E' : Env} (h : Ext E E') : ∀ {ss : List V1} {vs : List Value}, hasL1 E ss vs → hasL1 E' ss vs
  | [], [], _ => trivial
  | [], _ :: _, hv => hv.elim
  | _ :: _, [], hv => hv.elim
  | _ :: _, _ :: _, hv => ⟨hv.1.ext h, hasL1.ext h hv.2⟩
theorem hasAV.ext {E E' : Env} (h : Ext E E') {s : AV} {v : Value} (hv : hasAV E s v) : hasAV E' s v := by
  cases s with
  | any => trivial
  | one s => exact hasV1.ext h hv
  | tup vs => obtain ⟨us, rfl, h1⟩ := hv; exact ⟨us, rfl, h1.ext h⟩
theorem hasL.length {E : Env} : ∀ {ss : List SV} {vs : List Value}, hasL E ss vs → ss.length = vs.length
  | [], [], _ => rfl
  | [], _ :: _, hv => hv.elim
  | _ :: _, [], hv => hv.elim
  | _ :: _, _ :: _, hv => by rw [List.length_cons, List.length_cons, hasL.length hv.2]
theorem hasL.get {E : Env} : ∀ {ss : List SV} {vs : List Value}, hasL E ss vs → ∀ {i : Nat} {s : SV}, ss[i]? = some s → ∃ v, vs[i]? = some v ∧ hasSV E s v
  | [], _, _, i, s, h => by simp at h
  | _ :: _, [], hv, _, _, _ => hv.elim
  | s :: _, v :: _, hv, 0, s', h => by
    obtain rfl : s = s' := by simpa using h
    exact ⟨v, rfl, hv.1⟩
  | _ :: ss, _ :: vs, hv, i + 1, s', h => by
    simpa using hasL.get hv.2 (i := i) (by simpa using h)
theorem hasL.set {E : Env} : ∀ {ss : List SV} {vs : List Value}, hasL E ss vs → ∀ (i : Nat) {s : SV} {v : Value}, hasSV E s v → hasL E (ss.set i s) (vs.set i v)
  | [], [], _, _, _, _, _ => trivial
  | [], _ :: _, hv, _, _, _, _ => hv.elim
  | _ :: _, [], hv, _, _, _, _ => hv.elim
  | _ :: _, _ :: _, hv, 0, _, _, h => ⟨h, hv.2⟩
  | _ :: _, _ :: _, hv, i + 1, _, _, h => ⟨hv.1, hasL.set hv.2 i h⟩
theorem hasL.append {E : Env} : ∀ {s1 : List SV} {v1 : List Value} {s2 : List SV} {v2 : List Value}, hasL E s1 v1 → hasL E s2 v2 → hasL E (s1 ++ s2) (v1 ++ v2)
  | [], [], _, _, _, h => h
  | [], _ :: _, _, _, hv, _ => hv.elim
  | _ :: _, [], _, _, hv, _ => hv.elim
  | _ :: _, _ :: _, _, _, hv, h => ⟨hv.1, hasL.append hv.2 h⟩
theorem hasL.drop {E : Env} : ∀ {ss : List SV} {vs : List Value}, hasL E ss vs → ∀ n, hasL E (ss.drop n) (vs.drop n)
  | _, _, h, 0 => by simpa using h
  | [], [], _, n + 1 => trivial
  | [], _ :: _, hv, _ + 1 => hv.elim
  | _ :: _, [], hv, _ + 1 => hv.elim
  | _ :: _, _ :: _, hv, n + 1 => by simpa using hasL.drop hv.2 n
theorem hasL.take {E : Env} : ∀ {ss : List SV} {vs : List Value}, hasL E ss vs → ∀ n, hasL E (ss.take n) (vs.take n)
  | _, _, _, 0 => by simp; exact trivial
  | [], [], _, n + 1 => trivial
  | [], _ :: _, hv, _ + 1 => hv.elim
  | _ :: _, [], hv, _ + 1 => hv.elim
  | _ :: _, _ :: _, hv, n + 1 => by simpa using ⟨hv.1, hasL.take hv.2 n⟩
theorem hasL1.get {E : Env} : ∀ {ss : List V1} {vs : List Value}, hasL1 E ss vs → ∀ {i : Nat} {s : V1}, ss[i]? = some s → ∃ v, vs[i]? = some v ∧ hasV1 E s v
  | [], _, _, i, s, h => by simp at h
  | _ :: _, [], hv, _, _, _ => hv.elim
  | s :: _, v :: _, hv, 0, s', h => by
    obtain rfl : s = s' := by simpa using h
    exact ⟨v, rfl, hv.1⟩
  | _ :: ss, _ :: vs, hv, i + 1, s', h => by
    simpa using hasL1.get hv.2 (i := i) (by simpa using h)

/-- What is known of the blocks that are not the call's own variables. -/
structure KInv (CP : (Nat → Option KT) → List Value → Prop) (K : Nat → Option KT) (w : World) : Prop where
  rows : ∀ g cts n, K g = some (.row cts n) → ∃ cs t, w.heap[g]? = some (.cells cs t (0, 0)) ∧ cs.size = n ∧ 0 < cts.length ∧ n % cts.length = 0 ∧ ∀ i, i < n → ∃ c v, cts[i % cts.length]? = some c ∧ cs[i]? = some v ∧ hasCT c v
  curs : ∀ g, K g = some .cur → ∃ cs t, w.heap[g]? = some (.cells cs t (0, 0)) ∧ CP K (.int .i64 (t : Int) :: cs.toList)
  ros : ∀ g o, K g = some (.ro o) → w.heap[g]? = some o
theorem KInv.lt {CP : (Nat → Option KT) → List Value → Prop} {K : Nat → Option KT} {w : World} (h : KInv CP K w) {g : Nat} {k : KT} (hk : K g = some k) : g < w.heap.size := by
  have : ∃ o, w.heap[g]? = some o := by
    cases k with
    | row cts n => obtain ⟨cs, t, h1, _⟩ := h.rows g cts n hk; exact ⟨_, h1⟩
    | cur => obtain ⟨cs, t, h1, _⟩ := h.curs g hk; exact ⟨_, h1⟩
    | ro o => exact ⟨_, h.ros g o hk⟩
  obtain ⟨o, ho⟩ := this
  exact (Array.getElem?_eq_some_iff.1 ho).1
/-- What a call has left of old memory: all of it but what it was handed. -/
structure Fr (K0 : Nat → Option KT) (p : Option Nat) (w0 : World) (K : Nat → Option KT) (w : World) : Prop where
  os : w.os = w0.os
  tape : w.tape = w0.tape
  output : w.output = w0.output
  size : w0.heap.size ≤ w.heap.size
  kept : ∀ g, g < w0.heap.size → K0 g = none → p ≠ some g → w.heap[g]? = w0.heap[g]?
  kext : ∀ g, g < w0.heap.size → K g = K0 g
/-- The call's own variables. -/
structure Blks (p : Option Nat) (pt : TypeId) (n0 : Nat) (E : Env) (bl : List (TypeId × List SV)) (w : World) : Prop where
  nb : E.nb = bl.length
  at_ : ∀ b t cs, bl[b]? = some (t, cs) → E.K (E.β b) = none ∧ (n0 ≤ E.β b ∨ p = some (E.β b)) ∧ ∃ vs, w.heap[E.β b]? = some (.cells vs t (0, 0)) ∧ hasL E cs vs.toList
  inj : ∀ b c, b < bl.length → c < bl.length → E.β b = E.β c → b = c
  first : ∀ g, p = some g → E.β 0 = g ∧ ∃ cs, bl[0]? = some (pt, cs)
/-- Slots: the ones of which something is known. -/
def getT : List (Nat × AV) → Nat → AV
  | [], _ => .any
  | (j, v) :: r, i => if j = i then v else getT r i
def putT (nt : Nat) (l : List (Nat × AV)) (i : Nat) (v : AV) : List (Nat × AV) := if i < nt then (i, v) :: l else l
theorem getT_put {nt i j : Nat} (h : i ≠ j) (l : List (Nat × AV)) (v : AV) : getT (putT nt l i v) j = getT l j := by
  unfold putT
  split
  · rw [getT, if_neg h]
  · rfl
theorem getT_self {nt i : Nat} (h : i < nt) (l : List (Nat × AV)) (v : AV) : getT (putT nt l i v) i = v := by
  unfold putT
  rw [if_pos h, getT, if_pos rfl]
theorem getT_map (g : AV → AV) (hg : g .any = .any) : ∀ (l : List (Nat × AV)) (i : Nat), getT (l.map fun x => (x.1, g x.2)) i = g (getT l i)
  | [], _ => hg.symm
  | (j, v) :: r, i => by
    rw [List.map_cons, getT, getT]
    split
    · rfl
    · exact getT_map g hg r i
structure St where
  tmps : List (Nat × AV)
  nt : Nat
  bl : List (TypeId × List SV)
  lt : List (Nat × Nat)
  nx : Nat
  sm : List (Nat × Nat × Nat) := []
/-- What is known between names: one below another; a sum of two not above a third. -/
def LtsOK (E : Env) (S : St) : Prop := (∀ x y, (x, y) ∈ S.lt → x < E.nx ∧ y < E.nx ∧ E.σ x < E.σ y) ∧ ∀ x y z, (x, y, z) ∈ S.sm → x < E.nx ∧ y < E.nx ∧ z < E.nx ∧ E.σ x + E.σ y ≤ E.σ z
structure Ctx where
  P : Program
  CP : (Nat → Option KT) → List Value → Prop
  cpm : ∀ (K K' : Nat → Option KT), (∀ g k, K g = some k → K' g = some k) → ∀ vs, CP K vs → CP K' vs
  K0 : Nat → Option KT
  p : Option Nat
  pt : TypeId
  w0 : World
  hd : List Nat
  hβ : Nat → Nat
  hw : World
structure Good (X : Ctx) (E : Env) (S : St) (a : Act) (w : World) : Prop where
  defers : a.defers = []
  len : a.tmps.size = S.nt
  nx : E.nx = S.nx
  tmps : ∀ i, hasAV E (getT S.tmps i) (a.tmps.getD i undef)
  kinv : KInv X.CP E.K w
  fr : Fr X.K0 X.p X.w0 E.K w
  blks : Blks X.p X.pt X.w0.heap.size E S.bl w
  lts : LtsOK E S
  held : ∀ b ∈ X.hd, b < S.bl.length ∧ E.β b = X.hβ b ∧ w.heap[X.hβ b]? = X.hw.heap[X.hβ b]?

def St.setT (S : St) (i : Nat) (v : AV) : St := { S with tmps := putT S.nt S.tmps i v }
def St.put (S : St) : Option Nat → AV → St
  | none, _ => S
  | some d, v => S.setT d v
theorem Good.put {X : Ctx} {E : Env} {S : St} {a : Act} {w : World} (h : Good X E S a w) (dst : Option Nat) {av : AV} {v : Value} (hv : hasAV E av v) : Good X E (S.put dst av) (a.put dst v) w := by
  cases dst with
  | none => exact h
  | some d =>
    refine ⟨h.defers, by simpa [Act.put, St.put, St.setT] using h.len, h.nx, fun i => ?_, h.kinv, h.fr, h.blks, h.lts, h.held⟩
    have h1 := h.tmps i
    simp only [St.put, St.setT, Act.put]
    by_cases hd : d = i
    · subst hd
      by_cases hl : d < S.nt
      · have hl2 : d < a.tmps.size := by rw [h.len]; exact hl
        rw [getT_self hl]
        simpa [Array.getD_eq_getD_getElem?, Array.getElem?_setIfInBounds_self_of_lt hl2] using hv
      · have hl2 : ¬ d < a.tmps.size := by rw [h.len]; exact hl
        unfold putT
        rw [if_neg hl, Array.setIfInBounds_def, dif_neg hl2]
        exact h1
    · rw [getT_put hd]
      simpa [Array.getD_eq_getD_getElem?, Array.getElem?_setIfInBounds_ne hd] using h1
end Go.Proofs.Ytnoelppkcbelcaa.Ty

/-
Fresh names, what a test tells, and when one abstract state holds another.
-/
set_option linter.unusedVariables false
set_option linter.unusedSimpArgs false
namespace Go.Proofs.Ytnoelppkcbelcaa.Ty
open Go

/-- A later state in which only names have come. -/
structure Ren (E E' : Env) : Prop where
  ext : Ext E E'
  K : E'.K = E.K
  β : E'.β = E.β
  nb : E'.nb = E.nb
theorem Ren.refl (E : Env) : Ren E E := ⟨Ext.refl E, rfl, rfl, rfl⟩
theorem Ren.trans {A B C : Env} (h : Ren A B) (k : Ren B C) : Ren A C := ⟨h.ext.trans k.ext, k.K.trans h.K, k.β.trans h.β, k.nb.trans h.nb⟩
def Env.bump (E : Env) (x : Int) : Env := { E with σ := fun s => if s = E.nx then x else E.σ s, nx := E.nx + 1 }
theorem Ren.bump (E : Env) (x : Int) : Ren E (E.bump x) :=
  ⟨⟨Nat.le_succ _, fun s hs => if_neg (Nat.ne_of_lt hs), Nat.le_refl _, fun _ _ => rfl, fun _ _ h => h⟩, rfl, rfl, rfl⟩
theorem Blks.ren {p : Option Nat} {pt : TypeId} {n0 : Nat} {E E' : Env} {bl : List (TypeId × List SV)} {w : World} (h : Blks p pt n0 E bl w) (r : Ren E E') : Blks p pt n0 E' bl w :=
  ⟨r.nb.trans h.nb, fun b t cs hb => by
    obtain ⟨h1, h2, vs, h3, h4⟩ := h.at_ b t cs hb
    rw [r.β, r.K]
    exact ⟨h1, h2, vs, h3, h4.ext r.ext⟩, fun b c hb hc he => h.inj b c hb hc (by rw [r.β] at he; exact he), fun g hg => by rw [r.β]; exact h.first g hg⟩
theorem Good.ren {X : Ctx} {E E' : Env} {S : St} {a : Act} {w : World} (h : Good X E S a w) (r : Ren E E') : Good X E' { S with nx := E'.nx } a w :=
  ⟨h.defers, h.len, rfl, fun i => (h.tmps i).ext r.ext, by rw [r.K]; exact h.kinv, by rw [r.K]; exact h.fr, h.blks.ren r, ⟨fun x y hxy => by
    obtain ⟨h1, h2, h3⟩ := h.lts.1 x y hxy
    exact ⟨Nat.lt_of_lt_of_le h1 r.ext.nx, Nat.lt_of_lt_of_le h2 r.ext.nx, by rw [r.ext.σ x h1, r.ext.σ y h2]; exact h3⟩, fun x y z hxy => by
    obtain ⟨h1, h2, h3, h4⟩ := h.lts.2 x y z hxy
    exact ⟨Nat.lt_of_lt_of_le h1 r.ext.nx, Nat.lt_of_lt_of_le h2 r.ext.nx, Nat.lt_of_lt_of_le h3 r.ext.nx, by rw [r.ext.σ x h1, r.ext.σ y h2, r.ext.σ z h3]; exact h4⟩⟩, fun b hb => by rw [r.β]; exact h.held b hb⟩

def freshSV : SV → Nat → SV × Nat
  | .int k lo hi none, n => (.int k lo hi (some (n, 0)), n + 1)
  | .slice cts lo hi none, n => (.slice cts lo hi (some n), n + 1)
  | s, n => (s, n)
def freshL : List SV → Nat → List SV × Nat
  | [], n => ([], n)
  | s :: ss, n => match freshSV s n with
    | (s', n') => match freshL ss n' with
      | (ss', n'') => (s' :: ss', n'')
def freshV1 : V1 → Nat → V1 × Nat
  | .cell s, n => match freshSV s n with | (s', n') => (.cell s', n')
  | .agg cs, n => match freshL cs n with | (cs', n') => (.agg cs', n')
def freshL1 : List V1 → Nat → List V1 × Nat
  | [], n => ([], n)
  | s :: ss, n => match freshV1 s n with
    | (s', n') => match freshL1 ss n' with
      | (ss', n'') => (s' :: ss', n'')
def freshAV : AV → Nat → AV × Nat
  | .any, n => (.any, n)
  | .one v, n => match freshV1 v n with | (v', n') => (.one v', n')
  | .tup vs, n => match freshL1 vs n with | (vs', n') => (.tup vs', n')
theorem freshSV_ok {E : Env} {s : SV} {v : Value} (h : hasSV E s v) : ∃ E', Ren E E' ∧ E'.nx = (freshSV s E.nx).2 ∧ hasSV E' (freshSV s E.nx).1 v := by
  cases s with
  | int k lo hi sy =>
    cases sy with
    | none =>
      obtain ⟨n, rfl, h1, h2, _⟩ := h
      refine ⟨E.bump n, Ren.bump E n, rfl, n, rfl, h1, h2, fun s d hs => ?_⟩
      cases hs
      exact ⟨Nat.lt_succ_self _, by simp [Env.bump]⟩
    | some x => exact ⟨E, Ren.refl E, rfl, h⟩
  | slice cts lo hi sy =>
    cases sy with
    | none =>
      obtain ⟨a, l, c, rfl, h1, h2, h3, _, h5, h6⟩ := h
      refine ⟨E.bump l, Ren.bump E l, rfl, a, l, c, rfl, h1, h2, h3, fun s hs => ?_, h5, h6⟩
      cases hs
      exact ⟨Nat.lt_succ_self _, by simp [Env.bump]⟩
    | some x => exact ⟨E, Ren.refl E, rfl, h⟩
  | any => exact ⟨E, Ren.refl E, rfl, h⟩
  | bool t ft ff => exact ⟨E, Ren.refl E, rfl, h⟩
  | str => exact ⟨E, Ren.refl E, rfl, h⟩
  | ptr b off => exact ⟨E, Ren.refl E, rfl, h⟩
  | eptr cts j => exact ⟨E, Ren.refl E, rfl, h⟩
  | cur => exact ⟨E, Ren.refl E, rfl, h⟩
  | nils => exact ⟨E, Ren.refl E, rfl, h⟩
theorem freshL_ok : ∀ {ss : List SV} {E : Env} {vs : List Value}, hasL E ss vs → ∃ E', Ren E E' ∧ E'.nx = (freshL ss E.nx).2 ∧ hasL E' (freshL ss E.nx).1 vs
  | [], E, [], h => ⟨E, Ren.refl E, rfl, trivial⟩
  | [], _, _ :: _, h => h.elim
  | _ :: _, _, [], h => h.elim
  | s :: ss, E, v :: vs, h => by
    obtain ⟨E1, r1, n1, h1⟩ := freshSV_ok h.1
    obtain ⟨E2, r2, n2, h2⟩ := freshL_ok (ss := ss) (h.2.ext r1.ext)
    rw [n1] at n2 h2
    exact ⟨E2, r1.trans r2, n2, h1.ext r2.ext, h2⟩
theorem freshV1_ok {E : Env} {s : V1} {v : Value} (h : hasV1 E s v) : ∃ E', Ren E E' ∧ E'.nx = (freshV1 s E.nx).2 ∧ hasV1 E' (freshV1 s E.nx).1 v := by
  cases s with
  | cell s => exact freshSV_ok (s := s) h
  | agg cs =>
    obtain ⟨vs, rfl, h1⟩ := h
    obtain ⟨E', r, n, h2⟩ := freshL_ok h1
    exact ⟨E', r, n, vs, rfl, h2⟩
theorem freshL1_ok : ∀ {ss : List V1} {E : Env} {vs : List Value}, hasL1 E ss vs → ∃ E', Ren E E' ∧ E'.nx = (freshL1 ss E.nx).2 ∧ hasL1 E' (freshL1 ss E.nx).1 vs
  | [], E, [], h => ⟨E, Ren.refl E, rfl, trivial⟩
  | [], _, _ :: _, h => h.elim
  | _ :: _, _, [], h => h.elim
  | s :: ss, E, v :: vs, h => by
    obtain ⟨E1, r1, n1, h1⟩ := freshV1_ok h.1
    obtain ⟨E2, r2, n2, h2⟩ := freshL1_ok (ss := ss) (h.2.ext r1.ext)
    rw [n1] at n2 h2
    exact ⟨E2, r1.trans r2, n2, h1.ext r2.ext, h2⟩
theorem freshAV_ok {E : Env} {s : AV} {v : Value} (h : hasAV E s v) : ∃ E', Ren E E' ∧ E'.nx = (freshAV s E.nx).2 ∧ hasAV E' (freshAV s E.nx).1 v := by
  cases s with
  | any => exact ⟨E, Ren.refl E, rfl, trivial⟩
  | one s => exact freshV1_ok (s := s) h
  | tup vs =>
    obtain ⟨us, rfl, h1⟩ := h
    obtain ⟨E', r, n, h2⟩ := freshL1_ok h1
    exact ⟨E', r, n, us, rfl, h2⟩
/-- A result into its slot, under names of its own. -/
def St.putF (S : St) (dst : Option Nat) (av : AV) : St := match freshAV av S.nx with
  | (av', n) => { S with nx := n }.put dst av'
theorem Good.putF {X : Ctx} {E : Env} {S : St} {a : Act} {w : World} (h : Good X E S a w) (dst : Option Nat) {av : AV} {v : Value} (hv : hasAV E av v) :
    ∃ E', Ren E E' ∧ Good X E' (S.putF dst av) (a.put dst v) w := by
  obtain ⟨E', r, n, h1⟩ := freshAV_ok hv
  refine ⟨E', r, ?_⟩
  rw [h.nx] at n h1
  have h2 := (h.ren r).put dst h1
  rw [n] at h2
  exact h2

/-- What a fact says of a cell. -/
def refine1 (f : Fact) : SV → SV
  | .int k lo hi (some (s, d)) => match f with
    | .le t c => if s = t then .int k lo (if c + d < hi then c + d else hi) (some (s, d)) else .int k lo hi (some (s, d))
    | .ge t c => if s = t then .int k (if lo < c + d then c + d else lo) hi (some (s, d)) else .int k lo hi (some (s, d))
    | .lt _ _ => .int k lo hi (some (s, d))
  | .slice cts lo hi (some s) => match f with
    | .le t c => if s = t then .slice cts lo (if c.toNat < hi then c.toNat else hi) (some s) else .slice cts lo hi (some s)
    | .ge t c => if s = t then .slice cts (if lo < c.toNat then c.toNat else lo) hi (some s) else .slice cts lo hi (some s)
    | .lt _ _ => .slice cts lo hi (some s)
  | s => s
theorem refine1_ok {E : Env} {f : Fact} (hf : f.ok E) {s : SV} {v : Value} (h : hasSV E s v) : hasSV E (refine1 f s) v := by
  cases s with
  | int k lo hi sy =>
    cases sy with
    | none => exact h
    | some x =>
      obtain ⟨s, d⟩ := x
      obtain ⟨n, rfl, h1, h2, h3⟩ := h
      obtain ⟨h4, h5⟩ := h3 s d rfl
      cases f with
      | le t c =>
        simp only [refine1]
        by_cases hst : s = t
        · subst hst
          rw [if_pos rfl]
          have h6 := hf.2
          refine ⟨n, rfl, h1, ?_, h3⟩
          by_cases hc : c + d < hi
          · rw [if_pos hc]; omega
          · rw [if_neg hc]; exact h2
        · rw [if_neg hst]; exact ⟨n, rfl, h1, h2, h3⟩
      | ge t c =>
        simp only [refine1]
        by_cases hst : s = t
        · subst hst
          rw [if_pos rfl]
          have h6 := hf.2
          refine ⟨n, rfl, ?_, h2, h3⟩
          by_cases hc : lo < c + d
          · rw [if_pos hc]; omega
          · rw [if_neg hc]; exact h1
        · rw [if_neg hst]; exact ⟨n, rfl, h1, h2, h3⟩
      | lt x y => exact ⟨n, rfl, h1, h2, h3⟩
  | slice cts lo hi sy =>
    cases sy with
    | none => exact h
    | some s =>
      obtain ⟨a, l, c', rfl, h1, h2, h3, h4, h5, h6⟩ := h
      obtain ⟨h7, h8⟩ := h4 s rfl
      cases f with
      | le t c =>
        simp only [refine1]
        by_cases hst : s = t
        · subst hst
          rw [if_pos rfl]
          have h9 := hf.2
          refine ⟨a, l, c', rfl, h1, ?_, h3, h4, h5, h6⟩
          by_cases hc : c.toNat < hi
          · rw [if_pos hc]; omega
          · rw [if_neg hc]; exact h2
        · rw [if_neg hst]; exact ⟨a, l, c', rfl, h1, h2, h3, h4, h5, h6⟩
      | ge t c =>
        simp only [refine1]
        by_cases hst : s = t
        · subst hst
          rw [if_pos rfl]
          have h9 := hf.2
          refine ⟨a, l, c', rfl, ?_, h2, h3, h4, h5, h6⟩
          by_cases hc : lo < c.toNat
          · rw [if_pos hc]; omega
          · rw [if_neg hc]; exact h1
        · rw [if_neg hst]; exact ⟨a, l, c', rfl, h1, h2, h3, h4, h5, h6⟩
      | lt x y => exact ⟨a, l, c', rfl, h1, h2, h3, h4, h5, h6⟩
  | any => exact h
  | bool t ft ff => exact h
  | str => exact h
  | ptr b off => exact h
  | eptr cts j => exact h
  | cur => exact h
  | nils => exact h
def mapV1 (g : SV → SV) : V1 → V1
  | .cell s => .cell (g s)
  | .agg cs => .agg (cs.map g)
def mapAV (g : SV → SV) : AV → AV
  | .any => .any
  | .one v => .one (mapV1 g v)
  | .tup vs => .tup (vs.map (mapV1 g))
theorem hasL.map {E E' : Env} {g : SV → SV} (hg : ∀ s v, hasSV E s v → hasSV E' (g s) v) : ∀ {ss : List SV} {vs : List Value}, hasL E ss vs → hasL E' (ss.map g) vs
  | [], [], _ => trivial
  | [], _ :: _, h => h.elim
  | _ :: _, [], h => h.elim
  | _ :: _, _ :: _, h => ⟨hg _ _ h.1, hasL.map hg h.2⟩
theorem hasV1.map {E E' : Env} {g : SV → SV} (hg : ∀ s v, hasSV E s v → hasSV E' (g s) v) {s : V1} {v : Value} (h : hasV1 E s v) : hasV1 E' (mapV1 g s) v := by
  cases s with
  | cell s => exact hg _ _ h
  | agg cs => obtain ⟨vs, rfl, h1⟩ := h; exact ⟨vs, rfl, h1.map hg⟩
theorem hasL1.map {E E' : Env} {g : SV → SV} (hg : ∀ s v, hasSV E s v → hasSV E' (g s) v) : ∀ {ss : List V1} {vs : List Value}, hasL1 E ss vs → hasL1 E' (ss.map (mapV1 g)) vs
  | [], [], _ => trivial
  | [], _ :: _, h => h.elim
  | _ :: _, [], h => h.elim
  | _ :: _, _ :: _, h => ⟨h.1.map hg, hasL1.map hg h.2⟩
theorem hasAV.map {E E' : Env} {g : SV → SV} (hg : ∀ s v, hasSV E s v → hasSV E' (g s) v) {s : AV} {v : Value} (h : hasAV E s v) : hasAV E' (mapAV g s) v := by
  cases s with
  | any => trivial
  | one s => exact hasV1.map hg h
  | tup vs => obtain ⟨us, rfl, h1⟩ := h; exact ⟨us, rfl, h1.map hg⟩
def St.map (g : SV → SV) (S : St) : St := { S with tmps := S.tmps.map fun x => (x.1, mapAV g x.2), bl := S.bl.map fun (t, cs) => (t, cs.map g) }
theorem Good.map {X : Ctx} {E : Env} {S : St} {a : Act} {w : World} (h : Good X E S a w) {g : SV → SV} (hg : ∀ s v, hasSV E s v → hasSV E (g s) v) : Good X E (S.map g) a w := by
  refine ⟨h.defers, by simpa [St.map] using h.len, h.nx, fun i => ?_, h.kinv, h.fr, ⟨by simpa [St.map] using h.blks.nb, fun b t cs hb => ?_, fun b c hb hc he => ?_, fun g0 hg0 => ?_⟩, h.lts, fun b hb => by simpa [St.map] using h.held b hb⟩
  · have h1 := h.tmps i
    have e : getT (S.map g).tmps i = mapAV g (getT S.tmps i) := getT_map (mapAV g) rfl S.tmps i
    rw [e]
    exact h1.map hg
  · simp only [St.map, List.getElem?_map] at hb
    cases hx : S.bl[b]? with
    | none => rw [hx] at hb; cases hb
    | some x =>
      obtain ⟨t', cs'⟩ := x
      rw [hx] at hb
      cases hb
      obtain ⟨h1, h2, vs, h3, h4⟩ := h.blks.at_ b _ _ hx
      exact ⟨h1, h2, vs, h3, h4.map hg⟩
  · simp only [St.map, List.length_map] at hb hc
    exact h.blks.inj b c hb hc he
  · obtain ⟨h1, cs, h2⟩ := h.blks.first g0 hg0
    exact ⟨h1, cs.map g, by simp only [St.map, List.getElem?_map, h2]; rfl⟩
def refineL : List Fact → SV → SV
  | [], s => s
  | f :: fs, s => refineL fs (refine1 f s)
theorem refineL_ok {E : Env} : ∀ {fs : List Fact}, (∀ f ∈ fs, f.ok E) → ∀ {s : SV} {v : Value}, hasSV E s v → hasSV E (refineL fs s) v
  | [], _, _, _, h => h
  | f :: fs, hf, _, _, h => refineL_ok (fs := fs) (fun g hg => hf g (List.mem_cons_of_mem _ hg)) (refine1_ok (hf f List.mem_cons_self) h)
/-- Only named cells are looked at. -/
def refineN (fs : List Fact) : SV → SV
  | .int k lo hi (some x) => refineL fs (.int k lo hi (some x))
  | .slice c lo hi (some x) => refineL fs (.slice c lo hi (some x))
  | s => s
theorem refineN_ok {E : Env} {fs : List Fact} (hf : ∀ f ∈ fs, f.ok E) {s : SV} {v : Value} (h : hasSV E s v) : hasSV E (refineN fs s) v := by
  unfold refineN
  split
  · exact refineL_ok hf h
  · exact refineL_ok hf h
  · exact h
def boundsOf : List Fact → List Fact
  | [] => []
  | .lt _ _ :: r => boundsOf r
  | f :: r => f :: boundsOf r
def ltsOf : List Fact → List (Nat × Nat)
  | [] => []
  | .lt x y :: r => (x, y) :: ltsOf r
  | _ :: r => ltsOf r
theorem boundsOf_mem : ∀ {fs : List Fact} {f : Fact}, f ∈ boundsOf fs → f ∈ fs
  | [], _, h => h
  | .lt _ _ :: r, f, h => List.mem_cons_of_mem _ (boundsOf_mem (fs := r) h)
  | .le s c :: r, f, h => by
    rcases List.mem_cons.1 h with h1 | h1
    · rw [h1]; exact List.mem_cons_self
    · exact List.mem_cons_of_mem _ (boundsOf_mem (fs := r) h1)
  | .ge s c :: r, f, h => by
    rcases List.mem_cons.1 h with h1 | h1
    · rw [h1]; exact List.mem_cons_self
    · exact List.mem_cons_of_mem _ (boundsOf_mem (fs := r) h1)
theorem ltsOf_mem : ∀ {fs : List Fact} {x y : Nat}, (x, y) ∈ ltsOf fs → Fact.lt x y ∈ fs
  | [], _, _, h => by cases h
  | .lt a b :: r, x, y, h => by
    rcases List.mem_cons.1 h with h1 | h1
    · cases h1; exact List.mem_cons_self
    · exact List.mem_cons_of_mem _ (ltsOf_mem (fs := r) h1)
  | .le s c :: r, x, y, h => List.mem_cons_of_mem _ (ltsOf_mem (fs := r) h)
  | .ge s c :: r, x, y, h => List.mem_cons_of_mem _ (ltsOf_mem (fs := r) h)
def St.assume (S : St) (fs : List Fact) : St := match boundsOf fs with
  | [] => { S with lt := ltsOf fs ++ S.lt }
  | bs => ({ S with lt := ltsOf fs ++ S.lt } : St).map (refineN bs)
theorem Good.assume {X : Ctx} {E : Env} {a : Act} {w : World} {fs : List Fact} {S : St} (h : Good X E S a w) (hf : ∀ f ∈ fs, f.ok E) : Good X E (S.assume fs) a w := by
  have h1 : Good X E { S with lt := ltsOf fs ++ S.lt } a w := ⟨h.defers, h.len, h.nx, h.tmps, h.kinv, h.fr, h.blks, ⟨fun s t hst => by
    rcases List.mem_append.1 hst with h2 | h2
    · exact hf _ (ltsOf_mem h2)
    · exact h.lts.1 s t h2, h.lts.2⟩, h.held⟩
  unfold St.assume
  split
  · exact h1
  · exact h1.map fun _ _ h2 => refineN_ok (fun f hf' => hf f (boundsOf_mem hf')) h2
/-- A cell that no value is. -/
def SV.bad : SV → Bool
  | .int _ lo hi _ => decide (hi < lo)
  | .slice _ lo hi _ => decide (hi < lo)
  | _ => false
theorem SV.bad_no {E : Env} {s : SV} {v : Value} (h : hasSV E s v) : s.bad = false := by
  cases s with
  | int k lo hi sy => obtain ⟨n, rfl, h1, h2, _⟩ := h; simp only [SV.bad]; exact decide_eq_false (by omega)
  | slice cts lo hi sy => obtain ⟨a, l, c, rfl, h1, h2, _⟩ := h; simp only [SV.bad]; exact decide_eq_false (by omega)
  | _ => rfl
def AV.bad : AV → Bool
  | .one (.cell s) => s.bad
  | _ => false
theorem AV.bad_no {E : Env} {s : AV} {v : Value} (h : hasAV E s v) : s.bad = false := by
  cases s with
  | any => rfl
  | tup vs => rfl
  | one s => cases s with
    | cell s => exact SV.bad_no (s := s) h
    | agg cs => rfl
def St.bad (S : St) : Bool := S.tmps.any fun x => (getT S.tmps x.1).bad
theorem Good.not_bad {X : Ctx} {E : Env} {S : St} {a : Act} {w : World} (h : Good X E S a w) : S.bad = false := by
  unfold St.bad
  rw [List.any_eq_false]
  intro x _
  rw [AV.bad_no (h.tmps x.1)]
  simp
end Go.Proofs.Ytnoelppkcbelcaa.Ty

/-
When one abstract state holds another; joining states that part.
-/
set_option linter.unusedVariables false
set_option linter.unusedSimpArgs false
namespace Go.Proofs.Ytnoelppkcbelcaa.Ty
open Go

def symEq : Option (Nat × Int) → Option (Nat × Int) → Bool
  | some (a, b), some (c, d) => decide (a = c) && decide (b = d)
  | none, none => true
  | _, _ => false
theorem symEq_eq : ∀ {x y : Option (Nat × Int)}, symEq x y = true → x = y := by
  intro x y h
  cases x <;> cases y <;> simp_all [symEq]
  rename_i a b
  obtain ⟨a1, a2⟩ := a
  obtain ⟨b1, b2⟩ := b
  simp_all [symEq]
def natEq : Option Nat → Option Nat → Bool
  | some a, some b => decide (a = b)
  | none, none => true
  | _, _ => false
theorem natEq_eq : ∀ {x y : Option Nat}, natEq x y = true → x = y := by
  intro x y h
  cases x <;> cases y <;> simp_all [natEq]
def boolLe : Option Bool → Option Bool → Bool
  | _, none => true
  | some a, some b => a == b
  | none, some _ => false
def symLt (q : Nat) : Option (Nat × Int) → Bool
  | some (s, _) => decide (s < q)
  | none => true
def natLt (q : Nat) : Option Nat → Bool
  | some s => decide (s < q)
  | none => true
/-- The second holds the first, where m blocks and q names are left. -/
def leSV (m q : Nat) : SV → SV → Bool
  | _, .any => true
  | .bool t _ _, .bool t' [] [] => boolLe t t'
  | .int k lo hi sy, .int k' lo' hi' sy' => decide (k = k') && (decide (lo' ≤ lo) && (decide (hi ≤ hi') && (symEq sy' none || (symEq sy sy' && symLt q sy'))))
  | .str, .str => true
  | .ptr b o, .ptr b' o' => decide (b = b') && (decide (o = o') && decide (b < m))
  | .eptr c j, .eptr c' j' => ctsEq c c' && decide (j = j')
  | .cur, .cur => true
  | .nils, .nils => true
  | .nils, .slice _ lo _ sy => decide (lo = 0) && natEq sy none
  | .slice c lo hi sy, .slice c' lo' hi' sy' => ctsEq c c' && (decide (lo' ≤ lo) && (decide (hi ≤ hi') && (natEq sy' none || (natEq sy sy' && natLt q sy'))))
  | _, _ => false
/-- The names' later state in which the blocks from m on are forgotten. -/
structure Cut (E E' : Env) (m q : Nat) : Prop where
  nx : E'.nx = q
  σ : E'.σ = E.σ
  β : E'.β = E.β
  K : E'.K = E.K
  nb : E'.nb = m
theorem leSV_ok {E E' : Env} {m q : Nat} (c : Cut E E' m q) {a b : SV} (h : leSV m q a b = true) {v : Value} (hv : hasSV E a v) : hasSV E' b v := by
  cases b with
  | any => trivial
  | bool t' ft' ff' =>
    cases a with
    | bool t ft ff =>
      cases ft' with
      | cons _ _ => simp [leSV] at h
      | nil =>
        cases ff' with
        | cons _ _ => simp [leSV] at h
        | nil =>
          obtain ⟨x, rfl, h1, _, _⟩ := hv
          refine ⟨x, rfl, fun c' hc => ?_, fun _ f hf => absurd hf (by simp), fun _ f hf => absurd hf (by simp)⟩
          subst hc
          simp only [leSV] at h
          cases t with
          | none => simp [boolLe] at h
          | some t => simp [boolLe] at h; rw [h1 t rfl, h]
    | _ => simp [leSV] at h
  | int k' lo' hi' sy' =>
    cases a with
    | int k lo hi sy =>
      simp only [leSV, Bool.and_eq_true, Bool.or_eq_true, decide_eq_true_eq] at h
      obtain ⟨rfl, h1, h2, h3⟩ := h
      obtain ⟨n, rfl, h4, h5, h6⟩ := hv
      refine ⟨n, rfl, by omega, by omega, fun s d hs => ?_⟩
      rcases h3 with h3 | h3
      · rw [symEq_eq h3] at hs; cases hs
      · obtain ⟨h3, h9⟩ := h3
        subst hs
        rw [← symEq_eq h3] at h9
        obtain ⟨h7, h8⟩ := h6 s d (symEq_eq h3)
        exact ⟨by rw [c.nx]; rw [symEq_eq h3] at h9; simpa [symLt] using h9, by rw [c.σ]; exact h8⟩
    | _ => simp [leSV] at h
  | str => cases a <;> first | exact hv | simp [leSV] at h
  | ptr b' o' =>
    cases a with
    | ptr b o =>
      simp only [leSV, Bool.and_eq_true, decide_eq_true_eq] at h
      obtain ⟨rfl, rfl, h1⟩ := h
      exact ⟨by rw [c.nb]; exact h1, by rw [c.β]; exact hv.2⟩
    | _ => simp [leSV] at h
  | eptr c' j' =>
    cases a with
    | eptr cc j =>
      simp only [leSV, Bool.and_eq_true, decide_eq_true_eq] at h
      obtain ⟨h1, rfl⟩ := h
      obtain rfl := ctsEq_eq h1
      obtain ⟨g, o, n, rfl, h2⟩ := hv
      exact ⟨g, o, n, rfl, by rw [c.K]; exact h2⟩
    | _ => simp [leSV] at h
  | cur =>
    cases a with
    | cur => obtain ⟨g, rfl, h1⟩ := hv; exact ⟨g, rfl, by rw [c.K]; exact h1⟩
    | _ => simp [leSV] at h
  | nils => cases a <;> first | exact hv | simp [leSV] at h
  | slice c' lo' hi' sy' =>
    cases a with
    | nils =>
      simp only [leSV, Bool.and_eq_true, decide_eq_true_eq] at h
      obtain ⟨rfl, h2⟩ := h
      obtain rfl := natEq_eq h2
      have : v = .slice none 0 0 := hv
      subst this
      exact ⟨none, 0, 0, rfl, Nat.le_refl _, Nat.zero_le _, Nat.le_refl _, fun s hs => (by cases hs), fun _ => rfl, fun ad had => (by cases had)⟩
    | slice cc lo hi sy =>
      simp only [leSV, Bool.and_eq_true, Bool.or_eq_true, decide_eq_true_eq] at h
      obtain ⟨h0, h1, h2, h3⟩ := h
      obtain rfl := ctsEq_eq h0
      obtain ⟨a, l, k, rfl, h4, h5, h6, h7, h8, h9⟩ := hv
      refine ⟨a, l, k, rfl, by omega, by omega, h6, fun s hs => ?_, h8, fun ad had => by rw [c.K]; exact h9 ad had⟩
      rcases h3 with h3 | h3
      · rw [natEq_eq h3] at hs; cases hs
      · obtain ⟨h3, h12⟩ := h3
        subst hs
        obtain ⟨h10, h11⟩ := h7 s (natEq_eq h3)
        exact ⟨by rw [c.nx]; simpa [natLt] using h12, by rw [c.σ]; exact h11⟩
    | _ => simp [leSV] at h
def leL (m q : Nat) : List SV → List SV → Bool
  | [], [] => true
  | a :: as, b :: bs => leSV m q a b && leL m q as bs
  | _, _ => false
theorem leL_ok {E E' : Env} {m q : Nat} (c : Cut E E' m q) : ∀ {a b : List SV}, leL m q a b = true → ∀ {v : List Value}, hasL E a v → hasL E' b v
  | [], [], _, [], _ => trivial
  | [], [], _, _ :: _, h => h.elim
  | [], _ :: _, h, _, _ => by simp [leL] at h
  | _ :: _, [], h, _, _ => by simp [leL] at h
  | _ :: _, _ :: _, _, [], h => h.elim
  | a :: as, b :: bs, h, v :: vs, hv => by
    simp only [leL, Bool.and_eq_true] at h
    exact ⟨leSV_ok c h.1 hv.1, leL_ok c h.2 hv.2⟩
def leV1 (m q : Nat) : V1 → V1 → Bool
  | .cell a, .cell b => leSV m q a b
  | .agg a, .agg b => leL m q a b
  | .agg _, .cell .any => true
  | _, _ => false
theorem leV1_ok {E E' : Env} {m q : Nat} (c : Cut E E' m q) {a b : V1} (h : leV1 m q a b = true) {v : Value} (hv : hasV1 E a v) : hasV1 E' b v := by
  cases a with
  | cell a => cases b with
    | cell b => exact leSV_ok c h (v := v) hv
    | agg b => simp [leV1] at h
  | agg a => cases b with
    | cell b => cases b <;> first | trivial | simp [leV1] at h
    | agg b => obtain ⟨vs, rfl, h1⟩ := hv; exact ⟨vs, rfl, leL_ok c h h1⟩
def leL1 (m q : Nat) : List V1 → List V1 → Bool
  | [], [] => true
  | a :: as, b :: bs => leV1 m q a b && leL1 m q as bs
  | _, _ => false
theorem leL1_ok {E E' : Env} {m q : Nat} (c : Cut E E' m q) : ∀ {a b : List V1}, leL1 m q a b = true → ∀ {v : List Value}, hasL1 E a v → hasL1 E' b v
  | [], [], _, [], _ => trivial
  | [], [], _, _ :: _, h => h.elim
  | [], _ :: _, h, _, _ => by simp [leL1] at h
  | _ :: _, [], h, _, _ => by simp [leL1] at h
  | _ :: _, _ :: _, _, [], h => h.elim
  | a :: as, b :: bs, h, v :: vs, hv => by
    simp only [leL1, Bool.and_eq_true] at h
    exact ⟨leV1_ok c h.1 hv.1, leL1_ok c h.2 hv.2⟩
def leAV (m q : Nat) : AV → AV → Bool
  | _, .any => true
  | .one a, .one b => leV1 m q a b
  | .tup a, .tup b => leL1 m q a b
  | _, _ => false
theorem leAV_ok {E E' : Env} {m q : Nat} (c : Cut E E' m q) {a b : AV} (h : leAV m q a b = true) {v : Value} (hv : hasAV E a v) : hasAV E' b v := by
  cases b with
  | any => trivial
  | one b => cases a with
    | one a => exact leV1_ok c h (v := v) hv
    | _ => simp [leAV] at h
  | tup b => cases a with
    | tup a => obtain ⟨us, rfl, h1⟩ := hv; exact ⟨us, rfl, leL1_ok c h h1⟩
    | _ => simp [leAV] at h
def leT (m q : Nat) (l : List (Nat × AV)) : List (Nat × AV) → Bool
  | [] => true
  | (i, b) :: r => leAV m q (getT l i) b && leT m q l r
theorem leT_get {m q : Nat} {l : List (Nat × AV)} : ∀ {r : List (Nat × AV)}, leT m q l r = true → ∀ i, leAV m q (getT l i) (getT r i) = true
  | [], _, i => by unfold getT; cases getT l i <;> rfl
  | (j, b) :: r, h, i => by
    simp only [leT, Bool.and_eq_true] at h
    rw [show getT ((j, b) :: r) i = if j = i then b else getT r i from rfl]
    split
    · rename_i hj
      subst hj
      exact h.1
    · exact leT_get h.2 i
def leB (m q : Nat) : List (TypeId × List SV) → List (TypeId × List SV) → Bool
  | _, [] => true
  | (t, a) :: as, (u, b) :: bs => decide (t = u) && (leL m q a b && leB m q as bs)
  | [], _ :: _ => false
theorem leB_length {m q : Nat} : ∀ {a b : List (TypeId × List SV)}, leB m q a b = true → b.length ≤ a.length
  | _, [], _ => Nat.zero_le _
  | [], _ :: _, h => by simp [leB] at h
  | a :: as, b :: bs, h => by
    simp only [leB, Bool.and_eq_true] at h
    simpa using leB_length h.2.2
theorem leB_get {m q : Nat} : ∀ {a b : List (TypeId × List SV)}, leB m q a b = true → ∀ {i : Nat} {t : TypeId} {cs : List SV}, b[i]? = some (t, cs) → ∃ cs', a[i]? = some (t, cs') ∧ leL m q cs' cs = true
  | _, [], _, i, _, _, h => by simp at h
  | [], _ :: _, h, _, _, _, _ => by simp [leB] at h
  | (t', a) :: as, (u, b) :: bs, h, 0, t, cs, hi => by
    simp only [leB, Bool.and_eq_true, decide_eq_true_eq] at h
    have : (u, b) = (t, cs) := by simpa using hi
    cases this
    exact ⟨a, by rw [h.1]; rfl, h.2.1⟩
  | (t', a) :: as, (u, b) :: bs, h, i + 1, t, cs, hi => by
    simp only [leB, Bool.and_eq_true, decide_eq_true_eq] at h
    simpa using leB_get h.2.2 (i := i) (by simpa using hi)
def memP (x y : Nat) : List (Nat × Nat) → Bool
  | [] => false
  | (a, b) :: r => (decide (a = x) && decide (b = y)) || memP x y r
theorem memP_mem {x y : Nat} : ∀ {l : List (Nat × Nat)}, memP x y l = true → (x, y) ∈ l
  | [], h => by simp [memP] at h
  | (a, b) :: r, h => by
    simp only [memP, Bool.or_eq_true, Bool.and_eq_true, decide_eq_true_eq] at h
    rcases h with ⟨rfl, rfl⟩ | h
    · exact List.mem_cons_self
    · exact List.mem_cons_of_mem _ (memP_mem h)
def leF (q : Nat) (l : List (Nat × Nat)) : List (Nat × Nat) → Bool
  | [] => true
  | (a, b) :: r => (memP a b l && (decide (a < q) && decide (b < q))) && leF q l r
theorem leF_mem {q : Nat} {l : List (Nat × Nat)} : ∀ {r : List (Nat × Nat)}, leF q l r = true → ∀ x y, (x, y) ∈ r → (x, y) ∈ l ∧ x < q ∧ y < q
  | [], _, _, _, h => by simp at h
  | (a, b) :: r, hh, x, y, h => by
    simp only [leF, Bool.and_eq_true, decide_eq_true_eq] at hh
    rcases List.mem_cons.1 h with h1 | h1
    · cases h1; exact ⟨memP_mem hh.1.1, hh.1.2⟩
    · exact leF_mem hh.2 x y h1
def noneLost : List (TypeId × List SV) → List (TypeId × List SV) → Bool
  | _ :: _, [] => false
  | _, _ => true
def leSt0 (S S' : St) : Bool := decide (S.nt = S'.nt) && (noneLost S.bl S'.bl && (leT S'.bl.length S'.nx S.tmps S'.tmps && (leB S'.bl.length S'.nx S.bl S'.bl && (leF S'.nx S.lt S'.lt && S'.sm.isEmpty))))
def leSt (S S' : St) : Bool := leSt0 S S' && decide (S.nx ≤ S'.nx)
/-- What later steps may lean on of earlier names. -/
structure Rel (E E' : Env) : Prop where
  nx : E.nx ≤ E'.nx
  σ : ∀ s, s < E.nx → E'.σ s = E.σ s
theorem Rel.refl (E : Env) : Rel E E := ⟨Nat.le_refl _, fun _ _ => rfl⟩
theorem Rel.trans {A B C : Env} (h : Rel A B) (k : Rel B C) : Rel A C := ⟨Nat.le_trans h.nx k.nx, fun s hs => (k.σ s (Nat.lt_of_lt_of_le hs h.nx)).trans (h.σ s hs)⟩
theorem Ext.rel {E E' : Env} (h : Ext E E') : Rel E E' := ⟨h.nx, h.σ⟩
theorem leSt0_ok {X : Ctx} {E : Env} {S S' : St} {a : Act} {w : World} (hX : X.hd = []) (hl : leSt0 S S' = true) (h : Good X E S a w) : Good X { E with nx := S'.nx, nb := S'.bl.length } S' a w := by
  unfold leSt0 at hl
  simp only [Bool.and_eq_true, decide_eq_true_eq] at hl
  obtain ⟨hnt, h0, h1, h2, h3, h9⟩ := hl
  have hc : Cut E { E with nx := S'.nx, nb := S'.bl.length } S'.bl.length S'.nx := ⟨rfl, rfl, rfl, rfl, rfl⟩
  refine ⟨h.defers, h.len.trans hnt, rfl, fun i => leAV_ok hc (leT_get h1 i) (h.tmps i), h.kinv, h.fr, ⟨rfl, fun b t cs hb => ?_, fun b c hb hd he => ?_, fun g hg => ?_⟩, ⟨fun x y hxy => ?_, fun x y z hxy => ?_⟩, fun b hb => by rw [hX] at hb; cases hb⟩
  · obtain ⟨cs', h5, h6⟩ := leB_get h2 hb
    obtain ⟨h7, h8, vs, h9, h10⟩ := h.blks.at_ b t cs' h5
    exact ⟨h7, h8, vs, h9, leL_ok hc h6 h10⟩
  · have := leB_length h2
    exact h.blks.inj b c (by omega) (by omega) he
  · obtain ⟨h5, cs, h6⟩ := h.blks.first g hg
    refine ⟨h5, ?_⟩
    cases hb : S'.bl with
    | nil =>
      rw [hb] at h0
      cases ha : S.bl with
      | nil => rw [ha] at h6; cases h6
      | cons _ _ => rw [ha] at h0; cases h0
    | cons x r =>
      obtain ⟨cs', h7, _⟩ := leB_get (i := 0) (t := x.1) (cs := x.2) h2 (by rw [hb]; rfl)
      rw [h6] at h7
      have e : X.pt = x.1 := congrArg Prod.fst (Option.some.inj h7)
      exact ⟨x.2, by rw [e]; rfl⟩
  · obtain ⟨h5, h6, h7⟩ := leF_mem h3 x y hxy
    exact ⟨h6, h7, (h.lts.1 x y h5).2.2⟩
  · rw [List.isEmpty_iff.1 h9] at hxy
    cases hxy
theorem leSt_ok {X : Ctx} {E : Env} {S S' : St} {a : Act} {w : World} (hX : X.hd = []) (hl : leSt S S' = true) (h : Good X E S a w) : ∃ E', Rel E E' ∧ Good X E' S' a w := by
  unfold leSt at hl
  simp only [Bool.and_eq_true, decide_eq_true_eq] at hl
  exact ⟨{ E with nx := S'.nx, nb := S'.bl.length }, ⟨by rw [h.nx]; exact hl.2, fun _ _ => rfl⟩, leSt0_ok hX hl.1 h⟩

/-- A cell that holds both (looked at again by leSV). -/
def joinSV (wide : Bool) : SV → SV → SV
  | .bool t _ _, .bool t' _ _ => .bool (match t, t' with | some a, some b => if a == b then some a else none | _, _ => none) [] []
  | .int k lo hi sy, .int k' lo' hi' sy' => if k = k' then
      (if wide && !(decide (lo ≤ lo') && decide (hi' ≤ hi)) then .int k k.min k.max none
       else .int k (if lo ≤ lo' then lo else lo') (if hi ≤ hi' then hi' else hi) (if symEq sy sy' then sy else none)) else .any
  | .str, .str => .str
  | .ptr b o, .ptr b' o' => if b = b' ∧ o = o' then .ptr b o else .any
  | .eptr c j, .eptr c' j' => if ctsEq c c' && decide (j = j') then .eptr c j else .any
  | .cur, .cur => .cur
  | .nils, .nils => .nils
  | .nils, .slice c _ hi _ => .slice c 0 hi none
  | .slice c _ hi _, .nils => .slice c 0 hi none
  | .slice c lo hi sy, .slice c' lo' hi' sy' => if ctsEq c c' then .slice c (if lo ≤ lo' then lo else lo') (if hi ≤ hi' then hi' else hi) (if natEq sy sy' then sy else none) else .any
  | _, _ => .any
def zipW {α : Type} (f : α → α → α) : List α → List α → List α
  | a :: as, b :: bs => f a b :: zipW f as bs
  | _, _ => []
def joinV1 (w : Bool) : V1 → V1 → V1
  | .cell a, .cell b => .cell (joinSV w a b)
  | .agg a, .agg b => .agg (zipW (joinSV w) a b)
  | _, _ => .cell .any
def joinAV (w : Bool) : AV → AV → AV
  | .one a, .one b => .one (joinV1 w a b)
  | .tup a, .tup b => .tup (zipW (joinV1 w) a b)
  | _, _ => .any
/-- Pointers to blocks that are forgotten are forgotten. -/
def dropSV (m : Nat) : SV → SV
  | .ptr b o => if b < m then .ptr b o else .any
  | s => s
def joinT (w : Bool) (l : List (Nat × AV)) : List (Nat × AV) → List (Nat × AV)
  | [] => []
  | (i, v) :: r => match joinAV w v (getT l i) with
    | .any => joinT w l r
    | u => (i, u) :: joinT w l r
def joinB (w : Bool) : List (TypeId × List SV) → List (TypeId × List SV) → List (TypeId × List SV)
  | (t, a) :: as, (u, b) :: bs => if t = u then (t, zipW (joinSV w) a b) :: joinB w as bs else []
  | _, _ => []
def interF (l : List (Nat × Nat)) : List (Nat × Nat) → List (Nat × Nat)
  | [] => []
  | (a, b) :: r => if memP a b l then (a, b) :: interF l r else interF l r
def joinSt (w : Bool) (S S' : St) : St :=
  let B := joinB w S.bl S'.bl
  { tmps := (joinT w S'.tmps S.tmps).map (fun x => (x.1, mapAV (dropSV B.length) x.2)), nt := S.nt, bl := B, lt := interF S.lt S'.lt, nx := if S.nx ≤ S'.nx then S'.nx else S.nx }
/-- Rows whose lengths are told exactly and part are not joined. -/
def clashSV (m : Nat) : SV → SV → Bool
  | .slice _ lo hi _, .slice _ lo' hi' _ => decide (m ≤ hi) && (decide (lo = hi) && (decide (lo' = hi') && !decide (lo = lo')))
  | .nils, .slice _ lo hi _ => decide (m ≤ lo)
  | .slice _ lo hi _, .nils => decide (m ≤ lo)
  | _, _ => false
def clashL (m : Nat) : List SV → List SV → Bool
  | a :: as, b :: bs => clashSV m a b || clashL m as bs
  | _, _ => false
def clashV1 (m : Nat) : V1 → V1 → Bool
  | .cell a, .cell b => clashSV m a b
  | .agg a, .agg b => clashL m a b
  | _, _ => false
def clashT (m : Nat) (l : List (Nat × AV)) : List (Nat × AV) → Bool
  | [] => false
  | (i, .one a) :: r => (match getT l i with | .one b => clashV1 m a b | _ => false) || clashT m l r
  | _ :: r => clashT m l r
def clashB (m : Nat) : List (TypeId × List SV) → List (TypeId × List SV) → Bool
  | (_, a) :: as, (_, b) :: bs => clashL m a b || clashB m as bs
  | _, _ => false
/-- A state into a list of states: joined with the first that takes it. -/
def addSt (S : St) : List St → List St
  | [] => [S]
  | S' :: r =>
    if clashT 256 S.tmps S'.tmps || clashB 256 S.bl S'.bl then S' :: addSt S r
    else let J := joinSt false S S'
      if leSt S J && leSt S' J then J :: r else S' :: addSt S r
def mergeSt : List St → List St → List St
  | acc, [] => acc
  | acc, S :: r => mergeSt (addSt S acc) r
/-- Some of these states holds. -/
def GoodL (X : Ctx) (E : Env) (L : List St) (a : Act) (w : World) : Prop := ∃ S ∈ L, ∃ E', Rel E E' ∧ Good X E' S a w
theorem GoodL.rel {X : Ctx} {E E' : Env} {L : List St} {a : Act} {w : World} (r : Rel E E') (h : GoodL X E' L a w) : GoodL X E L a w := by
  obtain ⟨S, hS, E2, r2, h2⟩ := h
  exact ⟨S, hS, E2, r.trans r2, h2⟩
theorem GoodL.mono {X : Ctx} {E : Env} {L M : List St} {a : Act} {w : World} (hs : ∀ S ∈ L, S ∈ M) (h : GoodL X E L a w) : GoodL X E M a w := by
  obtain ⟨S, hS, r⟩ := h
  exact ⟨S, hs S hS, r⟩
theorem addSt_ok {X : Ctx} (hX : X.hd = []) {E : Env} {a : Act} {w : World} {S : St} : ∀ {L : List St}, GoodL X E (S :: L) a w → GoodL X E (addSt S L) a w
  | [], h => h
  | S' :: r, h => by
    unfold addSt
    have keep : GoodL X E (S' :: addSt S r) a w := by
      obtain ⟨T, hT, h1⟩ := h
      rcases List.mem_cons.1 hT with rfl | h2
      · obtain ⟨U, hU, h3⟩ := addSt_ok hX (L := r) ⟨T, List.mem_cons_self, h1⟩
        exact ⟨U, List.mem_cons_of_mem _ hU, h3⟩
      · rcases List.mem_cons.1 h2 with rfl | h3
        · exact ⟨T, List.mem_cons_self, h1⟩
        · obtain ⟨U, hU, h4⟩ := addSt_ok hX (L := r) (S := S) ⟨T, List.mem_cons_of_mem _ h3, h1⟩
          exact ⟨U, List.mem_cons_of_mem _ hU, h4⟩
    split
    · exact keep
    · dsimp only
      split
      · rename_i hj
        simp only [Bool.and_eq_true] at hj
        obtain ⟨T, hT, E1, r1, h1⟩ := h
        rcases List.mem_cons.1 hT with rfl | h2
        · obtain ⟨E2, r2, h3⟩ := leSt_ok hX hj.1 h1
          exact ⟨_, List.mem_cons_self, E2, r1.trans r2, h3⟩
        · rcases List.mem_cons.1 h2 with rfl | h3
          · obtain ⟨E2, r2, h4⟩ := leSt_ok hX hj.2 h1
            exact ⟨_, List.mem_cons_self, E2, r1.trans r2, h4⟩
          · exact ⟨T, List.mem_cons_of_mem _ h3, E1, r1, h1⟩
      · exact keep
theorem mergeSt_ok {X : Ctx} (hX : X.hd = []) {E : Env} {a : Act} {w : World} : ∀ {L acc : List St}, GoodL X E (acc ++ L) a w → GoodL X E (mergeSt acc L) a w
  | [], acc, h => by simpa [mergeSt] using h
  | S :: r, acc, h => by
    unfold mergeSt
    refine mergeSt_ok hX (L := r) ?_
    obtain ⟨T, hT, h1⟩ := h
    rcases List.mem_append.1 hT with h2 | h2
    · obtain ⟨U, hU, h3⟩ := addSt_ok hX (L := acc) (S := S) ⟨T, List.mem_cons_of_mem _ h2, h1⟩
      exact ⟨U, List.mem_append_left _ hU, h3⟩
    · rcases List.mem_cons.1 h2 with rfl | h3
      · obtain ⟨U, hU, h4⟩ := addSt_ok hX (L := acc) ⟨T, List.mem_cons_self, h1⟩
        exact ⟨U, List.mem_append_left _ hU, h4⟩
      · exact ⟨T, List.mem_append_right _ h3, h1⟩
end Go.Proofs.Ytnoelppkcbelcaa.Ty

/-
Numbers and tests: what the operators give, by intervals.
-/
set_option linter.unusedVariables false
set_option linter.unusedSimpArgs false
namespace Go.Proofs.Ytnoelppkcbelcaa.Ty
open Go

theorem wrap_range (k : IntKind) (n : Int) : k.min ≤ k.wrap n ∧ k.wrap n ≤ k.max := by
  cases k <;> simp only [IntKind.min, IntKind.max, IntKind.wrap, IntKind.bits, IntKind.signed] <;> simp <;> (try split) <;> omega
theorem wrap_same (k : IntKind) {n : Int} (h0 : k.min ≤ n) (h1 : n ≤ k.max) : k.wrap n = n := by
  cases k <;> simp only [IntKind.min, IntKind.max, IntKind.wrap, IntKind.bits, IntKind.signed] at * <;> simp at * <;> (try split) <;> omega
def fitSV (k : IntKind) (lo hi : Int) (sy : Option (Nat × Int)) : SV :=
  if k.min ≤ lo ∧ hi ≤ k.max then .int k lo hi sy else .int k k.min k.max none
theorem fitSV_ok {E : Env} {k : IntKind} {lo hi n : Int} {sy : Option (Nat × Int)} (h0 : lo ≤ n) (h1 : n ≤ hi) (hs : ∀ s d, sy = some (s, d) → s < E.nx ∧ n = E.σ s + d) : hasSV E (fitSV k lo hi sy) (.int k (k.wrap n)) := by
  unfold fitSV
  split
  · rename_i h
    rw [wrap_same k (by omega) (by omega)]
    exact ⟨n, rfl, h0, h1, hs⟩
  · exact ⟨_, rfl, (wrap_range k n).1, (wrap_range k n).2, fun s d h => by cases h⟩
theorem full_ok {E : Env} (k : IntKind) (n : Int) : hasSV E (.int k k.min k.max none) (.int k (k.wrap n)) :=
  ⟨_, rfl, (wrap_range k n).1, (wrap_range k n).2, fun s d h => by cases h⟩
def shiftSy : Option (Nat × Int) → Int → Option (Nat × Int)
  | some (s, d), c => some (s, d + c)
  | none, _ => none
def leF' : Option (Nat × Int) → Int → List Fact
  | some (s, d), c => [.le s (c - d)]
  | none, _ => []
def geF' : Option (Nat × Int) → Int → List Fact
  | some (s, d), c => [.ge s (c - d)]
  | none, _ => []
def ltF' : Option (Nat × Int) → Option (Nat × Int) → List Fact
  | some (s, d), some (t, e) => if d = 0 ∧ e = 0 then [.lt s t] else []
  | _, _ => []
theorem leF'_ok {E : Env} {sy : Option (Nat × Int)} {n c : Int} (hs : ∀ s d, sy = some (s, d) → s < E.nx ∧ n = E.σ s + d) (h : n ≤ c) : ∀ f ∈ leF' sy c, f.ok E := by
  intro f hf
  cases sy with
  | none => simp [leF'] at hf
  | some x =>
    obtain ⟨s, d⟩ := x
    obtain rfl : f = .le s (c - d) := by simpa [leF'] using hf
    obtain ⟨h1, h2⟩ := hs s d rfl
    exact ⟨h1, by omega⟩
theorem geF'_ok {E : Env} {sy : Option (Nat × Int)} {n c : Int} (hs : ∀ s d, sy = some (s, d) → s < E.nx ∧ n = E.σ s + d) (h : c ≤ n) : ∀ f ∈ geF' sy c, f.ok E := by
  intro f hf
  cases sy with
  | none => simp [geF'] at hf
  | some x =>
    obtain ⟨s, d⟩ := x
    obtain rfl : f = .ge s (c - d) := by simpa [geF'] using hf
    obtain ⟨h1, h2⟩ := hs s d rfl
    exact ⟨h1, by omega⟩
theorem ltF'_ok {E : Env} {sy ty : Option (Nat × Int)} {n m : Int} (hs : ∀ s d, sy = some (s, d) → s < E.nx ∧ n = E.σ s + d) (ht : ∀ s d, ty = some (s, d) → s < E.nx ∧ m = E.σ s + d) (h : n < m) : ∀ f ∈ ltF' sy ty, f.ok E := by
  intro f hf
  cases sy with
  | none => simp [ltF'] at hf
  | some x => cases ty with
    | none => simp [ltF'] at hf
    | some y =>
      obtain ⟨s, d⟩ := x
      obtain ⟨t, e⟩ := y
      simp only [ltF'] at hf
      split at hf
      · rename_i hde
        obtain rfl : f = .lt s t := by simpa using hf
        obtain ⟨h1, h2⟩ := hs s d rfl
        obtain ⟨h3, h4⟩ := ht t e rfl
        exact ⟨h1, h3, by omega⟩
      · simp at hf
def pairF (a b : List Fact) : List Fact := a ++ b
/-- x < y. -/
def lssSV (lx hx : Int) (sx : Option (Nat × Int)) (ly hy : Int) (sy : Option (Nat × Int)) : SV :=
  if hx < ly then .bool (some true) [] [] else if hy ≤ lx then .bool (some false) [] []
  else .bool none (leF' sx (hy - 1) ++ (geF' sy (lx + 1) ++ ltF' sx sy)) (geF' sx ly ++ leF' sy hx)
/-- x ≤ y. -/
def leqSV (lx hx : Int) (sx : Option (Nat × Int)) (ly hy : Int) (sy : Option (Nat × Int)) : SV :=
  if hx ≤ ly then .bool (some true) [] [] else if hy < lx then .bool (some false) [] []
  else .bool none (leF' sx hy ++ geF' sy lx) (geF' sx (ly + 1) ++ (leF' sy (hx - 1) ++ ltF' sy sx))
def neF (lx hx : Int) (sx : Option (Nat × Int)) (ly hy : Int) : List Fact :=
  if ly = hy then (if lx = ly then geF' sx (ly + 1) else []) ++ (if hx = ly then leF' sx (ly - 1) else []) else []
/-- x = y, or its contrary. -/
def eqlSV (eq : Bool) (lx hx : Int) (sx : Option (Nat × Int)) (ly hy : Int) (sy : Option (Nat × Int)) : SV :=
  if hx < ly then .bool (some (!eq)) [] [] else if hy < lx then .bool (some (!eq)) [] []
  else if lx = hx ∧ ly = hy ∧ lx = ly then .bool (some eq) [] []
  else
    let T := leF' sx hy ++ (geF' sx ly ++ (leF' sy hx ++ geF' sy lx))
    let F := neF lx hx sx ly hy ++ neF ly hy sy lx hx
    if eq then .bool none T F else .bool none F T
theorem all_app {E : Env} {a b : List Fact} (ha : ∀ f ∈ a, f.ok E) (hb : ∀ f ∈ b, f.ok E) : ∀ f ∈ a ++ b, f.ok E := by
  intro f hf
  rcases List.mem_append.1 hf with h | h
  · exact ha f h
  · exact hb f h
section
variable {E : Env} {lx hx ly hy x y : Int} {sx sy : Option (Nat × Int)} (x0 : lx ≤ x) (x1 : x ≤ hx) (xs : ∀ s d, sx = some (s, d) → s < E.nx ∧ x = E.σ s + d)
  (y0 : ly ≤ y) (y1 : y ≤ hy) (ys : ∀ s d, sy = some (s, d) → s < E.nx ∧ y = E.σ s + d)
include x0 x1 xs y0 y1 ys
theorem lssSV_ok : hasSV E (lssSV lx hx sx ly hy sy) (.bool (decide (x < y))) := by
  unfold lssSV
  split
  · exact ⟨_, rfl, fun c hc => by cases hc; exact decide_eq_true (by omega), fun _ f hf => absurd hf (by simp), fun _ f hf => absurd hf (by simp)⟩
  · split
    · exact ⟨_, rfl, fun c hc => by cases hc; exact decide_eq_false (by omega), fun _ f hf => absurd hf (by simp), fun _ f hf => absurd hf (by simp)⟩
    · refine ⟨_, rfl, fun c hc => (by cases hc), fun hb => ?_, fun hb => ?_⟩
      · have h := of_decide_eq_true hb
        exact all_app (leF'_ok xs (by omega)) (all_app (geF'_ok ys (by omega)) (ltF'_ok xs ys h))
      · have h := of_decide_eq_false hb
        exact all_app (geF'_ok xs (by omega)) (leF'_ok ys (by omega))
theorem leqSV_ok : hasSV E (leqSV lx hx sx ly hy sy) (.bool (decide (x ≤ y))) := by
  unfold leqSV
  split
  · exact ⟨_, rfl, fun c hc => by cases hc; exact decide_eq_true (by omega), fun _ f hf => absurd hf (by simp), fun _ f hf => absurd hf (by simp)⟩
  · split
    · exact ⟨_, rfl, fun c hc => by cases hc; exact decide_eq_false (by omega), fun _ f hf => absurd hf (by simp), fun _ f hf => absurd hf (by simp)⟩
    · refine ⟨_, rfl, fun c hc => (by cases hc), fun hb => ?_, fun hb => ?_⟩
      · have h := of_decide_eq_true hb
        exact all_app (leF'_ok xs (by omega)) (geF'_ok ys (by omega))
      · have h := of_decide_eq_false hb
        exact all_app (geF'_ok xs (by omega)) (all_app (leF'_ok ys (by omega)) (ltF'_ok ys xs (by omega)))
omit ys in
theorem neF_ok (h : x ≠ y) : ∀ f ∈ neF lx hx sx ly hy, f.ok E := by
  unfold neF
  split
  · refine all_app ?_ ?_
    · split
      · exact geF'_ok xs (by omega)
      · simp
    · split
      · exact leF'_ok xs (by omega)
      · simp
  · simp
omit x0 x1 xs y0 y1 ys in
theorem bool_sure {E : Env} {b : Bool} : hasSV E (.bool (some b) [] []) (.bool b) := ⟨b, rfl, fun c hc => by cases hc; rfl, fun _ f hf => absurd hf (by simp), fun _ f hf => absurd hf (by simp)⟩
theorem eqlSV_ok : hasSV E (eqlSV true lx hx sx ly hy sy) (.bool (x == y)) ∧ hasSV E (eqlSV false lx hx sx ly hy sy) (.bool (x != y)) := by
  have hT : x = y → ∀ f ∈ leF' sx hy ++ (geF' sx ly ++ (leF' sy hx ++ geF' sy lx)), f.ok E := fun h =>
    all_app (leF'_ok xs (by omega)) (all_app (geF'_ok xs (by omega)) (all_app (leF'_ok ys (by omega)) (geF'_ok ys (by omega))))
  have hF : x ≠ y → ∀ f ∈ neF lx hx sx ly hy ++ neF ly hy sy lx hx, f.ok E := fun h =>
    all_app (neF_ok x0 x1 xs y0 y1 h) (neF_ok y0 y1 ys x0 x1 (Ne.symm h))
  have hne : x ≠ y → (x == y) = false ∧ (x != y) = true := fun h => ⟨by simpa using h, by simpa using h⟩
  unfold eqlSV
  by_cases c1 : hx < ly
  · obtain ⟨e1, e2⟩ := hne (by omega)
    rw [if_pos c1, if_pos c1, e1, e2]
    exact ⟨bool_sure, bool_sure⟩
  rw [if_neg c1, if_neg c1]
  by_cases c2 : hy < lx
  · obtain ⟨e1, e2⟩ := hne (by omega)
    rw [if_pos c2, if_pos c2, e1, e2]
    exact ⟨bool_sure, bool_sure⟩
  rw [if_neg c2, if_neg c2]
  by_cases c3 : lx = hx ∧ ly = hy ∧ lx = ly
  · have e : x = y := by omega
    subst e
    rw [if_pos c3, if_pos c3]
    refine ⟨?_, ?_⟩
    · rw [show (x == x) = true by simp]; exact bool_sure
    · rw [show (x != x) = false by simp]; exact bool_sure
  rw [if_neg c3, if_neg c3]
  dsimp only
  rw [if_pos rfl, if_neg (by simp)]
  refine ⟨⟨_, rfl, fun c hc => (by cases hc), fun hb => hT (by simpa using hb), fun hb => hF (by simpa using hb)⟩, ⟨_, rfl, fun c hc => (by cases hc), fun hb => hF (by simpa using hb), fun hb => hT (by simpa using hb)⟩⟩
end
/-- An operator on two numbers of one kind. -/
def intSV (op : BinOp) (k : IntKind) (lx hx : Int) (sx : Option (Nat × Int)) (ly hy : Int) (sy : Option (Nat × Int)) : Option SV :=
  match op with
  | .add => some (fitSV k (lx + ly) (hx + hy) (if ly = hy then shiftSy sx ly else none))
  | .sub => some (fitSV k (lx - hy) (hx - ly) (if ly = hy then shiftSy sx (-ly) else none))
  | .mul => some (if 0 ≤ lx ∧ 0 ≤ ly then fitSV k (lx * ly) (hx * hy) none else .int k k.min k.max none)
  | .quo => if 0 < ly then some (if 0 ≤ lx then (if ly = hy then fitSV k (lx / ly) (hx / ly) none else fitSV k 0 hx none) else .int k k.min k.max none) else none
  | .rem => if 0 < ly then (if 0 ≤ lx then some (.int k 0 (if hx < hy - 1 then hx else hy - 1) none) else some (.int k (1 - hy) (hy - 1) none)) else none
  | .and => some (if 0 ≤ ly ∧ hy ≤ k.max then .int k 0 hy none else if 0 ≤ lx ∧ hx ≤ k.max then .int k 0 hx none else .int k k.min k.max none)
  | .or | .xor | .andNot => some (.int k k.min k.max none)
  | .lss => some (lssSV lx hx sx ly hy sy)
  | .leq => some (leqSV lx hx sx ly hy sy)
  | .gtr => some (lssSV ly hy sy lx hx sx)
  | .geq => some (leqSV ly hy sy lx hx sx)
  | .eql => some (eqlSV true lx hx sx ly hy sy)
  | .neq => some (eqlSV false lx hx sx ly hy sy)
  | _ => none
theorem emod_le {a : Int} (h : 0 ≤ a) {n : Int} (hn : 0 ≤ n) : a % n ≤ a := by
  obtain ⟨x, rfl⟩ := Int.eq_ofNat_of_zero_le h
  obtain ⟨y, rfl⟩ := Int.eq_ofNat_of_zero_le hn
  rw [← Int.natCast_emod]
  exact Int.ofNat_le.2 (Nat.mod_le x y)
theorem and_le (m : Nat) (a b : Int) (hb : 0 ≤ b) : ((BitVec.ofInt m a &&& BitVec.ofInt m b).toNat : Int) ≤ b := by
  rw [BitVec.toNat_and]
  have h1 : (BitVec.ofInt m a).toNat &&& (BitVec.ofInt m b).toNat ≤ (BitVec.ofInt m b).toNat := Nat.and_le_right
  have h2 : ((BitVec.ofInt m b).toNat : Int) ≤ b := by
    rw [BitVec.toNat_ofInt]
    have h3 : (0 : Int) ≤ b % ((2 ^ m : Nat) : Int) := Int.emod_nonneg _ (by have := Nat.two_pow_pos m; omega)
    rw [Int.toNat_of_nonneg h3]
    exact emod_le hb (by omega)
  omega
theorem and_le' (m : Nat) (a b : Int) (ha : 0 ≤ a) : ((BitVec.ofInt m a &&& BitVec.ofInt m b).toNat : Int) ≤ a := by
  rw [BitVec.and_comm]
  exact and_le m b a ha
theorem intSV_ok {P : Program} {E : Env} {op : BinOp} {k : IntKind} {lx hx ly hy x y : Int} {sx sy : Option (Nat × Int)} {r : SV} (h : intSV op k lx hx sx ly hy sy = some r)
    (x0 : lx ≤ x) (x1 : x ≤ hx) (xs : ∀ s d, sx = some (s, d) → s < E.nx ∧ x = E.σ s + d) (y0 : ly ≤ y) (y1 : y ≤ hy) (ys : ∀ s d, sy = some (s, d) → s < E.nx ∧ y = E.σ s + d) :
    ∀ t, ∃ v, (∀ w, (binOp op t (.int k x) (.int k y)).run P w = .ok v w) ∧ hasSV E r v := by
  intro tt
  have kk : ∀ (t : TypeId) (a b : Sem Value), (if k ≠ k then a else b) = b := fun _ _ _ => if_neg (by simp)
  cases op <;> simp only [intSV] at h <;> (try cases h)
  case add =>
    refine ⟨.int k (k.wrap (x + y)), fun w => by simp [binOp, Op.intArith], fitSV_ok (by omega) (by omega) fun s d hsd => ?_⟩
    split at hsd
    · cases sx with
      | none => simp [shiftSy] at hsd
      | some z =>
        obtain ⟨s', d'⟩ := z
        obtain ⟨rfl, rfl⟩ : s' = s ∧ d' + ly = d := by simpa [shiftSy] using hsd
        obtain ⟨h1, h2⟩ := xs s' d' rfl
        exact ⟨h1, by omega⟩
    · cases hsd
  case sub =>
    refine ⟨.int k (k.wrap (x - y)), fun w => by simp [binOp, Op.intArith], fitSV_ok (by omega) (by omega) fun s d hsd => ?_⟩
    split at hsd
    · cases sx with
      | none => simp [shiftSy] at hsd
      | some z =>
        obtain ⟨s', d'⟩ := z
        obtain ⟨rfl, rfl⟩ : s' = s ∧ d' + -ly = d := by simpa [shiftSy] using hsd
        obtain ⟨h1, h2⟩ := xs s' d' rfl
        exact ⟨h1, by omega⟩
    · cases hsd
  case mul =>
    refine ⟨.int k (k.wrap (x * y)), fun w => by simp [binOp, Op.intArith], ?_⟩
    split
    · rename_i hp
      exact fitSV_ok (Int.mul_le_mul x0 y0 hp.2 (by omega)) (Int.mul_le_mul x1 y1 (by omega) (by omega)) fun s d hsd => by cases hsd
    · exact full_ok k _
  case quo =>
    split at h
    · rename_i hp
      cases h
      refine ⟨.int k (k.wrap (x.tdiv y)), fun w => by simp [binOp, Op.intDiv, show y ≠ 0 by omega], ?_⟩
      split
      · rename_i hx0
        rw [Int.tdiv_eq_ediv_of_nonneg (by omega)]
        split
        · obtain rfl : ly = y := by omega
          exact fitSV_ok (Int.ediv_le_ediv hp x0) (Int.ediv_le_ediv hp x1) fun s d hsd => by cases hsd
        · refine fitSV_ok (Int.ediv_nonneg (by omega) (by omega)) ?_ fun s d hsd => by cases hsd
          exact Int.le_trans (Int.ediv_le_self y (by omega)) x1
      · exact full_ok k _
    · cases h
  case rem =>
    split at h
    · rename_i hp
      refine ⟨.int k (x.tmod y), fun w => by simp [binOp, Op.intDiv, show y ≠ 0 by omega], ?_⟩
      split at h
      · rename_i hx0
        cases h
        rw [Int.tmod_eq_emod_of_nonneg (by omega)]
        have h1 := Int.emod_nonneg x (show y ≠ 0 by omega)
        have h2 := Int.emod_lt_of_pos x (show 0 < y by omega)
        have h3 := emod_le (show 0 ≤ x by omega) (show 0 ≤ y by omega)
        refine ⟨_, rfl, h1, ?_, fun s d hsd => by cases hsd⟩
        split <;> omega
      · cases h
        have h1 := Int.tmod_lt_of_pos x (show 0 < y by omega)
        have h2 := Int.lt_tmod_of_pos x (show 0 < y by omega)
        exact ⟨_, rfl, by omega, by omega, fun s d hsd => by cases hsd⟩
    · cases h
  case and =>
    refine ⟨.int k (k.wrap ((BitVec.ofInt k.bits x &&& BitVec.ofInt k.bits y).toNat : Int)), fun w => by simp [binOp, Op.intBits], ?_⟩
    have hk : k.min ≤ 0 := by cases k <;> decide
    split
    · rename_i hp
      have h1 := and_le k.bits x y (by omega)
      rw [wrap_same k (by omega) (by omega)]
      exact ⟨_, rfl, by omega, by omega, fun s d hsd => by cases hsd⟩
    · split
      · rename_i hp
        have h1 := and_le' k.bits x y (by omega)
        rw [wrap_same k (by omega) (by omega)]
        exact ⟨_, rfl, by omega, by omega, fun s d hsd => by cases hsd⟩
      · exact full_ok k _
  case or => exact ⟨_, fun w => by simp [binOp, Op.intBits]; rfl, full_ok k _⟩
  case xor => exact ⟨_, fun w => by simp [binOp, Op.intBits]; rfl, full_ok k _⟩
  case andNot => exact ⟨_, fun w => by simp [binOp, Op.intBits]; rfl, full_ok k _⟩
  case lss => exact ⟨_, fun w => by simp [binOp, Op.intCmp], lssSV_ok x0 x1 xs y0 y1 ys⟩
  case leq => exact ⟨_, fun w => by simp [binOp, Op.intCmp], leqSV_ok x0 x1 xs y0 y1 ys⟩
  case gtr => exact ⟨_, fun w => by simp [binOp, Op.intCmp], lssSV_ok y0 y1 ys x0 x1 xs⟩
  case geq => exact ⟨_, fun w => by simp [binOp, Op.intCmp], leqSV_ok y0 y1 ys x0 x1 xs⟩
  case eql => exact ⟨_, fun w => by simp [binOp, Op.intCmp], (eqlSV_ok x0 x1 xs y0 y1 ys).1⟩
  case neq => exact ⟨_, fun w => by simp [binOp, Op.intCmp], (eqlSV_ok x0 x1 xs y0 y1 ys).2⟩
end Go.Proofs.Ytnoelppkcbelcaa.Ty

/-
Types by a table; operations that only reckon.
-/
set_option linter.unusedVariables false
set_option linter.unusedSimpArgs false
namespace Go.Proofs.Ytnoelppkcbelcaa.Ty
open Go

structure TD where
  size : Nat
  bytes : Nat
  agg : Bool
  zero : Option (List SV)
  fields : Option (List (Nat × Nat × Bool))
  elem : Option TypeId
  ik : Option IntKind
  bool : Bool
def zeroSV : Value → SV
  | .bool b => .bool (some b) [] []
  | .int k n => .int k n n none
  | .string _ => .str
  | .slice none 0 0 => .nils
  | _ => .any
theorem zeroSV_ok (E : Env) (v : Value) : hasSV E (zeroSV v) v := by
  cases v with
  | bool b => exact bool_sure
  | int k n => exact ⟨n, rfl, Int.le_refl _, Int.le_refl _, fun s d h => by cases h⟩
  | string s => exact ⟨s, rfl⟩
  | slice a l c =>
    cases a with
    | some a => trivial
    | none => cases l with
      | succ l => trivial
      | zero => cases c with
        | succ c => trivial
        | zero => exact rfl
  | _ => trivial
theorem zeroL_ok (E : Env) : ∀ vs : List Value, hasL E (vs.map zeroSV) vs
  | [] => trivial
  | v :: vs => ⟨zeroSV_ok E v, zeroL_ok E vs⟩
def isRowD : TypeDesc → Bool
  | .struct _ => true
  | .array _ _ => true
  | _ => false
def mkFields (P : Program) : List Field → Option (List (Nat × Nat × Bool))
  | [] => some []
  | f :: fs => match P.info? f.type, P.underlying f.type, mkFields P fs with
    | some i, some u, some r => some ((f.offset, i.size, isRowD u) :: r)
    | _, _, _ => none
def mkTD (P : Program) (t : TypeId) : Option TD :=
  match P.info? t, P.underlying t with
  | some i, some u => some
    { size := i.size, bytes := i.bytes, agg := isRowD u, zero := i.zero.map fun z => z.cells.toList.map zeroSV,
      fields := match u with | .struct fs => mkFields P fs.toList | _ => none,
      elem := match u with | .slice e => some e | _ => none,
      ik := match u with | .int k => some k | _ => none,
      bool := match u with | .bool => true | _ => false }
  | _, _ => none
structure TabOK (P : Program) (tab : TypeId → Option TD) : Prop where
  ok : ∀ t d, tab t = some d → mkTD P t = some d
section
variable {P : Program} {tab : TypeId → Option TD}
theorem TabOK.get (h : TabOK P tab) {t : TypeId} {d : TD} (ht : tab t = some d) : ∃ i u, P.info? t = some i ∧ P.underlying t = some u ∧ d.size = i.size ∧ d.bytes = i.bytes ∧ d.agg = isRowD u ∧ d.zero = i.zero.map (fun z => z.cells.toList.map zeroSV) ∧
    d.fields = (match u with | .struct fs => mkFields P fs.toList | _ => none) ∧ d.elem = (match u with | .slice e => some e | _ => none) ∧ d.ik = (match u with | .int k => some k | _ => none) ∧ d.bool = (match u with | .bool => true | _ => false) := by
  have h1 := h.ok t d ht
  unfold mkTD at h1
  cases hi : P.info? t with
  | none => rw [hi] at h1; cases h1
  | some i => cases hu : P.underlying t with
    | none => rw [hi, hu] at h1; cases h1
    | some u =>
      rw [hi, hu] at h1
      cases h1
      exact ⟨i, u, rfl, rfl, rfl, rfl, rfl, rfl, rfl, rfl, rfl, rfl⟩
theorem TabOK.size (h : TabOK P tab) {t : TypeId} {d : TD} (ht : tab t = some d) (w : World) : (sizeOf t).run P w = .ok d.size w := by
  obtain ⟨i, u, h1, _, h2, _⟩ := h.get ht
  simp [sizeOf, typeInfo, h1, h2]
theorem TabOK.isAgg (h : TabOK P tab) {t : TypeId} {d : TD} (ht : tab t = some d) (w : World) : (isAgg t).run P w = .ok d.agg w := by
  obtain ⟨i, u, _, h1, _, _, h2, _⟩ := h.get ht
  unfold Go.isAgg
  simp only [Sem.run_bind, run_underlying h1, Result.andThen_ok]
  rw [h2]
  cases u <;> rfl
theorem TabOK.elem (h : TabOK P tab) {t e : TypeId} {d : TD} (ht : tab t = some d) (he : d.elem = some e) : P.underlying t = some (.slice e) := by
  obtain ⟨i, u, _, h1, _, _, _, _, _, h2, _⟩ := h.get ht
  rw [h2] at he
  cases u <;> first | (cases he; exact h1) | cases he
theorem TabOK.ik (h : TabOK P tab) {t : TypeId} {k : IntKind} {d : TD} (ht : tab t = some d) (he : d.ik = some k) : P.underlying t = some (.int k) := by
  obtain ⟨i, u, _, h1, _, _, _, _, _, _, h2, _⟩ := h.get ht
  rw [h2] at he
  cases u <;> first | (cases he; exact h1) | cases he
theorem TabOK.bool (h : TabOK P tab) {t : TypeId} {d : TD} (ht : tab t = some d) (he : d.bool = true) : P.underlying t = some .bool := by
  obtain ⟨i, u, _, h1, _, _, _, _, _, _, _, h2⟩ := h.get ht
  rw [h2] at he
  cases u <;> first | exact h1 | cases he
theorem mkFields_get : ∀ {fs : List Field} {r : List (Nat × Nat × Bool)}, mkFields P fs = some r → ∀ {i : Nat} {x : Nat × Nat × Bool}, r[i]? = some x → ∃ f, fs[i]? = some f ∧ x.1 = f.offset ∧ (∀ w, (sizeOf f.type).run P w = .ok x.2.1 w) ∧ ∀ w, (isAgg f.type).run P w = .ok x.2.2 w
  | [], r, h, i, x, hx => by
    cases h
    simp at hx
  | f :: fs, r, h, i, x, hx => by
    unfold mkFields at h
    cases hi : P.info? f.type with
    | none => rw [hi] at h; cases h
    | some ti => cases hu : P.underlying f.type with
      | none => rw [hi, hu] at h; cases h
      | some u => cases hr : mkFields P fs with
        | none => rw [hi, hu, hr] at h; cases h
        | some r' =>
          rw [hi, hu, hr] at h
          cases h
          cases i with
          | zero =>
            obtain rfl : (f.offset, ti.size, isRowD u) = x := by simpa using hx
            refine ⟨f, rfl, rfl, fun w => by simp [sizeOf, typeInfo, hi], fun w => ?_⟩
            unfold Go.isAgg
            simp only [Sem.run_bind, run_underlying hu, Result.andThen_ok]
            cases u <;> rfl
          | succ i =>
            obtain ⟨f', h1, h2⟩ := mkFields_get hr (i := i) (x := x) (by simpa using hx)
            exact ⟨f', by simpa using h1, h2⟩
theorem mkFields_places : ∀ {fs : List Field} {r : List (Nat × Nat × Bool)}, mkFields P fs = some r → fs.mapM (fun f => (P.info? f.type).map fun i => (f.offset, i.size)) = some (r.map fun x => (x.1, x.2.1))
  | [], r, h => by cases h; rfl
  | f :: fs, r, h => by
    unfold mkFields at h
    cases hi : P.info? f.type with
    | none => rw [hi] at h; cases h
    | some ti => cases hu : P.underlying f.type with
      | none => rw [hi, hu] at h; cases h
      | some u => cases hr : mkFields P fs with
        | none => rw [hi, hu, hr] at h; cases h
        | some r' =>
          rw [hi, hu, hr] at h
          cases h
          simp [List.mapM_cons, hi, mkFields_places hr]
theorem TabOK.fields (h : TabOK P tab) {t : TypeId} {d : TD} (ht : tab t = some d) {r : List (Nat × Nat × Bool)} (hr : d.fields = some r) : ∃ fs, P.underlying t = some (.struct fs) ∧ mkFields P fs.toList = some r := by
  obtain ⟨i, u, _, h1, _, _, _, _, h2, _⟩ := h.get ht
  rw [h2] at hr
  cases u <;> first | exact ⟨_, h1, hr⟩ | cases hr

def constAV : Value → AV
  | .agg cs => .one (.agg (cs.toList.map zeroSV))
  | v => .one (.cell (zeroSV v))
theorem constAV_ok (E : Env) (v : Value) : hasAV E (constAV v) v := by
  have h := zeroSV_ok E v
  cases v with
  | agg cs => exact ⟨cs, rfl, zeroL_ok E _⟩
  | _ => exact h
def St.eval (S : St) : Operand → AV
  | .tmp t => getT S.tmps t
  | .const v => constAV v
  | _ => .any
theorem Good.eval {X : Ctx} {E : Env} {S : St} {a : Act} {w : World} (h : Good X E S a w) (x : Operand) : hasAV E (S.eval x) (a.eval x) := by
  cases x with
  | tmp t => exact h.tmps t
  | const v => exact constAV_ok E v
  | _ => trivial
def setR : List SV → Nat → List SV → List SV
  | cs, _, [] => cs
  | cs, o, n :: ns => setR (cs.set o n) (o + 1) ns
def setV : List Value → Nat → List Value → List Value
  | vs, _, [] => vs
  | vs, o, n :: ns => setV (vs.set o n) (o + 1) ns
theorem setR_ok {E : Env} : ∀ {ns : List SV} {us : List Value} {cs : List SV} {vs : List Value} (o : Nat), hasL E cs vs → hasL E ns us → hasL E (setR cs o ns) (setV vs o us)
  | [], [], _, _, _, h, _ => h
  | [], _ :: _, _, _, _, _, h => h.elim
  | _ :: _, [], _, _, _, _, h => h.elim
  | n :: ns, u :: us, cs, vs, o, h, hn => setR_ok (ns := ns) (us := us) (o + 1) (h.set o hn.1) hn.2
theorem setR_length : ∀ (ns cs : List SV) (o : Nat), (setR cs o ns).length = cs.length
  | [], _, _ => rfl
  | n :: ns, cs, o => by rw [setR, setR_length ns, List.length_set]
theorem fold_setV : ∀ (us : List Value) (k off : Nat) (cells : Array Value), ((us.zipIdx k).foldl (fun (cs : Array Value) x => cs.setIfInBounds (off + x.2) x.1) cells).toList = setV cells.toList (off + k) us
  | [], _, _, _ => rfl
  | u :: us, k, off, cells => by
    rw [List.zipIdx_cons, List.foldl_cons, fold_setV us (k + 1) off, Array.toList_setIfInBounds]
    rfl
def fillSV (pl : List (Nat × Nat × Bool)) : List SV → List (Nat × List SV) → Option (List SV)
  | cs, [] => some cs
  | cs, (i, ns) :: r => match pl[i]? with
    | none => none
    | some x => if ns.length = x.2.1 ∧ x.1 + ns.length ≤ cs.length then fillSV pl (setR cs x.1 ns) r else none
def partsL (E : Env) : List (Nat × List SV) → List (Nat × Value) → Prop
  | [], [] => True
  | (i, ns) :: r, (j, v) :: s => i = j ∧ hasL E ns v.cells.toList ∧ partsL E r s
  | _, _ => False
theorem fillSV_ok {E : Env} {pl : List (Nat × Nat × Bool)} {place : Nat → Option (Nat × Nat)} (hp : ∀ i x, pl[i]? = some x → place i = some (x.1, x.2.1)) :
    ∀ {ps : List (Nat × List SV)} {vs : List (Nat × Value)} {cs : List SV} {cells : Array Value} {cs' : List SV}, fillSV pl cs ps = some cs' → partsL E ps vs → hasL E cs cells.toList → ∃ cells', Instr.fill place cells vs = some cells' ∧ hasL E cs' cells'.toList
  | [], [], cs, cells, cs', h, _, hc => by cases h; exact ⟨cells, rfl, hc⟩
  | [], _ :: _, _, _, _, _, h, _ => h.elim
  | (_, _) :: _, [], _, _, _, _, h, _ => h.elim
  | (i, ns) :: r, (j, v) :: s, cs, cells, cs', h, hps, hc => by
    obtain ⟨rfl, h1, h2⟩ := hps
    unfold fillSV at h
    cases hx : pl[i]? with
    | none => rw [hx] at h; cases h
    | some x =>
      rw [hx] at h
      simp only at h
      split at h
      · rename_i hl
        have e1 : v.cells.size = ns.length := by rw [h1.length, Array.length_toList]
        have e2 : cells.size = cs.length := by rw [hc.length, Array.length_toList]
        unfold Instr.fill
        rw [hp i x hx]
        simp only
        rw [if_neg (by simp; omega)]
        have e3 : (Array.foldl (fun (cs : Array Value) (x_1 : Value × Nat) => cs.setIfInBounds (x.1 + x_1.2) x_1.1) cells v.cells.zipIdx).toList = setV cells.toList x.1 v.cells.toList := by
          rw [← Array.foldl_toList, Array.toList_zipIdx]
          exact fold_setV _ 0 _ _
        exact fillSV_ok hp h h2 (by rw [e3]; exact setR_ok _ hc h1)
      · cases h
def cellsOf : AV → Option (List SV)
  | .one (.cell .any) => none
  | .one (.cell s) => some [s]
  | .one (.agg cs) => some cs
  | _ => none
theorem cellsOf_ok {E : Env} {av : AV} {cs : List SV} (h : cellsOf av = some cs) {v : Value} (hv : hasAV E av v) : hasL E cs v.cells.toList := by
  cases av with
  | any => cases h
  | tup vs => cases h
  | one x => cases x with
    | agg cs' => cases h; obtain ⟨vs, rfl, h1⟩ := hv; exact h1
    | cell s =>
      have : v.cells.toList = [v] := by
        cases s with
        | any => cases h
        | bool t ft ff => obtain ⟨b, rfl, _⟩ := hv; rfl
        | int k lo hi sy => obtain ⟨b, rfl, _⟩ := hv; rfl
        | str => obtain ⟨b, rfl⟩ := hv; rfl
        | ptr b o => obtain ⟨_, rfl⟩ := hv; rfl
        | eptr c j => obtain ⟨g, o, n, rfl, _⟩ := hv; rfl
        | cur => obtain ⟨g, rfl, _⟩ := hv; rfl
        | nils => have e : v = .slice none 0 0 := hv; rw [e]; rfl
        | slice c lo hi sy => obtain ⟨a, l, c, rfl, _⟩ := hv; rfl
      rw [this]
      cases s <;> first | (cases h; exact ⟨hv, trivial⟩) | cases h
theorem cellsOne (E : Env) {s : SV} {v : Value} (h : hasSV E s v) (hs : s ≠ .any) : v.oneCell' = true := by
  cases s with
  | any => exact absurd rfl hs
  | bool t ft ff => obtain ⟨b, rfl, _⟩ := h; rfl
  | int k lo hi sy => obtain ⟨b, rfl, _⟩ := h; rfl
  | str => obtain ⟨b, rfl⟩ := h; rfl
  | ptr b o => obtain ⟨_, rfl⟩ := h; rfl
  | eptr c j => obtain ⟨g, o, n, rfl, _⟩ := h; rfl
  | cur => obtain ⟨g, rfl, _⟩ := h; rfl
  | nils => have e : v = .slice none 0 0 := h; rw [e]; rfl
  | slice c lo hi sy => obtain ⟨a, l, c, rfl, _⟩ := h; rfl
end
end Go.Proofs.Ytnoelppkcbelcaa.Ty

/-
Operations that only reckon: what they yield, whatever memory is.
-/
set_option linter.unusedVariables false
set_option linter.unusedSimpArgs false
namespace Go.Proofs.Ytnoelppkcbelcaa.Ty
open Go

def partAbs (ρ : Operand → AV) : List (Nat × Operand) → Option (List (Nat × List SV))
  | [] => some []
  | (i, x) :: r => match cellsOf (ρ x), partAbs ρ r with
    | some cs, some r' => some ((i, cs) :: r')
    | _, _ => none
theorem partAbs_ok {E : Env} {ρ : Operand → AV} {e : Operand → Value} (h : ∀ x, hasAV E (ρ x) (e x)) : ∀ {ps : List (Nat × Operand)} {r : List (Nat × List SV)}, partAbs ρ ps = some r → partsL E r (ps.map fun (i, x) => (i, e x))
  | [], r, hr => by cases hr; trivial
  | (i, x) :: ps, r, hr => by
    unfold partAbs at hr
    cases h1 : cellsOf (ρ x) with
    | none => rw [h1] at hr; cases hr
    | some cs => cases h2 : partAbs ρ ps with
      | none => rw [h1, h2] at hr; cases hr
      | some r' =>
        rw [h1, h2] at hr
        cases hr
        exact ⟨rfl, cellsOf_ok h1 (h x), partAbs_ok h h2⟩
/-- Is the place within the row? -/
def inRow (lt : List (Nat × Nat)) (lo hi : Int) (sy : Option (Nat × Int)) (l : Nat) (ls : Option Nat) : Bool :=
  decide (0 ≤ lo) && (decide (hi < l) || match sy, ls with
    | some (s, d), some t => decide (d = 0) && memP s t lt
    | _, _ => false)
def pickP (tab : TypeId → Option TD) (lt : List (Nat × Nat)) (ρ : Operand → AV) (c x y : Operand) : Option AV := match ρ c with
    | .one (.cell (.bool (some b) _ _)) => some (if b then ρ x else ρ y)
    | _ => none
def nilP (tab : TypeId → Option TD) (lt : List (Nat × Nat)) (ρ : Operand → AV) (x : Operand) : Option AV := match ρ x with
    | .one (.cell (.ptr b o)) => some (.one (.cell (.ptr b o)))
    | .one (.cell (.eptr c j)) => some (.one (.cell (.eptr c j)))
    | .one (.cell .cur) => some (.one (.cell .cur))
    | _ => none
def binP (tab : TypeId → Option TD) (lt : List (Nat × Nat)) (ρ : Operand → AV) (op : BinOp) (t : TypeId) (x y : Operand) : Option AV := match ρ x, ρ y with
    | .one (.cell (.int k lx hx sx)), .one (.cell (.int k' ly hy sy)) => if k = k' then (intSV op k lx hx sx ly hy sy).map fun s => .one (.cell s) else none
    | .one (.cell .str), .one (.cell .str) => match op with
      | .eql => some (.one (.cell (.bool none [] [])))
      | .neq => some (.one (.cell (.bool none [] [])))
      | _ => none
    | .one (.cell (.bool _ _ _)), .one (.cell (.bool _ _ _)) => match tab t with
      | some d => if d.bool = true then (match op with
        | .eql => some (.one (.cell (.bool none [] [])))
        | .neq => some (.one (.cell (.bool none [] [])))
        | _ => none) else none
      | none => none
    | _, _ => none
def unP (tab : TypeId → Option TD) (lt : List (Nat × Nat)) (ρ : Operand → AV) (op : UnOp) (x : Operand) : Option AV := match op, ρ x with
    | .not, .one (.cell (.bool t ft ff)) => some (.one (.cell (.bool (t.map not) ff ft)))
    | .neg, .one (.cell (.int k lo hi sy)) => some (.one (.cell (fitSV k (0 - hi) (0 - lo) none)))
    | .xor, .one (.cell (.int k lo hi sy)) => some (.one (.cell (.int k k.min k.max none)))
    | _, _ => none
def convP (tab : TypeId → Option TD) (lt : List (Nat × Nat)) (ρ : Operand → AV) (s t : TypeId) (x : Operand) : Option AV := match tab s, tab t, ρ x with
    | some _, some d, .one (.cell (.int k lo hi sy)) => d.ik.map fun k' => .one (.cell (fitSV k' lo hi sy))
    | _, _, _ => none
def faddrP (tab : TypeId → Option TD) (lt : List (Nat × Nat)) (ρ : Operand → AV) (t : TypeId) (x : Operand) (f : Nat) : Option AV := match tab t with
    | some d => match d.fields with
      | some fs => match fs[f]?, ρ x with
        | some g, .one (.cell (.ptr b o)) => if g.2.1 = 0 then none else some (.one (.cell (.ptr b (o + g.1))))
        | some g, .one (.cell (.eptr c j)) => if g.2.1 = 0 then none else some (.one (.cell (.eptr c (j + g.1))))
        | _, _ => none
      | none => none
    | none => none
def fieldP (tab : TypeId → Option TD) (lt : List (Nat × Nat)) (ρ : Operand → AV) (t : TypeId) (x : Operand) (f : Nat) : Option AV := match tab t with
    | some d => match d.fields with
      | some fs => match fs[f]?, ρ x with
        | some g, .one (.agg cs) => if g.2.2 = true then some (.one (.agg ((cs.drop g.1).take g.2.1))) else (cs[g.1]?).map fun s => .one (.cell s)
        | _, _ => none
      | none => none
    | none => none
def iaddrP (tab : TypeId → Option TD) (lt : List (Nat × Nat)) (ρ : Operand → AV) (t : TypeId) (x i : Operand) : Option AV := match tab t, ρ x, ρ i with
    | some d, .one (.cell (.slice c l h sl)), .one (.cell (.int _ lo hi sy)) => match d.elem with
      | some e => match tab e with
        | some de => if de.size = c.length ∧ inRow lt lo hi sy l sl = true then some (.one (.cell (.eptr c 0))) else none
        | none => none
      | none => none
    | _, _, _ => none
def extrP (tab : TypeId → Option TD) (lt : List (Nat × Nat)) (ρ : Operand → AV) (x : Operand) (i : Nat) : Option AV := match ρ x with
    | .tup vs => (vs[i]?).map .one
    | _ => none
def buildP (tab : TypeId → Option TD) (lt : List (Nat × Nat)) (ρ : Operand → AV) (t : TypeId) (ps : Array (Nat × Operand)) : Option AV := match tab t with
    | some d => match d.fields, d.zero, partAbs ρ ps.toList with
      | some fs, some z, some r => (fillSV fs z r).map fun cs => .one (.agg cs)
      | _, _, _ => none
    | none => none
def lenP (tab : TypeId → Option TD) (lt : List (Nat × Nat)) (ρ : Operand → AV) (c : Call) : Option AV := match c.callee, c.args.toList, c.argTypes.toList with
    | .builtin .len, [x], [t] => match tab t, ρ x with
      | some d, .one (.cell (.slice _ lo hi sy)) => if d.elem.isSome then some (.one (.cell (.int .i64 lo hi (sy.map fun s => (s, 0))))) else none
      | some d, .one (.cell .nils) => if d.elem.isSome then some (.one (.cell (.int .i64 0 0 none))) else none
      | _, _ => none
    | _, _, _ => none
/-- One element cut out of a row, at a place below its length. -/
def slcP (tab : TypeId → Option TD) (lt : List (Nat × Nat)) (ρ : Operand → AV) (t : TypeId) (x : Operand) : Option Operand → Option Operand → Option Operand → Option AV
  | some lo, some hi, none => match tab t, ρ x, ρ lo, ρ hi with
    | some d, .one (.cell (.slice c _ _ (some q))), .one (.cell (.int _ ll _ (some (y, dy)))), .one (.cell (.int _ _ _ (some (z, dz)))) => match d.elem with
      | some e => match tab e with
        | some de => if de.size = c.length ∧ y = z ∧ dy = 0 ∧ dz = 1 ∧ 0 ≤ ll ∧ memP y q lt = true then some (.one (.cell (.slice c 1 1 none))) else none
        | none => none
      | none => none
    | _, _, _, _ => none
  | _, _, _ => none
def pureOp (tab : TypeId → Option TD) (lt : List (Nat × Nat)) (ρ : Operand → AV) : Op → Option AV
  | .move x => some (ρ x)
  | .assign x => some (ρ x)
  | .pick c x y => pickP tab lt ρ c x y
  | .nilCheck x => nilP tab lt ρ x
  | .binOp op t x y _ => binP tab lt ρ op t x y
  | .unOp op _ x => unP tab lt ρ op x
  | .convert s t x => convP tab lt ρ s t x
  | .fieldAddr t x f => faddrP tab lt ρ t x f
  | .field t x f => fieldP tab lt ρ t x f
  | .indexAddr t x i => iaddrP tab lt ρ t x i
  | .extract x i => extrP tab lt ρ x i
  | .build t ps => buildP tab lt ρ t ps
  | .call c => lenP tab lt ρ c
  | .slice t x lo hi mx => slcP tab lt ρ t x lo hi mx
  | _ => none
theorem addr_add (a : Addr) (n : Nat) (h : a.spot = none) : a.add n = ⟨a.block, a.off + n, none⟩ := by
  cases a with
  | mk b o s =>
    have hs : s = none := h
    subst hs
    exact Addr.add_lit b o n
theorem slcP_ok {P : Program} {tab : TypeId → Option TD} (hT : TabOK P tab) {E : Env} {lt : List (Nat × Nat)} (hl : ∀ x y, (x, y) ∈ lt → x < E.nx ∧ y < E.nx ∧ E.σ x < E.σ y)
    {ρ : Operand → AV} {e : Operand → Value} (he : ∀ x, hasAV E (ρ x) (e x)) {t : TypeId} {x : Operand} {lo hi mx : Option Operand} {av : AV} (h : slcP tab lt ρ t x lo hi mx = some av) :
    ∃ v, (∀ w, (Instr.sliceAt t (e x) (lo.map e) (hi.map e) (mx.map e)).run P w = .ok v w) ∧ hasAV E av v := by
  unfold slcP at h
  split at h
  · rename_i lo hi
    split at h
    · rename_i d c l0 h0 q k ll lh y dy k' ml mh z dz hd heq1 heq2 heq3
      split at h
      · rename_i ee hee
        split at h
        · rename_i de hde
          split at h
          · rename_i hc
            cases h
            obtain ⟨c1, rfl, rfl, rfl, c2, c3⟩ := hc
            have hx := he x
            have hlo := he lo
            have hhi := he hi
            rw [heq1] at hx
            rw [heq2] at hlo
            rw [heq3] at hhi
            obtain ⟨a, l, cc, hv, a0, a1, a2, a3, a4, a5⟩ := hx
            obtain ⟨n, hn, n0, n1, n2⟩ := hlo
            obtain ⟨m, hm, m0, m1, m2⟩ := hhi
            have q1 := (n2 y 0 rfl).2
            have q2 := (m2 y 1 rfl).2
            have q3 := (a3 q rfl).2
            have q4 := (hl y q (memP_mem c3)).2.2
            have hm1 : m = n + 1 := by omega
            have hnl : n < l := by omega
            obtain ⟨N, rfl⟩ := Int.eq_ofNat_of_zero_le (show 0 ≤ n by omega)
            have hu := hT.elem hd hee
            have hel : P.elem t = ee := by simp [Program.elem, hu]
            have hu' : P.underlying t = some (.slice (P.elem t)) := by rw [hel]; exact hu
            have hnc : N < cc := by omega
            cases a with
            | none => have := a4 rfl; omega
            | some ad =>
              obtain ⟨b1, M, b2, b3, b4⟩ := a5 ad rfl
              refine ⟨.slice (some ⟨ad.block, ad.off + N * de.size, none⟩) 1 (cc - N), fun w => ?_, some ⟨ad.block, ad.off + N * de.size, none⟩, 1, cc - N, rfl, by omega, by omega, by omega, fun s hs => (by cases hs), fun hh => (by cases hh), fun ad' had => ?_⟩
              · simp only [Option.map_some, Option.map_none]
                rw [hv, hn, hm, hm1, run_sliceAt_slice (h := hu'), run_slice_lh (ht := hu') (h0 := by omega) (h1 := by omega) (h2 := by omega), hel, hT.size hde w, Result.andThen_ok]
                have e1 : ((N : Int) + 1).toNat = N + 1 := by omega
                have e2 : ((N : Int)).toNat = N := by omega
                rw [e1, e2]
                unfold sliced
                rw [if_neg (by omega), Option.map_some, addr_add ad _ b1, Nat.add_sub_cancel_left]
              · cases had
                refine ⟨rfl, M, b2, ?_, ?_⟩
                · show (ad.off + N * de.size) % c.length = 0
                  rw [c1, Nat.add_mul_mod_self_right]
                  exact b3
                · show ad.off + N * de.size + (cc - N) * c.length ≤ M
                  rw [c1, Nat.add_assoc, ← Nat.add_mul]
                  rw [show N + (cc - N) = cc by omega]
                  exact b4
          · cases h
        · cases h
      · cases h
    · cases h
  · cases h
theorem lt_of {α : Type} {E : Env} {lt : List (Nat × Nat)} (hl : ∀ x y, (x, y) ∈ lt → x < E.nx ∧ y < E.nx ∧ E.σ x < E.σ y) {s t : Nat} (h : memP s t lt = true) : E.σ s < E.σ t := (hl s t (memP_mem h)).2.2
set_option maxHeartbeats 1000000 in
theorem pureOp_ok {P : Program} {tab : TypeId → Option TD} (hT : TabOK P tab) {E : Env} {lt : List (Nat × Nat)} (hl : ∀ x y, (x, y) ∈ lt → x < E.nx ∧ y < E.nx ∧ E.σ x < E.σ y)
    {ρ : Operand → AV} {e : Operand → Value} (he : ∀ x, hasAV E (ρ x) (e x)) (o : Oper) {av : AV} (h : pureOp tab lt ρ o.op = some av) :
    ∃ v, (∀ w, (execOp e o).run P w = .ok (.value v) w) ∧ hasAV E av v := by
  obtain ⟨dst, op, ty, pos, after, guard⟩ := o
  simp only at h
  cases op <;> simp only [pureOp, pickP, nilP, binP, unP, convP, faddrP, fieldP, iaddrP, extrP, buildP, lenP] at h <;> (try (cases h; done))
  case move x => cases h; exact ⟨e x, fun w => by simp [execOp], he x⟩
  case assign x => cases h; exact ⟨e x, fun w => by simp [execOp], he x⟩
  case pick c x y =>
    have hc := he c
    split at h
    · rename_i b ft ff heq
      cases h
      rw [heq] at hc
      obtain ⟨b', hb, h1, _⟩ := hc
      obtain rfl := h1 b rfl
      refine ⟨if b' then e x else e y, fun w => by simp [execOp, hb, asBool], ?_⟩
      cases b'
      · exact he y
      · exact he x
    · cases h
  case nilCheck x =>
    have hx := he x
    split at h <;> first | cases h | skip
    · rename_i b o heq
      rw [heq] at hx
      obtain ⟨h1, h2⟩ := hx
      exact ⟨e x, fun w => by simp [execOp, h2], by exact ⟨h1, h2⟩⟩
    · rename_i c j heq
      rw [heq] at hx
      obtain ⟨g, o, n, h2, h3⟩ := hx
      exact ⟨e x, fun w => by simp [execOp, h2], by exact ⟨g, o, n, h2, h3⟩⟩
    · rename_i heq
      rw [heq] at hx
      obtain ⟨g, h2, h3⟩ := hx
      exact ⟨e x, fun w => by simp [execOp, h2], by exact ⟨g, h2, h3⟩⟩
  case binOp op t x y t2 =>
    have hx := he x
    have hy := he y
    split at h
    · rename_i k lx hx' sx k' ly hy' sy heq1 heq2
      split at h
      · rename_i hk
        subst hk
        rw [heq1] at hx
        rw [heq2] at hy
        obtain ⟨n, hn, n0, n1, n2⟩ := hx
        obtain ⟨m, hm, m0, m1, m2⟩ := hy
        cases hr : intSV op k lx hx' sx ly hy' sy with
        | none => rw [hr] at h; cases h
        | some r =>
          rw [hr] at h
          cases h
          obtain ⟨v, h1, h2⟩ := intSV_ok (P := P) hr n0 n1 n2 m0 m1 m2 t
          refine ⟨v, fun w => ?_, h2⟩
          simp only [execOp, hn, hm, eqGuard]
          have h3 := h1 w
          cases op <;> simp [h3]
      · cases h
    · rename_i heq1 heq2
      rw [heq1] at hx
      rw [heq2] at hy
      obtain ⟨n, hn⟩ := hx
      obtain ⟨m, hm⟩ := hy
      cases op <;> first | (cases h; done) | skip
      · cases h
        exact ⟨.bool (n.toList == m.toList), fun w => by simp [execOp, hn, hm, eqGuard, binOp, Op.stringOp], ⟨_, rfl, fun c hc => (by cases hc), fun _ f hf => absurd hf (by simp), fun _ f hf => absurd hf (by simp)⟩⟩
      · cases h
        exact ⟨.bool (!(n.toList == m.toList)), fun w => by simp [execOp, hn, hm, eqGuard, binOp, Op.stringOp], ⟨_, rfl, fun c hc => (by cases hc), fun _ f hf => absurd hf (by simp), fun _ f hf => absurd hf (by simp)⟩⟩
    · rename_i heq1 heq2
      rw [heq1] at hx
      rw [heq2] at hy
      obtain ⟨n, hn, _⟩ := hx
      obtain ⟨m, hm, _⟩ := hy
      split at h
      · rename_i d hd
        split at h
        · rename_i hb
          have hu := hT.bool hd hb
          have hq : ∀ w, (Op.equal t (.bool n) (.bool m)).run P w = .ok (n == m) w := fun w => by
            unfold Op.equal Op.maxDepth
            rw [Op.equalIn]
            simp [run_underlying hu]
          cases op <;> first | (cases h; done) | skip
          · cases h
            exact ⟨.bool (n == m), fun w => by simp [execOp, hn, hm, eqGuard, binOp, hq], ⟨_, rfl, fun c hc => (by cases hc), fun _ f hf => absurd hf (by simp), fun _ f hf => absurd hf (by simp)⟩⟩
          · cases h
            exact ⟨.bool (!(n == m)), fun w => by simp [execOp, hn, hm, eqGuard, binOp, hq], ⟨_, rfl, fun c hc => (by cases hc), fun _ f hf => absurd hf (by simp), fun _ f hf => absurd hf (by simp)⟩⟩
        · cases h
      · cases h
    · cases h
  case unOp op t x =>
    have hx := he x
    split at h <;> first | (cases h; done) | skip
    · rename_i t' ft ff heq
      cases h
      rw [heq] at hx
      obtain ⟨b, hb, h1, h2, h3⟩ := hx
      refine ⟨.bool (!b), fun w => by simp [execOp, hb, Op.unary], ⟨!b, rfl, fun c hc => ?_, fun hc => h3 (by simpa using hc), fun hc => h2 (by simpa using hc)⟩⟩
      cases t' with
      | none => cases hc
      | some t' => cases hc; rw [h1 t' rfl]
    · rename_i k lo hi sy heq
      cases h
      rw [heq] at hx
      obtain ⟨n, hn, n0, n1, _⟩ := hx
      exact ⟨.int k (k.wrap (0 - n)), fun w => by simp [execOp, hn, Op.unary, Op.intArith], fitSV_ok (by omega) (by omega) fun s d hs => (by cases hs)⟩
    · rename_i k lo hi sy heq
      cases h
      rw [heq] at hx
      obtain ⟨n, hn, n0, n1, _⟩ := hx
      exact ⟨_, fun w => by simp [execOp, hn, Op.unary, Op.intBits]; rfl, full_ok k _⟩
  case convert s t x =>
    have hx := he x
    split at h
    · rename_i ds d k lo hi sy hs ht heq
      rw [heq] at hx
      obtain ⟨n, hn, n0, n1, n2⟩ := hx
      cases hk : d.ik with
      | none => rw [hk] at h; cases h
      | some k' =>
        rw [hk] at h
        cases h
        obtain ⟨_, us, _, hus, _⟩ := hT.get hs
        have hut := hT.ik ht hk
        refine ⟨.int k' (k'.wrap n), fun w => ?_, fitSV_ok n0 n1 n2⟩
        simp only [execOp, hn, convert, Sem.run_bind, run_underlying hus, run_underlying hut, Result.andThen_ok]
        cases us <;> simp [Conv.intToInt]
    · cases h
  case fieldAddr t x f =>
    have hx := he x
    split at h
    · rename_i d hd
      split at h
      · rename_i fs hfs
        obtain ⟨fs', hu, hmk⟩ := hT.fields hd hfs
        have key : ∀ (g : Nat × Nat × Bool), fs[f]? = some g → g.2.1 ≠ 0 → ∀ (ad : Addr), ad.spot = none → e x = .pointer (some ad) → ∀ w, (execOp e ⟨dst, .fieldAddr t x f, ty, pos, after, guard⟩).run P w = .ok (.value (.pointer (some ⟨ad.block, ad.off + g.1, none⟩))) w := by
          intro g hg h0 ad had hex w
          obtain ⟨ff, h1, h2, h3, h4⟩ := mkFields_get hmk hg
          have h5 : fs'[f]? = some ff := by simpa using h1
          simp [execOp, Instr.fieldAt, run_underlying hu, h5, hex, Instr.sureAddr, fieldPlace, h3 w, h0, addr_add ad _ had, ← h2]
        split at h <;> first | (cases h; done) | skip
        · rename_i g b o hg heq
          rw [heq] at hx
          obtain ⟨h1, h2⟩ := hx
          split at h
          · cases h
          · rename_i h0
            cases h
            exact ⟨_, key g hg h0 _ rfl h2, h1, rfl⟩
        · rename_i g c j hg heq
          rw [heq] at hx
          obtain ⟨gg, o, n, h2, h3⟩ := hx
          split at h
          · cases h
          · rename_i h0
            cases h
            exact ⟨_, key g hg h0 _ rfl h2, gg, o, n, by simp only [Nat.add_assoc], h3⟩
      · cases h
    · cases h
  case field t x f =>
    have hx := he x
    split at h
    · rename_i d hd
      split at h
      · rename_i fs hfs
        obtain ⟨fs', hu, hmk⟩ := hT.fields hd hfs
        split at h <;> first | (cases h; done) | skip
        rename_i g cs hg heq
        rw [heq] at hx
        obtain ⟨vs, hv, hL⟩ := hx
        obtain ⟨ff, h1, h2, h3, h4⟩ := mkFields_get hmk hg
        have h5 : fs'[f]? = some ff := by simpa using h1
        split at h
        · rename_i hag
          cases h
          refine ⟨.agg (vs.extract g.1 (g.1 + g.2.1)), fun w => ?_, ⟨_, rfl, ?_⟩⟩
          · simp [execOp, Instr.field, run_underlying hu, h5, hv, asAgg, part, h4 w, hag, h3 w, ← h2]
          · rw [Array.toList_extract, List.extract_eq_take_drop, Nat.add_sub_cancel_left]
            exact (hL.drop _).take _
        · rename_i hag
          cases hc : cs[g.1]? with
          | none => rw [hc] at h; cases h
          | some s =>
            rw [hc] at h
            cases h
            obtain ⟨u, hu1, hu2⟩ := hL.get hc
            have hu3 : vs[g.1]? = some u := by simpa using hu1
            refine ⟨u, fun w => ?_, hu2⟩
            simp [execOp, Instr.field, run_underlying hu, h5, hv, asAgg, part, h4 w, hag, ← h2, hu3]
      · cases h
    · cases h
  case indexAddr t x i =>
    have hx := he x
    have hi := he i
    split at h
    · rename_i d c l hh sl k lo hi' sy hd heq1 heq2
      split at h
      · rename_i ee hee
        split at h
        · rename_i de hde
          split at h
          · rename_i hcond
            cases h
            rw [heq1] at hx
            rw [heq2] at hi
            obtain ⟨a, ll, cc, hv, l0, l1, l2, l3, l4, l5⟩ := hx
            obtain ⟨n, hn, n0, n1, n2⟩ := hi
            obtain ⟨hsz, hin⟩ := hcond
            unfold inRow at hin
            simp only [Bool.and_eq_true, Bool.or_eq_true, decide_eq_true_eq] at hin
            obtain ⟨z0, z1⟩ := hin
            have hlt : n < ll := by
              rcases z1 with z1 | z1
              · omega
              · cases sy with
                | none => simp at z1
                | some q => cases sl with
                  | none => simp at z1
                  | some u =>
                    obtain ⟨s, dd⟩ := q
                    simp only [Bool.and_eq_true, decide_eq_true_eq] at z1
                    have a1 := (n2 s dd rfl).2
                    have a2 := (l3 u rfl).2
                    have a3 := (hl s u (memP_mem z1.2)).2.2
                    omega
            have hu := hT.elem hd hee
            cases a with
            | none => have := l4 rfl; omega
            | some ad =>
              obtain ⟨b1, N, b2, b3, b4⟩ := l5 ad rfl
              refine ⟨.pointer (some ⟨ad.block, ad.off + n.toNat * de.size, none⟩), fun w => ?_, ad.block, ad.off + n.toNat * c.length, N, by rw [hsz]; rfl, b2, ?_, ?_⟩
              · have h0 : 0 ≤ n := by omega
                simp [execOp, Instr.indexAt, hv, hn, asIntOf, run_underlying hu, h0, hlt, hT.size hde w, addr_add ad _ b1]
              · rw [Nat.add_mul_mod_self_right]; exact b3
              · have h6 : n.toNat + 1 ≤ cc := by omega
                have h7 := Nat.mul_le_mul_right c.length h6
                rw [Nat.succ_mul] at h7
                omega
          · cases h
        · cases h
      · cases h
    · cases h
  case extract x i =>
    have hx := he x
    split at h
    · rename_i vs heq
      rw [heq] at hx
      obtain ⟨us, hv, hL⟩ := hx
      cases hc : vs[i]? with
      | none => rw [hc] at h; cases h
      | some s =>
        rw [hc] at h
        cases h
        obtain ⟨u, h1, h2⟩ := hL.get hc
        have h3 : us[i]? = some u := by simpa using h1
        exact ⟨u, fun w => by simp [execOp, hv, Instr.extract, h3], h2⟩
    · cases h
  case build t ps =>
    split at h
    · rename_i d hd
      split at h
      · rename_i fs z r hfs hz hr
        obtain ⟨fs', hu, hmk⟩ := hT.fields hd hfs
        obtain ⟨it, u, h1, _, _, _, _, h2, _⟩ := hT.get hd
        cases hf : fillSV fs z r with
        | none => rw [hf] at h; cases h
        | some cs =>
          rw [hf] at h
          cases h
          rw [h2] at hz
          cases hiz : it.zero with
          | none => rw [hiz] at hz; cases hz
          | some zv =>
            rw [hiz] at hz
            cases hz
            have hparts := partAbs_ok he hr
            have hpl := mkFields_places hmk
            obtain ⟨cells', h3, h4⟩ := fillSV_ok (place := ((fs.map fun x => (x.1, x.2.1)).toArray[·]?)) (fun i x hx => by simp [hx]) hf hparts (zeroL_ok E _)
            refine ⟨.agg cells', fun w => ?_, ⟨cells', rfl, h4⟩⟩
            have hb : P.built t (ps.map fun (i, x) => (i, e x)).toList = some cells' := by
              unfold Program.built
              simp only [h1, hu, hiz, hpl]
              simpa using h3
            simp only [execOp, Sem.run_bind, run_build w t _ cells' hb, Result.andThen_ok, Sem.run_pure]
      · cases h
    · cases h
  case slice t x lo hi mx =>
    obtain ⟨v, h1, h2⟩ := slcP_ok hT hl he h
    exact ⟨v, fun w => by simp [execOp, h1], h2⟩
  case call c =>
    obtain ⟨callee, args, argTypes⟩ := c
    simp only at h
    split at h
    · rename_i x t hargs htys
      have hx := he x
      have ea : args = #[x] := by rw [← Array.toArray_toList (xs := args), hargs]
      have et : argTypes = #[t] := by rw [← Array.toArray_toList (xs := argTypes), htys]
      subst ea et
      split at h <;> first | (cases h; done) | skip
      · rename_i d c lo hi sy hd heq
        split at h
        · rename_i hes
          cases h
          rw [heq] at hx
          obtain ⟨ee, hee⟩ := Option.isSome_iff_exists.1 hes
          have hu := hT.elem hd hee
          obtain ⟨a, l, cc, hv, l0, l1, l2, l3, _⟩ := hx
          refine ⟨.int .i64 l, fun w => ?_, ⟨(l : Int), rfl, by omega, by omega, fun s dd hs => ?_⟩⟩
          · simp [execOp, resolve, invoke, builtin, Builtin.len_, hv, run_underlying hu, goInt]
          · cases sy with
            | none => cases hs
            | some q =>
              obtain ⟨rfl, rfl⟩ : q = s ∧ 0 = dd := by simpa using hs
              obtain ⟨z1, z2⟩ := l3 q rfl
              exact ⟨z1, by omega⟩
        · cases h
      · rename_i d hd heq
        split at h
        · rename_i hes
          cases h
          rw [heq] at hx
          obtain ⟨ee, hee⟩ := Option.isSome_iff_exists.1 hes
          have hu := hT.elem hd hee
          have hv : e x = .slice none 0 0 := hx
          refine ⟨.int .i64 0, fun w => ?_, ⟨0, rfl, by omega, by omega, fun s dd hs => (by cases hs)⟩⟩
          simp [execOp, resolve, invoke, builtin, Builtin.len_, hv, run_underlying hu, goInt]
        · cases h
    · cases h
end Go.Proofs.Ytnoelppkcbelcaa.Ty

/-
Memory: new blocks, cells written, rows.
-/
set_option linter.unusedVariables false
set_option linter.unusedSimpArgs false
namespace Go.Proofs.Ytnoelppkcbelcaa.Ty
open Go Go.RowKit

def CT.sv : CT → SV
  | .bool => .bool none [] []
  | .int k lo hi => .int k lo hi none
  | .str => .str
theorem CT.sv_ok {E : Env} {c : CT} {v : Value} (h : hasCT c v) : hasSV E c.sv v := by
  cases c with
  | bool => obtain ⟨b, rfl⟩ := h; exact ⟨b, rfl, fun c hc => (by cases hc), fun _ f hf => absurd hf (by simp), fun _ f hf => absurd hf (by simp)⟩
  | int k lo hi => obtain ⟨n, rfl, h1, h2⟩ := h; exact ⟨n, rfl, h1, h2, fun s d hs => (by cases hs)⟩
  | str => exact h
theorem CT.one {c : CT} {v : Value} (h : hasCT c v) : v.oneCell' = true := by
  cases c with
  | bool => obtain ⟨b, rfl⟩ := h; rfl
  | int k lo hi => obtain ⟨n, rfl, _⟩ := h; rfl
  | str => obtain ⟨n, rfl⟩ := h; rfl
def leCT : SV → CT → Bool
  | .bool _ _ _, .bool => true
  | .int k lo hi _, .int k' lo' hi' => decide (k = k') && (decide (lo' ≤ lo) && decide (hi ≤ hi'))
  | .str, .str => true
  | _, _ => false
theorem leCT_ok {E : Env} {s : SV} {c : CT} (h : leCT s c = true) {v : Value} (hv : hasSV E s v) : hasCT c v := by
  cases s <;> cases c <;> first | (simp [leCT] at h; done) | skip
  · obtain ⟨b, rfl, _⟩ := hv; exact ⟨b, rfl⟩
  · simp only [leCT, Bool.and_eq_true, decide_eq_true_eq] at h
    obtain ⟨rfl, h1, h2⟩ := h
    obtain ⟨n, rfl, h3, h4, _⟩ := hv
    exact ⟨n, rfl, by omega, by omega⟩
  · exact hv
/-- The cells of a row from a place on, as its element says. -/
def Pat (cts : List CT) (o : Nat) (us : List Value) : Prop := ∀ i v, us[i]? = some v → ∃ c, cts[(o + i) % cts.length]? = some c ∧ hasCT c v
theorem Pat.one {cts : List CT} {o : Nat} {us : List Value} (h : Pat cts o us) : ∀ v ∈ us, v.oneCell' = true := by
  intro v hv
  obtain ⟨i, hi, rfl⟩ := List.mem_iff_getElem.1 hv
  obtain ⟨c, _, h2⟩ := h i us[i] (List.getElem?_eq_getElem hi)
  exact CT.one h2
theorem setV_length : ∀ (us vs : List Value) (o : Nat), (setV vs o us).length = vs.length
  | [], _, _ => rfl
  | u :: us, vs, o => by rw [setV, setV_length us, List.length_set]
theorem setV_lt : ∀ (us vs : List Value) (o i : Nat), i < o → (setV vs o us)[i]? = vs[i]?
  | [], _, _, _, _ => rfl
  | u :: us, vs, o, i, h => by rw [setV, setV_lt us _ _ _ (by omega), List.getElem?_set_ne (by omega)]
theorem setV_ge : ∀ (us vs : List Value) (o i : Nat), o + us.length ≤ i → (setV vs o us)[i]? = vs[i]?
  | [], _, _, _, _ => rfl
  | u :: us, vs, o, i, h => by
    rw [List.length_cons] at h
    rw [setV, setV_ge us _ _ _ (by omega), List.getElem?_set_ne (by omega)]
theorem setV_in : ∀ (us vs : List Value) (o i : Nat), o + us.length ≤ vs.length → o ≤ i → i < o + us.length → (setV vs o us)[i]? = us[i - o]?
  | [], _, _, _, _, _, h => by simp at h; omega
  | u :: us, vs, o, i, h, h0, h1 => by
    rw [List.length_cons] at h h1
    rw [setV]
    by_cases hi : i = o
    · subst hi
      rw [setV_lt us _ _ _ (by omega), List.getElem?_set_self (by omega), Nat.sub_self]
      rfl
    · rw [setV_in us _ _ _ (by rw [List.length_set]; omega) (by omega) (by omega), show i - o = (i - (o + 1)) + 1 by omega]
      rfl
/-- Memory as it was, but for one block's cells. -/
structure Upd (g : Nat) (w w' : World) : Prop where
  os : w'.os = w.os
  tape : w'.tape = w.tape
  output : w'.output = w.output
  size : w'.heap.size = w.heap.size
  other : ∀ k, k ≠ g → w'.heap[k]? = w.heap[k]?
theorem Upd.refl (g : Nat) (w : World) : Upd g w w := ⟨rfl, rfl, rfl, rfl, fun _ _ => rfl⟩
theorem run_storeCells_at {P : Program} {g o : Nat} {t : TypeId} : ∀ (vs : List Value) (i : Nat) (w : World) (cs : Array Value), w.heap[g]? = some (.cells cs t (0, 0)) → o + i + vs.length ≤ cs.size → (∀ v ∈ vs, v.oneCell' = true) →
    ∃ w' cs', (storeCells ⟨g, o, none⟩ vs i).run P w = .ok () w' ∧ Upd g w w' ∧ w'.heap[g]? = some (.cells cs' t (0, 0)) ∧ cs'.toList = setV cs.toList (o + i) vs
  | [], i, w, cs, h, _, _ => ⟨w, cs, rfl, Upd.refl g w, h, rfl⟩
  | v :: vs, i, w, cs, h, hl, h1 => by
    rw [List.length_cons] at hl
    have hadd : (⟨g, o, none⟩ : Addr).add i = ⟨g, o + i, none⟩ := Addr.add_lit g o i
    have hc : w.cell? ⟨g, o + i, none⟩ = some (cs[o + i]'(by omega)) := by
      simp only [World.cell?, h]
      simp [show o + i < cs.size by omega]
    have hf : w.frozen? ⟨g, o + i, none⟩ = false := by
      simp only [World.frozen?, h]
      simp
    have hs : (store ⟨g, o + i, none⟩ v .plain).run P w = .ok () (w.setCell ⟨g, o + i, none⟩ v) := by
      rw [run_store P w _ v _ (h1 v List.mem_cons_self), hc, hf]
      simp
    have hg : (w.setCell ⟨g, o + i, none⟩ v).heap[g]? = some (.cells (cs.setIfInBounds (o + i) v) t (0, 0)) := by
      simp [World.setCell, Array.getElem?_modify, h]
    obtain ⟨w', cs', r1, r2, r3, r4⟩ := run_storeCells_at (P := P) (g := g) (o := o) (t := t) vs (i + 1) (w.setCell ⟨g, o + i, none⟩ v) _ hg (by simp; omega) (fun u hu => h1 u (List.mem_cons_of_mem _ hu))
    refine ⟨w', cs', ?_, ⟨r2.os, r2.tape, r2.output, r2.size.trans (by simp [World.setCell]), fun k hk => (r2.other k hk).trans (Below.heap_setCell w ⟨g, o + i, none⟩ v k hk)⟩, r3, ?_⟩
    · rw [storeCells]
      simp only [Sem.run_bind, hadd, hs, Result.andThen_ok]
      exact r1
    · rw [r4, Array.toList_setIfInBounds]
      rfl
theorem run_loadCells_at {P : Program} {w : World} {g o n : Nat} {t : TypeId} {cs : Array Value} {fr : Nat × Nat} (h : w.heap[g]? = some (.cells cs t fr)) (hn : o + n ≤ cs.size) :
    (loadCells ⟨g, o, none⟩ n).run P w = .ok ((cs.toList.drop o).take n).toArray w := by
  have hl : ((cs.toList.drop o).take n).length = n := by simp; omega
  have h1 := run_loadCells_list (P := P) w ⟨g, o, none⟩ ((cs.toList.drop o).take n) (fun j v hv => by
    have hj : j < n := by
      have := (List.getElem?_eq_some_iff.1 hv).1
      omega
    rw [Addr.add_lit]
    simp only [World.cell?, h]
    rw [List.getElem?_take_of_lt hj, List.getElem?_drop] at hv
    simpa using hv)
  rw [hl] at h1
  exact h1
theorem run_load_at {P : Program} {w : World} {g o : Nat} {t : TypeId} {cs : Array Value} {fr : Nat × Nat} {v : Value} (h : w.heap[g]? = some (.cells cs t fr)) (hv : cs[o]? = some v) : (load ⟨g, o, none⟩).run P w = .ok v w := by
  have hc : w.cell? ⟨g, o, none⟩ = some v := by
    simp only [World.cell?, h]
    simpa using hv
  rw [run_load, hc]
section
variable {X : Ctx} {E : Env} {S : St} {a : Act} {w w' : World}
theorem Good.blk_lt (h : Good X E S a w) {b : Nat} {t : TypeId} {cs : List SV} (hb : S.bl[b]? = some (t, cs)) : E.β b < w.heap.size := by
  obtain ⟨_, _, vs, h1, _⟩ := h.blks.at_ b t cs hb
  exact (Array.getElem?_eq_some_iff.1 h1).1
/-- What only counts draws. -/
theorem Good.draw (h : Good X E S a w) (n : Nat) : Good X E S a { w with drawn := n } :=
  ⟨h.defers, h.len, h.nx, h.tmps, ⟨h.kinv.rows, h.kinv.curs, h.kinv.ros⟩, ⟨h.fr.os, h.fr.tape, h.fr.output, h.fr.size, h.fr.kept, h.fr.kext⟩, ⟨h.blks.nb, h.blks.at_, h.blks.inj, h.blks.first⟩, h.lts, h.held⟩
def Env.blk (E : Env) (g : Nat) : Env := { E with β := fun b => if b = E.nb then g else E.β b, nb := E.nb + 1 }
theorem Ext.blk (E : Env) (g : Nat) : Ext E (E.blk g) := ⟨Nat.le_refl _, fun _ _ => rfl, Nat.le_succ _, fun b hb => if_neg (Nat.ne_of_lt hb), fun _ _ h => h⟩
/-- A new variable. -/
theorem Good.newBlk (h : Good X E S a w) (t : TypeId) {cs : List SV} {vs : Array Value} (hL : hasL E cs vs.toList) :
    Good X (E.blk w.heap.size) { S with bl := S.bl ++ [(t, cs)] } a (w.alloc (.cells vs t (0, 0))) := by
  have hx := Ext.blk E w.heap.size
  have hold : ∀ k, k < w.heap.size → (w.alloc (.cells vs t (0, 0))).heap[k]? = w.heap[k]? := fun k hk => Below.heap_alloc w _ k hk
  have hnew : (w.alloc (.cells vs t (0, 0))).heap[w.heap.size]? = some (.cells vs t (0, 0)) := by
    show (w.heap.push _)[w.heap.size]? = _
    simp
  have hKn : E.K w.heap.size = none := by
    cases hk : E.K w.heap.size with
    | none => rfl
    | some k => exact absurd (h.kinv.lt hk) (Nat.lt_irrefl _)
  refine ⟨h.defers, h.len, h.nx, fun i => (h.tmps i).ext hx, ⟨fun g cts n hg => ?_, fun g hg => ?_, fun g o hg => ?_⟩, ⟨h.fr.os, h.fr.tape, h.fr.output, Nat.le_trans h.fr.size (by show _ ≤ (w.heap.push _).size; simp), fun g hg h0 hp => ?_, h.fr.kext⟩, ⟨?_, fun b t' cs' hb => ?_, fun b c hb hc he => ?_, fun g0 hg0 => ?_⟩, h.lts, fun b hb => ?_⟩
  · rw [hold g (h.kinv.lt hg)]; exact h.kinv.rows g cts n hg
  · rw [hold g (h.kinv.lt hg)]; exact h.kinv.curs g hg
  · rw [hold g (h.kinv.lt hg)]; exact h.kinv.ros g o hg
  · rw [hold g (Nat.lt_of_lt_of_le hg h.fr.size)]; exact h.fr.kept g hg h0 hp
  · simp [Env.blk, h.blks.nb]
  · rw [List.getElem?_append] at hb
    by_cases hlt : b < S.bl.length
    · rw [if_pos hlt] at hb
      obtain ⟨h1, h2, us, h3, h4⟩ := h.blks.at_ b t' cs' hb
      have e : (E.blk w.heap.size).β b = E.β b := hx.β b (by rw [h.blks.nb]; exact hlt)
      rw [e]
      exact ⟨h1, h2, us, by rw [hold _ (h.blk_lt hb)]; exact h3, h4.ext hx⟩
    · rw [if_neg hlt] at hb
      have hb0 : b = S.bl.length := by
        have := (List.getElem?_eq_some_iff.1 hb).1
        simp at this
        omega
      subst hb0
      have : (t, cs) = (t', cs') := by simpa using hb
      cases this
      have e : (E.blk w.heap.size).β S.bl.length = w.heap.size := by simp [Env.blk, h.blks.nb]
      rw [e]
      exact ⟨hKn, .inl h.fr.size, vs, hnew, hL.ext hx⟩
  · have key : ∀ b, b < S.bl.length → (E.blk w.heap.size).β b = E.β b ∧ E.β b < w.heap.size := fun b hb => by
      refine ⟨hx.β b (by rw [h.blks.nb]; exact hb), ?_⟩
      exact h.blk_lt (t := (S.bl[b]).1) (cs := (S.bl[b]).2) (by rw [List.getElem?_eq_getElem hb])
    have e : (E.blk w.heap.size).β S.bl.length = w.heap.size := by simp [Env.blk, h.blks.nb]
    simp only [List.length_append, List.length_cons, List.length_nil] at hb hc
    by_cases hb1 : b < S.bl.length
    · by_cases hc1 : c < S.bl.length
      · rw [(key b hb1).1, (key c hc1).1] at he
        exact h.blks.inj b c hb1 hc1 he
      · obtain rfl : c = S.bl.length := by omega
        rw [(key b hb1).1, e] at he
        have := (key b hb1).2
        omega
    · obtain rfl : b = S.bl.length := by omega
      by_cases hc1 : c < S.bl.length
      · rw [(key c hc1).1, e] at he
        have := (key c hc1).2
        omega
      · omega
  · obtain ⟨h1, cs0, h2⟩ := h.blks.first g0 hg0
    have h3 : 0 < S.bl.length := (List.getElem?_eq_some_iff.1 h2).1
    exact ⟨(hx.β 0 (by rw [h.blks.nb]; exact h3)).trans h1, cs0, by rw [List.getElem?_append_left h3]; exact h2⟩
  · obtain ⟨h1, h2, h3⟩ := h.held b hb
    have h4 := h.blk_lt (t := (S.bl[b]).1) (cs := (S.bl[b]).2) (b := b) (by rw [List.getElem?_eq_getElem h1])
    refine ⟨by simp; omega, (hx.β b (by rw [h.blks.nb]; exact h1)).trans h2, ?_⟩
    rw [← h3, ← h2]
    exact hold _ h4
def Env.row (E : Env) (g : Nat) (k : KT) : Env := { E with K := fun x => if x = g then some k else E.K x }
theorem Good.newRow_ext (h : Good X E S a w) (k : KT) : Ext E (E.row w.heap.size k) :=
  ⟨Nat.le_refl _, fun _ _ => rfl, Nat.le_refl _, fun _ _ => rfl, fun g x hg => by
    have := h.kinv.lt hg
    simp only [Env.row]
    rw [if_neg (by omega)]
    exact hg⟩
/-- A new row. -/
theorem Good.newRow (h : Good X E S a w) (t : TypeId) {cts : List CT} {vs : Array Value} (h0 : 0 < cts.length) (hn : vs.size % cts.length = 0) (hp : Pat cts 0 vs.toList) :
    Good X (E.row w.heap.size (.row cts vs.size)) S a (w.alloc (.cells vs t (0, 0))) := by
  have hx := h.newRow_ext (.row cts vs.size)
  have hold : ∀ k, k < w.heap.size → (w.alloc (.cells vs t (0, 0))).heap[k]? = w.heap[k]? := fun k hk => Below.heap_alloc w _ k hk
  have hnew : (w.alloc (.cells vs t (0, 0))).heap[w.heap.size]? = some (.cells vs t (0, 0)) := by
    show (w.heap.push _)[w.heap.size]? = _
    simp
  have hK : ∀ g x, (E.row w.heap.size (.row cts vs.size)).K g = some x → (g = w.heap.size ∧ x = .row cts vs.size) ∨ (g < w.heap.size ∧ E.K g = some x) := fun g x hg => by
    simp only [Env.row] at hg
    split at hg
    · rename_i he; cases hg; exact .inl ⟨he, rfl⟩
    · exact .inr ⟨h.kinv.lt hg, hg⟩
  refine ⟨h.defers, h.len, h.nx, fun i => (h.tmps i).ext hx, ⟨fun g c n hg => ?_, fun g hg => ?_, fun g o hg => ?_⟩, ⟨h.fr.os, h.fr.tape, h.fr.output, Nat.le_trans h.fr.size (by show _ ≤ (w.heap.push _).size; simp), fun g hg h0 hp => ?_, fun g hg => ?_⟩, ⟨h.blks.nb, fun b t' cs' hb => ?_, h.blks.inj, h.blks.first⟩, h.lts, fun b hb => ?_⟩
  · rcases hK g _ hg with ⟨rfl, he⟩ | ⟨h1, h2⟩
    · cases he
      refine ⟨vs, t, hnew, rfl, h0, hn, fun i hi => ?_⟩
      obtain ⟨c, h3, h4⟩ := hp i vs[i] (by simp [hi])
      exact ⟨c, vs[i], by simpa using h3, by simp [hi], h4⟩
    · rw [hold g h1]; exact h.kinv.rows g c n h2
  · rcases hK g _ hg with ⟨rfl, he⟩ | ⟨h1, h2⟩
    · cases he
    · obtain ⟨cs, t', h3, h4⟩ := h.kinv.curs g h2
      rw [hold g h1]
      exact ⟨cs, t', h3, X.cpm _ _ hx.K _ h4⟩
  · rcases hK g _ hg with ⟨rfl, he⟩ | ⟨h1, h2⟩
    · cases he
    · rw [hold g h1]; exact h.kinv.ros g o h2
  · rw [hold g (Nat.lt_of_lt_of_le hg h.fr.size)]; exact h.fr.kept g hg h0 hp
  · have := h.fr.size
    simp only [Env.row]
    rw [if_neg (by omega)]
    exact h.fr.kext g hg
  · obtain ⟨h1, h2, us, h3, h4⟩ := h.blks.at_ b t' cs' hb
    have h5 := h.blk_lt hb
    refine ⟨?_, h2, us, (hold _ h5).trans h3, h4.ext hx⟩
    show (if E.β b = w.heap.size then _ else E.K (E.β b)) = none
    rw [if_neg (by omega)]
    exact h1
  · obtain ⟨h1, h2, h3⟩ := h.held b hb
    have h4 := h.blk_lt (t := (S.bl[b]).1) (cs := (S.bl[b]).2) (b := b) (by rw [List.getElem?_eq_getElem h1])
    refine ⟨h1, h2, ?_⟩
    rw [← h3, ← h2]
    exact hold _ h4
/-- A variable's cells are written. -/
theorem Good.blkStore (h : Good X E S a w) {b o : Nat} {t : TypeId} {cs ns : List SV} {vs vs' : Array Value} {us : List Value} (hb : S.bl[b]? = some (t, cs)) (hu : Upd (E.β b) w w') (hv : w'.heap[E.β b]? = some (.cells vs' t (0, 0)))
    (hw : w.heap[E.β b]? = some (.cells vs t (0, 0))) (hs : vs'.toList = setV vs.toList o us) (hn : hasL E ns us) (hbd : b ∉ X.hd) : Good X E { S with bl := S.bl.set b (t, setR cs o ns) } a w' := by
  obtain ⟨h1, h2, vs0, h3, h4⟩ := h.blks.at_ b t cs hb
  have e0 : vs0 = vs := by rw [hw] at h3; cases h3; rfl
  subst e0
  have hne : ∀ g k, E.K g = some k → g ≠ E.β b := fun g k hk he => by rw [he, h1] at hk; cases hk
  refine ⟨h.defers, h.len, h.nx, h.tmps, ⟨fun g c n hg => ?_, fun g hg => ?_, fun g o hg => ?_⟩, ⟨hu.os.trans h.fr.os, hu.tape.trans h.fr.tape, hu.output.trans h.fr.output, by rw [hu.size]; exact h.fr.size, fun g hg h0 hp => ?_, h.fr.kext⟩, ⟨by simpa using h.blks.nb, fun c t' cs' hc => ?_, fun c d hc hd he => h.blks.inj c d (by simpa using hc) (by simpa using hd) he, fun g0 hg0 => ?_⟩, h.lts, fun c hc => ?_⟩
  · rw [hu.other g (hne g _ hg)]; exact h.kinv.rows g c n hg
  · rw [hu.other g (hne g _ hg)]; exact h.kinv.curs g hg
  · rw [hu.other g (hne g _ hg)]; exact h.kinv.ros g o hg
  · rw [hu.other g ?_]
    · exact h.fr.kept g hg h0 hp
    · rintro rfl
      rcases h2 with h2 | h2
      · omega
      · exact hp h2
  · by_cases hcb : b = c
    · subst hcb
      have hlt : b < S.bl.length := (List.getElem?_eq_some_iff.1 hb).1
      rw [List.getElem?_set_self hlt] at hc
      cases hc
      exact ⟨h1, h2, vs', hv, by rw [hs]; exact setR_ok o h4 hn⟩
    · rw [List.getElem?_set_ne hcb] at hc
      obtain ⟨h5, h6, us', h7, h8⟩ := h.blks.at_ c t' cs' hc
      refine ⟨h5, h6, us', ?_, h8⟩
      rw [hu.other _ ?_]
      · exact h7
      · intro he
        exact hcb (h.blks.inj b c (List.getElem?_eq_some_iff.1 hb).1 (List.getElem?_eq_some_iff.1 hc).1 he.symm)
  · obtain ⟨h5, cs0, h6⟩ := h.blks.first g0 hg0
    refine ⟨h5, ?_⟩
    by_cases hb0 : b = 0
    · subst hb0
      rw [hb] at h6
      cases h6
      exact ⟨_, List.getElem?_set_self (List.getElem?_eq_some_iff.1 hb).1⟩
    · exact ⟨cs0, by rw [List.getElem?_set_ne hb0]; exact h6⟩
  · obtain ⟨h5, h6, h7⟩ := h.held c hc
    refine ⟨by simpa using h5, h6, ?_⟩
    rw [← h7, ← h6]
    refine hu.other _ fun he => hbd ?_
    rw [← h.blks.inj c b h5 (List.getElem?_eq_some_iff.1 hb).1 he]
    exact hc
/-- A row's cells are written. -/
theorem Good.rowStore (h : Good X E S a w) {g o : Nat} {t : TypeId} {cts : List CT} {n : Nat} {vs vs' : Array Value} {us : List Value} (hK : E.K g = some (.row cts n)) (hw : w.heap[g]? = some (.cells vs t (0, 0))) (hu : Upd g w w') (hv : w'.heap[g]? = some (.cells vs' t (0, 0)))
    (hs : vs'.toList = setV vs.toList o us) (ho : o + us.length ≤ n) (hp : Pat cts o us) : Good X E S a w' := by
  obtain ⟨vs0, t0, h1, h2, h3, h4, h5⟩ := h.kinv.rows g cts n hK
  have e0 : vs0 = vs ∧ t0 = t := by rw [hw] at h1; cases h1; exact ⟨rfl, rfl⟩
  obtain ⟨rfl, rfl⟩ := e0
  have hsz : vs'.size = n := by
    rw [← Array.length_toList, hs, setV_length, Array.length_toList]; exact h2
  refine ⟨h.defers, h.len, h.nx, h.tmps, ⟨fun x c m hx => ?_, fun x hx => ?_, fun x o hx => ?_⟩, ⟨hu.os.trans h.fr.os, hu.tape.trans h.fr.tape, hu.output.trans h.fr.output, by rw [hu.size]; exact h.fr.size, fun x hx h0 hp => ?_, h.fr.kext⟩, ⟨h.blks.nb, fun c t' cs' hc => ?_, h.blks.inj, h.blks.first⟩, h.lts, fun c hc => ?_⟩
  · by_cases hxg : x = g
    · subst hxg
      rw [hK] at hx
      cases hx
      refine ⟨vs', t0, hv, hsz, h3, h4, fun i hi => ?_⟩
      have hl : vs0.toList.length = n := by rw [Array.length_toList]; exact h2
      have conv : ∀ u, (setV vs0.toList o us)[i]? = some u → vs'[i]? = some u := fun u hu' => by rw [← hs] at hu'; simpa using hu'
      by_cases hin : o ≤ i ∧ i < o + us.length
      · have hget := setV_in us vs0.toList o i (by omega) hin.1 hin.2
        have hlt : i - o < us.length := by omega
        rw [List.getElem?_eq_getElem hlt] at hget
        obtain ⟨c', h6, h7⟩ := hp (i - o) us[i - o] (List.getElem?_eq_getElem hlt)
        exact ⟨c', us[i - o], by rw [show o + (i - o) = i by omega] at h6; exact h6, conv _ hget, h7⟩
      · obtain ⟨c', u, h6, h7, h8⟩ := h5 i hi
        refine ⟨c', u, h6, conv u ?_, h8⟩
        by_cases hlt : i < o
        · rw [setV_lt us _ o i hlt]; simpa using h7
        · rw [setV_ge us _ o i (by omega)]; simpa using h7
    · rw [hu.other x hxg]; exact h.kinv.rows x c m hx
  · rw [hu.other x (by rintro rfl; rw [hK] at hx; cases hx)]; exact h.kinv.curs x hx
  · rw [hu.other x (by rintro rfl; rw [hK] at hx; cases hx)]; exact h.kinv.ros x o hx
  · rw [hu.other x ?_]
    · exact h.fr.kept x hx h0 hp
    · rintro rfl
      rw [← h.fr.kext x hx, hK] at h0
      cases h0
  · obtain ⟨h6, h7, us', h8, h9⟩ := h.blks.at_ c t' cs' hc
    exact ⟨h6, h7, us', by rw [hu.other _ (by rintro he; rw [he, hK] at h6; cases h6)]; exact h8, h9⟩
  · obtain ⟨h6, h7, h8⟩ := h.held c hc
    obtain ⟨h9, _⟩ := h.blks.at_ c (S.bl[c]).1 (S.bl[c]).2 (by rw [List.getElem?_eq_getElem h6])
    refine ⟨h6, h7, ?_⟩
    rw [← h8, ← h7]
    exact hu.other _ (by rintro he; rw [he, hK] at h9; cases h9)
end
end Go.Proofs.Ytnoelppkcbelcaa.Ty

/-
Operations on memory, and calls.
-/
set_option linter.unusedVariables false
set_option linter.unusedSimpArgs false
namespace Go.Proofs.Ytnoelppkcbelcaa.Ty
open Go Go.RowKit

def noAny : List SV → Bool
  | [] => true
  | .any :: _ => false
  | _ :: r => noAny r
theorem noAny_one {E : Env} : ∀ {ns : List SV} {us : List Value}, noAny ns = true → hasL E ns us → ∀ v ∈ us, v.oneCell' = true
  | [], [], _, _, v, hv => by simp at hv
  | [], _ :: _, _, h, _, _ => h.elim
  | _ :: _, [], _, h, _, _ => h.elim
  | n :: ns, u :: us, hn, h, v, hv => by
    have h1 : n ≠ .any ∧ noAny ns = true := by cases n <;> simp_all [noAny]
    rcases List.mem_cons.1 hv with rfl | h2
    · exact cellsOne E h.1 h1.1
    · exact noAny_one h1.2 h.2 v h2
def leCTs : List CT → List CT → Bool
  | [], [] => true
  | a :: as, b :: bs => leCT a.sv b && leCTs as bs
  | _, _ => false
theorem leCTs_length : ∀ {a b : List CT}, leCTs a b = true → a.length = b.length
  | [], [], _ => rfl
  | [], _ :: _, h => by simp [leCTs] at h
  | _ :: _, [], h => by simp [leCTs] at h
  | a :: as, b :: bs, h => by
    simp only [leCTs, Bool.and_eq_true] at h
    rw [List.length_cons, List.length_cons, leCTs_length h.2]
theorem leCTs_get (E : Env) : ∀ {a b : List CT}, leCTs a b = true → ∀ {i : Nat} {c : CT} {v : Value}, a[i]? = some c → hasCT c v → ∃ d, b[i]? = some d ∧ hasCT d v
  | [], [], _, i, c, v, h, _ => by simp at h
  | [], _ :: _, h, _, _, _, _, _ => by simp [leCTs] at h
  | _ :: _, [], h, _, _, _, _, _ => by simp [leCTs] at h
  | a :: as, b :: bs, h, 0, c, v, hc, hv => by
    simp only [leCTs, Bool.and_eq_true] at h
    obtain rfl : a = c := by simpa using hc
    exact ⟨b, rfl, leCT_ok h.1 (CT.sv_ok (E := E) hv)⟩
  | a :: as, b :: bs, h, i + 1, c, v, hc, hv => by
    simp only [leCTs, Bool.and_eq_true] at h
    simpa using leCTs_get E h.2 (i := i) (by simpa using hc) hv
theorem Pat.le (E : Env) {a b : List CT} {o : Nat} {us : List Value} (h : leCTs a b = true) (hp : Pat a o us) : Pat b o us := by
  intro i v hv
  obtain ⟨c, h1, h2⟩ := hp i v hv
  obtain ⟨d, h3, h4⟩ := leCTs_get E h h1 h2
  exact ⟨d, by rw [← leCTs_length h]; exact h3, h4⟩
theorem Pat.shift {cts : List CT} {o o' : Nat} {us : List Value} (h : o % cts.length = 0) (h' : o' % cts.length = 0) (hp : Pat cts o us) : Pat cts o' us := by
  intro i v hv
  obtain ⟨c, h1, h2⟩ := hp i v hv
  rw [Nat.add_mod, h, Nat.zero_add, Nat.mod_mod] at h1
  exact ⟨c, by rw [Nat.add_mod, h', Nat.zero_add, Nat.mod_mod]; exact h1, h2⟩
theorem Pat.app {cts : List CT} {o : Nat} {us vs : List Value} (h : Pat cts o us) (hv : Pat cts (o + us.length) vs) : Pat cts o (us ++ vs) := by
  intro i v hi
  rw [List.getElem?_append] at hi
  by_cases hl : i < us.length
  · rw [if_pos hl] at hi; exact h i v hi
  · rw [if_neg hl] at hi
    obtain ⟨c, h1, h2⟩ := hv (i - us.length) v hi
    exact ⟨c, by rw [show o + us.length + (i - us.length) = o + i by omega] at h1; exact h1, h2⟩
/-- All cells lie in the element's kinds, one behind the other. -/
def leRow (cts : List CT) : List SV → List CT → Bool
  | [], _ => true
  | s :: ss, c :: cs => leCT s c && leRow cts ss (match cs with | [] => cts | _ => cs)
  | _ :: _, [] => false
theorem leRow_ok {E : Env} {cts : List CT} : ∀ {ss : List SV} {us : List Value} {o : Nat} {cs : List CT}, o < cts.length → cs = cts.drop o → leRow cts ss cs = true → hasL E ss us → Pat cts o us
  | [], [], _, _, _, _, _, _, i, v, hi => by simp at hi
  | [], _ :: _, _, _, _, _, _, h, _, _, _ => h.elim
  | _ :: _, [], _, _, _, _, _, h, _, _, _ => h.elim
  | s :: ss, u :: us, o, cs, ho, hd, h, hL, i, v, hi => by
    cases cs with
    | nil => simp [leRow] at h
    | cons c cs =>
      simp only [leRow, Bool.and_eq_true] at h
      have hc : cts[o]? = some c := by
        have := congrArg List.head? hd
        simpa [List.head?_drop] using this.symm
      have hdrop : cs = cts.drop (o + 1) := by
        have := congrArg List.tail hd
        simpa [List.tail_drop] using this
      cases i with
      | zero =>
        obtain rfl : u = v := by simpa using hi
        exact ⟨c, by rw [Nat.add_zero, Nat.mod_eq_of_lt ho]; exact hc, leCT_ok h.1 hL.1⟩
      | succ i =>
        by_cases hl : o + 1 < cts.length
        · have hne : cs ≠ [] := by rw [hdrop]; intro he; have := congrArg List.length he; simp at this; omega
          have h2 : leRow cts ss cs = true := by
            cases cs with
            | nil => exact absurd rfl hne
            | cons _ _ => exact h.2
          obtain ⟨c', h3, h4⟩ := leRow_ok hl hdrop h2 hL.2 i v (by simpa using hi)
          exact ⟨c', by rw [show o + (i + 1) = o + 1 + i by omega]; exact h3, h4⟩
        · have he : cs = [] := by rw [hdrop, List.drop_eq_nil_iff]; omega
          subst he
          obtain ⟨c', h3, h4⟩ := leRow_ok (o := 0) (cs := cts) (by omega) rfl h.2 hL.2 i v (by simpa using hi)
          refine ⟨c', ?_, h4⟩
          rw [show o + (i + 1) = i + cts.length by omega, Nat.add_mod_right]
          simpa using h3

/-- What a function gives and leaves behind. -/
structure Out where
  res : AV
  blk : List SV
  lt : Option Nat := none
/-- The result lies below that argument. -/
def LtOut (o : Out) (vs : List Value) (v : Value) : Prop := ∀ k, o.lt = some k → ∃ kd n kd' m, v = .int kd n ∧ vs.getD k undef = .int kd' m ∧ n < m
theorem LtOut.no {o : Out} (h : o.lt = none) (vs : List Value) (v : Value) : LtOut o vs v := fun k hk => by rw [h] at hk; cases hk
def envK (K : Nat → Option KT) : Env := ⟨fun _ => 0, 0, fun _ => 0, 0, K⟩
theorem envK_ext {K : Nat → Option KT} {E : Env} (h : ∀ g k, K g = some k → E.K g = some k) : Ext (envK K) E := ⟨Nat.zero_le _, fun s hs => absurd hs (Nat.not_lt_zero s), Nat.zero_le _, fun s hs => absurd hs (Nat.not_lt_zero s), h⟩
def hasArgs (E : Env) : List AV → List Value → Prop
  | [], [] => True
  | s :: ss, v :: vs => hasAV E s v ∧ hasArgs E ss vs
  | _, _ => False
theorem hasArgs.ext {E E' : Env} (h : Ext E E') : ∀ {ss : List AV} {vs : List Value}, hasArgs E ss vs → hasArgs E' ss vs
  | [], [], _ => trivial
  | [], _ :: _, hv => hv.elim
  | _ :: _, [], hv => hv.elim
  | _ :: _, _ :: _, hv => ⟨hv.1.ext h, hasArgs.ext h hv.2⟩
theorem hasArgs.length {E : Env} : ∀ {ss : List AV} {vs : List Value}, hasArgs E ss vs → ss.length = vs.length
  | [], [], _ => rfl
  | [], _ :: _, hv => hv.elim
  | _ :: _, [], hv => hv.elim
  | _ :: _, _ :: _, hv => by rw [List.length_cons, List.length_cons, hasArgs.length hv.2]
theorem hasArgs.get {E : Env} : ∀ {ss : List AV} {vs : List Value}, hasArgs E ss vs → ∀ i, i < ss.length → hasAV E (ss.getD i .any) (vs.getD i undef)
  | [], _, _, i, hi => by simp at hi
  | _ :: _, [], hv, _, _ => hv.elim
  | s :: _, v :: _, hv, 0, _ => by simpa using hv.1
  | _ :: ss, _ :: vs, hv, i + 1, hi => by simpa using hasArgs.get hv.2 i (by simpa using hi)
abbrev Oracle := FuncId → List AV → Option (TypeId × List SV) → Option (List Out)
def BlkAt (E : Env) (w : World) : Option (TypeId × List SV) → Prop
  | none => E.nb = 0
  | some (t, cs) => E.nb = 1 ∧ E.K (E.β 0) = none ∧ ∃ us, w.heap[E.β 0]? = some (.cells us t (0, 0)) ∧ hasL E cs us.toList
def BlkOut (K : Nat → Option KT) (g : Nat) (w : World) (o : Out) : Option (TypeId × List SV) → Prop
  | none => True
  | some (t, _) => ∃ us, w.heap[g]? = some (.cells us t (0, 0)) ∧ hasL (envK K) o.blk us.toList
def passed (g : Nat) : Option (TypeId × List SV) → Option Nat
  | none => none
  | some _ => some g
def CallOK (P : Program) (CP : (Nat → Option KT) → List Value → Prop) (f : FuncId) (args : List AV) (blk : Option (TypeId × List SV)) (outs : List Out) : Prop :=
  (∀ vs w, (callFunc f vs).run P w = .ok (.enter f vs) w) ∧
  ∀ (E : Env) (w : World) (vs : Array Value), hasArgs E args vs.toList → KInv CP E.K w → BlkAt E w blk →
    Calls P f vs w fun e w' => ∃ v K', e = .returned v ∧ KInv CP K' w' ∧ Fr E.K (passed (E.β 0) blk) w K' w' ∧ ∃ o ∈ outs, hasAV (envK K') o.res v ∧ BlkOut K' (E.β 0) w' o blk ∧ LtOut o vs.toList v
def SoundT (P : Program) (CP : (Nat → Option KT) → List Value → Prop) (T : Oracle) : Prop := ∀ f args blk outs, T f args blk = some outs → CallOK P CP f args blk outs

def stripSV : SV → SV
  | .bool t _ _ => .bool t [] []
  | .int k lo hi _ => .int k lo hi none
  | .slice c lo hi _ => .slice c lo hi none
  | .ptr _ _ => .any
  | s => s
theorem stripSV_ok {E E' : Env} (hK : ∀ g k, E.K g = some k → E'.K g = some k) {s : SV} {v : Value} (h : hasSV E s v) : hasSV E' (stripSV s) v := by
  cases s with
  | any => trivial
  | bool t ft ff => obtain ⟨b, rfl, h1, _⟩ := h; exact ⟨b, rfl, h1, fun _ f hf => absurd hf (by simp), fun _ f hf => absurd hf (by simp)⟩
  | int k lo hi sy => obtain ⟨n, rfl, h1, h2, _⟩ := h; exact ⟨n, rfl, h1, h2, fun s d hs => (by cases hs)⟩
  | str => exact h
  | ptr b o => trivial
  | eptr c j => obtain ⟨g, o, n, rfl, h1, h2⟩ := h; exact ⟨g, o, n, rfl, hK _ _ h1, h2⟩
  | cur => obtain ⟨g, rfl, h1⟩ := h; exact ⟨g, rfl, hK _ _ h1⟩
  | nils => exact h
  | slice c lo hi sy =>
    obtain ⟨a, l, k, rfl, h1, h2, h3, _, h5, h6⟩ := h
    refine ⟨a, l, k, rfl, h1, h2, h3, fun s hs => (by cases hs), h5, fun ad had => ?_⟩
    obtain ⟨h7, n, h8, h9⟩ := h6 ad had
    exact ⟨h7, n, hK _ _ h8, h9⟩
/-- An argument as the called function sees it. -/
def mapArg (b : Option Nat) : SV → SV
  | .ptr c o => if b = some c then .ptr 0 o else .any
  | s => stripSV s
theorem mapArg_ok {E E' : Env} (hK : E'.K = E.K) {b : Option Nat} (hb : ∀ x, b = some x → E'.nb = 1 ∧ E'.β 0 = E.β x) {s : SV} {v : Value} (h : hasSV E s v) : hasSV E' (mapArg b s) v := by
  have hs := stripSV_ok (E' := E') (fun g k hk => by rw [hK]; exact hk) h
  cases s with
  | ptr c o =>
    simp only [mapArg]
    split
    · rename_i he
      obtain ⟨h1, h2⟩ := hb c he
      exact ⟨by omega, by rw [h2]; exact h.2⟩
    · trivial
  | _ => exact hs
theorem hasArgs_map {E E' : Env} {g : SV → SV} (hg : ∀ s v, hasSV E s v → hasSV E' (g s) v) : ∀ {ss : List AV} {vs : List Value}, hasArgs E ss vs → hasArgs E' (ss.map (mapAV g)) vs
  | [], [], _ => trivial
  | [], _ :: _, h => h.elim
  | _ :: _, [], h => h.elim
  | _ :: _, _ :: _, h => ⟨h.1.map hg, hasArgs_map hg h.2⟩
def findPtr : List AV → Option Nat
  | [] => none
  | .one (.cell (.ptr b 0)) :: _ => some b
  | _ :: r => findPtr r
def addLt (S : St) (dst : Option Nat) (arg : AV) : St := match dst with
  | some d => match getT S.tmps d, arg with
    | .one (.cell (.int _ _ _ (some (s, 0)))), .one (.cell (.int _ _ _ (some (t, c)))) => if d < S.nt ∧ c ≤ 0 then { S with lt := (s, t) :: S.lt } else S
    | _, _ => S
  | none => S
theorem Good.addLt {X : Ctx} {E : Env} {S : St} {a : Act} {w : World} (h : Good X E S a w) {dst : Option Nat} {arg : AV} {v u : Value} (hv : ∀ d, dst = some d → d < a.tmps.size → a.tmps.getD d undef = v)
    (hu : hasAV E arg u) (hl : ∃ kd n kd' m, v = .int kd n ∧ u = .int kd' m ∧ n < m) : Good X E (addLt S dst arg) a w := by
  unfold Ty.addLt
  split
  · rename_i d
    split
    · rename_i k lo hi s k2 lo2 hi2 t c he
      split
      · rename_i hc
        have h1 := h.tmps d
        rw [he, hv d rfl (by rw [h.len]; exact hc.1)] at h1
        obtain ⟨kd, n, kd', m, rfl, rfl, hnm⟩ := hl
        obtain ⟨n1, e1, _, _, h2⟩ := h1
        obtain ⟨m1, e2, _, _, h3⟩ := hu
        cases e1
        cases e2
        have h4 := h2 s 0 rfl
        have h5 := h3 t c rfl
        refine ⟨h.defers, h.len, h.nx, h.tmps, h.kinv, h.fr, h.blks, ⟨fun x y hxy => ?_, h.lts.2⟩, h.held⟩
        rcases List.mem_cons.1 hxy with hh | hh
        · cases hh
          exact ⟨h4.1, h5.1, by omega⟩
        · exact h.lts.1 x y hh
      · exact h
    · exact h
  · exact h
theorem hasArgs_eval {X : Ctx} {E : Env} {S : St} {a : Act} {w : World} (h : Good X E S a w) : ∀ xs : List Operand, hasArgs E (xs.map S.eval) (xs.map a.eval)
  | [] => trivial
  | x :: xs => ⟨h.eval x, hasArgs_eval h xs⟩

/-- A new variable, its pointer into a slot. -/
def St.newB (S : St) (t : TypeId) (cs : List SV) (dst : Option Nat) : St := match freshL cs S.nx with
  | (cs', n) => ({ S with nx := n, bl := S.bl ++ [(t, cs')] } : St).put dst (.one (.cell (.ptr S.bl.length 0)))
section
variable {X : Ctx} {E : Env} {S : St} {a : Act} {w w' : World}
theorem Good.newB (h : Good X E S a w) (t : TypeId) (dst : Option Nat) {cs : List SV} {vs : Array Value} (hL : hasL E cs vs.toList) :
    ∃ E', Rel E E' ∧ Good X E' (S.newB t cs dst) (a.put dst (.pointer (some ⟨w.heap.size, 0, none⟩))) (w.alloc (.cells vs t (0, 0))) := by
  obtain ⟨E1, r, n, h1⟩ := freshL_ok hL
  have h2 := (h.ren r).newBlk t h1
  refine ⟨E1.blk w.heap.size, r.ext.rel.trans (Ext.blk E1 _).rel, ?_⟩
  have h3 := h2.put dst (av := .one (.cell (.ptr S.bl.length 0))) (v := .pointer (some ⟨w.heap.size, 0, none⟩)) ⟨by
    show S.bl.length < E1.nb + 1
    rw [r.nb, h.blks.nb]
    exact Nat.lt_succ_self _, by
    have : (E1.blk w.heap.size).β S.bl.length = w.heap.size := by
      show (if S.bl.length = E1.nb then w.heap.size else E1.β S.bl.length) = w.heap.size
      rw [if_pos (by rw [r.nb, h.blks.nb])]
    rw [this]⟩
  rw [h.nx] at n h3
  rw [n] at h3
  exact h3
/-- A new row, its slice into a slot. -/
theorem Good.newR (h : Good X E S a w) (t : TypeId) (dst : Option Nat) {cts : List CT} {vs : Array Value} (h0 : 0 < cts.length) (hn : vs.size % cts.length = 0) (hp : Pat cts 0 vs.toList) {l c lo hi : Nat} (hl0 : lo ≤ l) (hl1 : l ≤ hi) (hlc : l ≤ c) (hc : c * cts.length ≤ vs.size) :
    ∃ E', Rel E E' ∧ Good X E' (S.putF dst (.one (.cell (.slice cts lo hi none)))) (a.put dst (.slice (some ⟨w.heap.size, 0, none⟩) l c)) (w.alloc (.cells vs t (0, 0))) := by
  have h2 := h.newRow t h0 hn hp
  obtain ⟨E', r, h3⟩ := h2.putF dst (av := .one (.cell (.slice cts lo hi none))) (v := .slice (some ⟨w.heap.size, 0, none⟩) l c) ⟨_, l, c, rfl, hl0, hl1, hlc, fun s hs => (by cases hs), fun he => (by cases he), fun ad had => by
    cases had
    refine ⟨rfl, vs.size, ?_, Nat.zero_mod _, by simpa using hc⟩
    show (if w.heap.size = w.heap.size then _ else _) = _
    rw [if_pos rfl]⟩
  exact ⟨E', (h.newRow_ext _).rel.trans r.ext.rel, h3⟩
/-- A row's cells are read. -/
theorem Good.rowRead {P : Program} (h : Good X E S a w) {g o n N : Nat} {cts : List CT} (hK : E.K g = some (.row cts N)) (hn : o + n ≤ N) :
    ∃ us : List Value, us.length = n ∧ Pat cts o us ∧ ∀ w' : World, w'.heap[g]? = w.heap[g]? → (loadCells ⟨g, o, none⟩ n).run P w' = .ok us.toArray w' := by
  obtain ⟨cs, t, h1, h2, h3, h4, h5⟩ := h.kinv.rows g cts N hK
  refine ⟨(cs.toList.drop o).take n, by simp; omega, fun i v hv => ?_, fun w' hw' => run_loadCells_at (by rw [hw']; exact h1) (by omega)⟩
  have hi : i < n := by
    have := (List.getElem?_eq_some_iff.1 hv).1
    simp at this
    omega
  rw [List.getElem?_take_of_lt hi, List.getElem?_drop] at hv
  obtain ⟨c, u, h6, h7, h8⟩ := h5 (o + i) (by omega)
  have : cs.toList[o + i]? = some u := by simpa using h7
  rw [this] at hv
  cases hv
  exact ⟨c, h6, h8⟩
/-- A call has come back. -/
theorem Good.called (h : Good X E S a w) {b : Option Nat} {blk : Option (TypeId × List SV)} {g : Nat} {K' : Nat → Option KT} (hk : KInv X.CP K' w') (hf : Fr E.K (passed g blk) w K' w')
    (hb : ∀ x, b = some x → g = E.β x ∧ x < S.bl.length) (hn : b = none → blk = none) (hbd : ∀ x, b = some x → x ∉ X.hd) {o : Out} {bl' : List (TypeId × List SV)}
    (hbl : (b = none ∧ bl' = S.bl) ∨ (∃ x t cs ns, b = some x ∧ S.bl[x]? = some (t, cs) ∧ bl' = S.bl.set x (t, ns) ∧ ∃ us, w'.heap[g]? = some (.cells us t (0, 0)) ∧ hasL (envK K') ns us.toList)) :
    Good X { E with K := K' } { S with bl := bl' } a w' := by
  have hlt : ∀ x k, E.K x = some k → K' x = some k := fun x k hx => by rw [hf.kext x (h.kinv.lt hx)]; exact hx
  have hx : Ext E { E with K := K' } := ⟨Nat.le_refl _, fun _ _ => rfl, Nat.le_refl _, fun _ _ => rfl, hlt⟩
  have hp : ∀ y, passed g blk = some y → ∃ x, b = some x ∧ y = E.β x := fun y hy => by
    cases b with
    | none => rw [hn rfl] at hy; cases hy
    | some x => cases blk with
      | none => cases hy
      | some z => cases hy; exact ⟨x, rfl, (hb x rfl).1⟩
  have hblen : ∀ x, x < S.bl.length → E.β x < w.heap.size ∧ E.K (E.β x) = none ∧ (X.w0.heap.size ≤ E.β x ∨ X.p = some (E.β x)) := fun x hx => by
    obtain ⟨h1, h2, _⟩ := h.blks.at_ x (S.bl[x]).1 (S.bl[x]).2 (by rw [List.getElem?_eq_getElem hx])
    exact ⟨h.blk_lt (t := (S.bl[x]).1) (cs := (S.bl[x]).2) (by rw [List.getElem?_eq_getElem hx]), h1, h2⟩
  refine ⟨h.defers, h.len, h.nx, fun i => (h.tmps i).ext hx, hk, ⟨hf.os.trans h.fr.os, hf.tape.trans h.fr.tape, hf.output.trans h.fr.output, Nat.le_trans h.fr.size hf.size, fun x hx0 h0 hpx => ?_, fun x hx0 => ?_⟩, ⟨?_, fun c t' cs' hc => ?_, fun c d hc hd he => ?_, fun g0 hg0 => ?_⟩, h.lts, fun c hc => ?_⟩
  · rw [hf.kept x (Nat.lt_of_lt_of_le hx0 h.fr.size) (by rw [h.fr.kext x hx0]; exact h0) ?_]
    · exact h.fr.kept x hx0 h0 hpx
    · intro he
      obtain ⟨y, hy, rfl⟩ := hp x he
      rcases (hblen y (hb y hy).2).2.2 with h1 | h1
      · omega
      · exact hpx h1
  · show K' x = _
    rw [hf.kext x (Nat.lt_of_lt_of_le hx0 h.fr.size)]
    exact h.fr.kext x hx0
  · rcases hbl with ⟨_, rfl⟩ | ⟨x, t, cs, ns, _, _, rfl, _⟩
    · exact h.blks.nb
    · simpa using h.blks.nb
  · have far : ∀ (c : Nat) (t' : TypeId) (cs' : List SV), S.bl[c]? = some (t', cs') → b ≠ some c → K' (E.β c) = none ∧ (X.w0.heap.size ≤ E.β c ∨ X.p = some (E.β c)) ∧ ∃ vs, w'.heap[E.β c]? = some (.cells vs t' (0, 0)) ∧ hasL { E with K := K' } cs' vs.toList := fun c t' cs' hc hbc => by
      obtain ⟨h1, h2, us, h3, h4⟩ := h.blks.at_ c t' cs' hc
      have h5 := h.blk_lt hc
      refine ⟨by rw [hf.kext _ h5]; exact h1, h2, us, ?_, h4.ext hx⟩
      rw [hf.kept _ h5 h1 ?_]
      · exact h3
      · intro he
        obtain ⟨y, hy, hyc⟩ := hp _ he
        exact hbc (by rw [hy, h.blks.inj c y (List.getElem?_eq_some_iff.1 hc).1 (hb y hy).2 hyc])
    rcases hbl with ⟨hbn, rfl⟩ | ⟨x, t, cs, ns, hbx, hxl, rfl, us, hu1, hu2⟩
    · exact far c t' cs' hc (by rw [hbn]; simp)
    · by_cases hcx : x = c
      · subst hcx
        have hlt2 : x < S.bl.length := (List.getElem?_eq_some_iff.1 hxl).1
        rw [List.getElem?_set_self hlt2] at hc
        cases hc
        obtain ⟨h1, h2, h3⟩ := hblen x hlt2
        refine ⟨by show K' (E.β x) = none; rw [hf.kext _ h1]; exact h2, h3, us, by show w'.heap[E.β x]? = _; rw [← (hb x hbx).1]; exact hu1, hu2.ext (envK_ext fun _ _ hh => hh)⟩
      · rw [List.getElem?_set_ne hcx] at hc
        exact far c t' cs' hc (by rw [hbx]; intro he; cases he; exact hcx rfl)
  · have hl : bl'.length = S.bl.length := by
      rcases hbl with ⟨_, rfl⟩ | ⟨x, t, cs, ns, _, _, rfl, _⟩
      · rfl
      · simp
    exact h.blks.inj c d (by rw [← hl]; exact hc) (by rw [← hl]; exact hd) he
  · obtain ⟨h5, cs0, h6⟩ := h.blks.first g0 hg0
    refine ⟨h5, ?_⟩
    rcases hbl with ⟨_, rfl⟩ | ⟨x, t, cs, ns, _, hxl, rfl, _⟩
    · exact ⟨cs0, h6⟩
    · by_cases hx0 : x = 0
      · subst hx0
        rw [hxl] at h6
        cases h6
        exact ⟨_, List.getElem?_set_self (List.getElem?_eq_some_iff.1 hxl).1⟩
      · exact ⟨cs0, by rw [List.getElem?_set_ne hx0]; exact h6⟩
  · obtain ⟨h5, h6, h7⟩ := h.held c hc
    have hl : bl'.length = S.bl.length := by
      rcases hbl with ⟨_, rfl⟩ | ⟨x, t, cs, ns, _, _, rfl, _⟩
      · rfl
      · simp
    obtain ⟨h8, h9, _⟩ := hblen c h5
    refine ⟨by show c < bl'.length; omega, h6, ?_⟩
    rw [← h7, ← h6]
    refine hf.kept _ h8 h9 fun he => ?_
    obtain ⟨y, hy, hyc⟩ := hp _ he
    have e := h.blks.inj c y h5 (hb y hy).2 hyc
    exact hbd y hy (e ▸ hc)
end
end Go.Proofs.Ytnoelppkcbelcaa.Ty

/-
Operations on memory: what they make of a state.
-/
set_option linter.unusedVariables false
set_option linter.unusedSimpArgs false
namespace Go.Proofs.Ytnoelppkcbelcaa.Ty
open Go Go.RowKit

/-- What the checker leans on. -/
structure Kit where
  tab : TypeId → Option TD
  hint : TypeId → Option (List CT)
  T : Oracle
  hd : List Nat
def hullCT : CT → SV → Option CT
  | .bool, .bool _ _ _ => some .bool
  | .str, .str => some .str
  | .int k lo hi, .int k' lo' hi' _ => if k = k' then some (.int k (if lo ≤ lo' then lo else lo') (if hi ≤ hi' then hi' else hi)) else none
  | _, _ => none
def svCT : SV → Option CT
  | .bool _ _ _ => some .bool
  | .str => some .str
  | .int k lo hi _ => some (.int k lo hi)
  | _ => none
def svCTs : List SV → Option (List CT)
  | [] => some []
  | s :: r => match svCT s, svCTs r with
    | some c, some cs => some (c :: cs)
    | _, _ => none
def hullCTs : List CT → List SV → Option (List CT)
  | [], [] => some []
  | c :: cs, s :: ss => match hullCT c s, hullCTs cs ss with
    | some d, some ds => some (d :: ds)
    | _, _ => none
  | _, _ => none
/-- The kinds of a literal's elements (looked at again by leRow). -/
def hullAll (m : Nat) : Nat → List CT → List SV → Option (List CT)
  | _, cs, [] => some cs
  | 0, _, _ => none
  | n + 1, cs, ss => match hullCTs cs (ss.take m) with
    | some ds => hullAll m n ds (ss.drop m)
    | none => none
def sliceAbs : AV → Option (List CT × Nat × Nat)
  | .one (.cell (.slice c lo hi _)) => some (c, lo, hi)
  | .one (.cell .nils) => some ([], 0, 0)
  | _ => none
def isNil : AV → Bool
  | .one (.cell .nils) => true
  | _ => false
/-- The kinds of what append gives. -/
def appCts (Γ : Kit) (e : TypeId) (s x : AV) (c d : List CT) : Option (List CT) :=
  if isNil s then (match Γ.hint e with
    | some h => if isNil x || leCTs d h then some h else none
    | none => none)
  else if isNil x || leCTs d c then some c else none
def allocM (Γ : Kit) (o : Oper) (S : St) (t : TypeId) : Option (List St) := match Γ.tab t with
    | some d => match d.zero with
      | some z => some [S.newB t z o.dst]
      | none => none
    | none => none
def boxM (Γ : Kit) (o : Oper) (S : St) (t : TypeId) (x : Operand) : Option (List St) := match cellsOf (S.eval x) with
    | some cs => some [S.newB t cs o.dst]
    | none => none
def bsliceM (Γ : Kit) (o : Oper) (S : St) (t : TypeId) (n : Nat) (ps : Array (Nat × Operand)) : Option (List St) := match Γ.tab t with
    | some d => match d.elem with
      | some e => match Γ.tab e, Γ.hint e with
        | some de, some hc => match de.zero, partAbs S.eval ps.toList with
          | some z, some r =>
            if de.size = 0 ∨ 16777216 < n * de.size ∨ z.length ≠ de.size then none else
            match fillSV ((List.range n).map fun i => (i * de.size, de.size, false)) ((List.range (n * de.size)).map fun i => z.getD (i % z.length) .any) r with
            | some cs =>
              match (if n = 0 then some hc else (svCTs (cs.take de.size)).bind fun c => hullAll de.size n c cs) with
              | some cts => if cts.length = de.size ∧ leRow cts cs cts = true ∧ cs.length = n * de.size then some [S.putF o.dst (.one (.cell (.slice cts n n none)))] else none
              | none => none
            | none => none
          | _, _ => none
        | _, _ => none
      | none => none
    | none => none
def sameTmp : Operand → Operand → Bool
  | .tmp i, .tmp j => decide (i = j)
  | _, _ => false
theorem sameTmp_eq {x y : Operand} (h : sameTmp x y = true) : x = y := by
  cases x <;> cases y <;> simp_all [sameTmp]
def msliceM (Γ : Kit) (o : Oper) (S : St) (t : TypeId) (l c : Operand) : Option (List St) := match Γ.tab t, S.eval l, S.eval c with
    | some d, .one (.cell (.int .i64 lo hi _)), .one (.cell (.int .i64 lo' hi' _)) => match d.elem with
      | some e => match Γ.tab e, Γ.hint e with
        | some de, some hc => match de.zero with
          | some z => if 0 ≤ lo ∧ (sameTmp l c = true ∨ (lo = hi ∧ lo' = lo ∧ hi' = lo)) ∧ hi ≤ 4294967296 ∧ de.bytes ≤ 4096 ∧ 0 < de.size ∧ z.length = de.size ∧ hc.length = de.size ∧ leRow hc z hc = true then some [S.putF o.dst (.one (.cell (.slice hc lo.toNat hi.toNat none)))] else none
          | none => none
        | _, _ => none
      | none => none
    | _, _, _ => none
def loadM (Γ : Kit) (o : Oper) (S : St) (t : TypeId) (x : Operand) : Option (List St) := match Γ.tab t, S.eval x with
    | some d, .one (.cell (.ptr b off)) => match S.bl[b]? with
      | some (_, cs) =>
        if d.agg = true then (if off + d.size ≤ cs.length then some [S.putF o.dst (.one (.agg ((cs.drop off).take d.size)))] else none)
        else (cs[off]?).map fun s => [S.putF o.dst (.one (.cell s))]
      | none => none
    | some d, .one (.cell (.eptr cts j)) =>
      if d.agg = true then (if j + d.size ≤ cts.length then some [S.putF o.dst (.one (.agg (((cts.drop j).take d.size).map CT.sv)))] else none)
      else (cts[j]?).map fun c => [S.putF o.dst (.one (.cell c.sv))]
    | _, _ => none
def storeM (Γ : Kit) (o : Oper) (S : St) (t : TypeId) (x v : Operand) : Option (List St) := match Γ.tab t, S.eval x, cellsOf (S.eval v) with
    | some d, .one (.cell (.ptr b off)), some ns => match S.bl[b]? with
      | some (t', cs) => if ns.length = d.size ∧ off + ns.length ≤ cs.length ∧ noAny ns = true ∧ Γ.hd.contains b = false then some [({ S with bl := S.bl.set b (t', setR cs off ns) } : St).put o.dst .any] else none
      | none => none
    | some d, .one (.cell (.eptr cts j)), some ns => if ns.length = d.size ∧ j + ns.length ≤ cts.length ∧ j < cts.length ∧ leRow cts ns (cts.drop j) = true then some [S.put o.dst .any] else none
    | _, _, _ => none
def appM (Γ : Kit) (o : Oper) (S : St) (c : Call) : Option (List St) := match c.args.toList, c.argTypes.toList with
      | [s, x], [t, t'] => if t = t' then (match Γ.tab t with
        | some d => match d.elem with
          | some e => match Γ.tab e, sliceAbs (S.eval s), sliceAbs (S.eval x) with
            | some de, some (cs, l1, h1), some (cx, l2, h2) => match appCts Γ e (S.eval s) (S.eval x) cs cx, de.zero with
              | some cts, some z => if 0 < de.size ∧ z.length = de.size ∧ cts.length = de.size ∧ leRow cts z cts = true ∧ de.bytes ≤ 4096 ∧ h1 + h2 ≤ 4294967296 then some [S.putF o.dst (.one (.cell (.slice cts (l1 + l2) (h1 + h2) none)))] else none
              | _, _ => none
            | _, _, _ => none
          | none => none
        | none => none) else none
      | _, _ => none
def funM (Γ : Kit) (o : Oper) (S : St) (c : Call) (f : FuncId) : Option (List St) :=
      let args := c.args.toList.map S.eval
      let b := findPtr args
      match (match b with
        | none => some none
        | some x => if Γ.hd.contains x then none else match S.bl[x]? with
          | some (t, cs) => some (some (t, cs.map stripSV))
          | none => none) with
      | none => none
      | some blk => match Γ.T f (args.map (mapAV (mapArg b))) blk with
        | none => none
        | some outs => some (outs.map fun q => match b with
          | none => (match q.lt with
          | none => S.putF o.dst q.res
          | some k => addLt (S.putF o.dst q.res) o.dst (args.getD k .any))
          | some x => match S.bl[x]? with
            | some (t, _) => match freshL q.blk S.nx with
              | (cs', n) => ({ S with nx := n, bl := S.bl.set x (t, cs') } : St).putF o.dst q.res
            | none => S)
def callM (Γ : Kit) (o : Oper) (S : St) (c : Call) : Option (List St) := match c.callee with
    | .builtin .append => appM Γ o S c
    | .value (.func f) => funM Γ o S c f
    | _ => none
def memOp (Γ : Kit) (o : Oper) (S : St) : Option (List St) :=
  match o.op with
  | .alloc t => allocM Γ o S t
  | .box t x => boxM Γ o S t x
  | .buildSlice t n ps => bsliceM Γ o S t n ps
  | .makeSlice t l c => msliceM Γ o S t l c
  | .load t x => loadM Γ o S t x
  | .store t x v => storeM Γ o S t x v
  | .call c => callM Γ o S c
  | _ => none
theorem GoodL.one {X : Ctx} {E : Env} {S : St} {a : Act} {w : World} {E' : Env} (r : Rel E E') (h : Good X E' S a w) : GoodL X E [S] a w := ⟨S, List.mem_singleton.2 rfl, E', r, h⟩
section
variable {X : Ctx} {Γ : Kit} (hT : TabOK X.P Γ.tab) {E : Env} {S : St} {a : Act} {w : World} (h : Good X E S a w) {Kn : Act → World → Prop} {Q : Exit → Act → World → Prop}
include hT h
theorem wp_alloc {o : Oper} {t : TypeId} (ho : o.op = .alloc t) {L : List St} (hm : memOp Γ o S = some L) (hk : ∀ a' w', GoodL X E L a' w' → Kn a' w') : o.wp X.P a w Kn Q := by
  unfold memOp at hm
  simp only [ho, allocM] at hm
  split at hm
  · rename_i d hd
    split at hm
    · rename_i z hz
      cases hm
      obtain ⟨i, u, h1, h2, _, _, _, h3, _⟩ := hT.get hd
      rw [h3] at hz
      cases hiz : i.zero with
      | none => rw [hiz] at hz; cases hz
      | some zv =>
        rw [hiz] at hz
        cases hz
        obtain ⟨E', r, h4⟩ := h.newB t o.dst (zeroL_ok E zv.cells.toList)
        have hrun : (execOp a.eval o).run X.P w = .ok (.value (.pointer (some ⟨w.heap.size, 0, none⟩))) (w.alloc (.cells zv.cells t (0, 0))) := by
          simp [execOp, ho, Instr.alloc, zeroValue, typeInfo, h1, hiz, newVar, newRow]
        unfold Oper.wp
        rw [hrun, Oper.upon_value]
        exact hk _ _ (GoodL.one r h4)
    · cases hm
  · cases hm
omit hT in
theorem wp_box {o : Oper} {t : TypeId} {x : Operand} (ho : o.op = .box t x) {L : List St} (hm : memOp Γ o S = some L) (hk : ∀ a' w', GoodL X E L a' w' → Kn a' w') : o.wp X.P a w Kn Q := by
  unfold memOp at hm
  simp only [ho, boxM] at hm
  split at hm
  · rename_i cs hcs
    cases hm
    obtain ⟨E', r, h4⟩ := h.newB t o.dst (cellsOf_ok hcs (h.eval x))
    have hrun : (execOp a.eval o).run X.P w = .ok (.value (.pointer (some ⟨w.heap.size, 0, none⟩))) (w.alloc (.cells (a.eval x).cells t (0, 0))) := by
      simp [execOp, ho, Instr.box, newVar, newRow]
    unfold Oper.wp
    rw [hrun, Oper.upon_value]
    exact hk _ _ (GoodL.one r h4)
  · cases hm
theorem wp_load {o : Oper} {t : TypeId} {x : Operand} (ho : o.op = .load t x) {L : List St} (hm : memOp Γ o S = some L) (hk : ∀ a' w', GoodL X E L a' w' → Kn a' w') : o.wp X.P a w Kn Q := by
  unfold memOp at hm
  simp only [ho, loadM] at hm
  have hx := h.eval x
  have fin : ∀ (av : AV) (v : Value), (execOp a.eval o).run X.P w = .ok (.value v) w → hasAV E av v → L = [S.putF o.dst av] → o.wp X.P a w Kn Q := fun av v hr hv hL => by
    obtain ⟨E', r, h4⟩ := h.putF o.dst hv
    unfold Oper.wp
    rw [hr, Oper.upon_value]
    refine hk _ _ ?_
    rw [hL]
    exact GoodL.one r.ext.rel h4
  split at hm
  · rename_i d b off hd heq
    rw [heq] at hx
    obtain ⟨hbl, hpv⟩ := hx
    split at hm
    · rename_i t' cs hb
      obtain ⟨h1, h2, vs, h3, h4⟩ := h.blks.at_ b t' cs hb
      have hsz : vs.size = cs.length := by rw [h4.length, Array.length_toList]
      split at hm
      · rename_i hag
        split at hm
        · rename_i hle
          cases hm
          refine fin (.one (.agg ((cs.drop off).take d.size))) (.agg ((vs.toList.drop off).take d.size).toArray) ?_ ⟨_, rfl, (h4.drop _).take _⟩ rfl
          have hlc := run_loadCells_at (P := X.P) h3 (show off + d.size ≤ vs.size by omega)
          simp [execOp, ho, Instr.loadAt, hpv, Instr.sureAddr, loadVar, hT.isAgg hd, hag, hT.size hd, hlc]
        · cases hm
      · rename_i hag
        cases hc : cs[off]? with
        | none => rw [hc] at hm; cases hm
        | some s =>
          rw [hc] at hm
          cases hm
          obtain ⟨v, hv1, hv2⟩ := h4.get hc
          refine fin (.one (.cell s)) v ?_ hv2 rfl
          have hl := run_load_at (P := X.P) h3 (show vs[off]? = some v by simpa using hv1)
          simp only [execOp, ho, Instr.loadAt, hpv, Instr.sureAddr, loadVar, Sem.run_bind, Sem.run_pure, Result.andThen_ok, hT.isAgg hd, hag]
          simp only [Bool.false_eq_true, if_false, Sem.run_bind, hl, Result.andThen_ok, Sem.run_pure]
    · cases hm
  · rename_i d cts j hd heq
    rw [heq] at hx
    obtain ⟨g, o', N, hpv, hK, ho1, ho2⟩ := hx
    obtain ⟨cs, t', h1, h2, h3, h4, h5⟩ := h.kinv.rows g cts N hK
    have cellAt : ∀ i, i < cts.length → ∃ c v, cts[i]? = some c ∧ cs[o' + i]? = some v ∧ hasCT c v := fun i hi => by
      obtain ⟨c, v, h6, h7, h8⟩ := h5 (o' + i) (by omega)
      rw [Nat.add_mod, ho1, Nat.zero_add, Nat.mod_mod, Nat.mod_eq_of_lt hi] at h6
      exact ⟨c, v, h6, h7, h8⟩
    split at hm
    · rename_i hag
      split at hm
      · rename_i hle
        cases hm
        have hlc := run_loadCells_at (P := X.P) h1 (show o' + j + d.size ≤ cs.size by omega)
        refine fin (.one (.agg (((cts.drop j).take d.size).map CT.sv))) (.agg ((cs.toList.drop (o' + j)).take d.size).toArray) ?_ ⟨_, rfl, ?_⟩ rfl
        · simp [execOp, ho, Instr.loadAt, hpv, Instr.sureAddr, loadVar, hT.isAgg hd, hag, hT.size hd, hlc]
        · have key : ∀ n j, j + n ≤ cts.length → hasL E (((cts.drop j).take n).map CT.sv) ((cs.toList.drop (o' + j)).take n) := by
            intro n
            induction n with
            | zero => intro j _; simp; trivial
            | succ n ih =>
              intro j hj
              obtain ⟨c, v, h6, h7, h8⟩ := cellAt j (by omega)
              have e1 : cts.drop j = c :: cts.drop (j + 1) := by
                have hlt := (List.getElem?_eq_some_iff.1 h6).1
                rw [List.drop_eq_getElem_cons hlt]
                rw [(List.getElem?_eq_some_iff.1 h6).2]
              have h7' : cs.toList[o' + j]? = some v := by simpa using h7
              have e2 : cs.toList.drop (o' + j) = v :: cs.toList.drop (o' + (j + 1)) := by
                have hlt := (List.getElem?_eq_some_iff.1 h7').1
                rw [List.drop_eq_getElem_cons hlt]
                rw [(List.getElem?_eq_some_iff.1 h7').2]
                rfl
              rw [e1, e2, List.take_succ_cons, List.take_succ_cons, List.map_cons]
              exact ⟨CT.sv_ok h8, ih (j + 1) (by omega)⟩
          simpa using key d.size j hle
      · cases hm
    · rename_i hag
      cases hc : cts[j]? with
      | none => rw [hc] at hm; cases hm
      | some c =>
        rw [hc] at hm
        cases hm
        obtain ⟨c', v, h6, h7, h8⟩ := cellAt j (List.getElem?_eq_some_iff.1 hc).1
        rw [hc] at h6
        cases h6
        refine fin (.one (.cell c.sv)) v ?_ (CT.sv_ok (E := E) h8) rfl
        have hl := run_load_at (P := X.P) h1 h7
        simp only [execOp, ho, Instr.loadAt, hpv, Instr.sureAddr, loadVar, Sem.run_bind, Sem.run_pure, Result.andThen_ok, hT.isAgg hd, hag]
        simp only [Bool.false_eq_true, if_false, Sem.run_bind, hl, Result.andThen_ok, Sem.run_pure]
  · cases hm
theorem wp_store (hH : X.hd = Γ.hd) {o : Oper} {t : TypeId} {x v : Operand} (ho : o.op = .store t x v) {L : List St} (hm : memOp Γ o S = some L) (hk : ∀ a' w', GoodL X E L a' w' → Kn a' w') : o.wp X.P a w Kn Q := by
  unfold memOp at hm
  simp only [ho, storeM] at hm
  have hx := h.eval x
  split at hm
  · rename_i d b off ns hd heq hcs
    have hns := cellsOf_ok hcs (h.eval v)
    rw [heq] at hx
    obtain ⟨hbl, hpv⟩ := hx
    split at hm
    · rename_i t' cs hb
      split at hm
      · rename_i hc
        obtain ⟨hc1, hc2, hc3, hc5⟩ := hc
        cases hm
        obtain ⟨h1, h2, vs, h3, h4⟩ := h.blks.at_ b t' cs hb
        have hsz : vs.size = cs.length := by rw [h4.length, Array.length_toList]
        have hlen := hns.length
        obtain ⟨w', vs', r1, r2, r3, r4⟩ := run_storeCells_at (P := X.P) (g := E.β b) (o := off) (t := t') (a.eval v).cells.toList 0 w vs h3 (by omega) (noAny_one hc3 hns)
        have hg := h.blkStore (o := off) hb r2 r3 h3 (by simpa using r4) hns (by rw [hH]; simpa using hc5)
        have hrun : (execOp a.eval o).run X.P w = .ok .skip w' := by
          have e : (a.eval v).cells.size = d.size := by rw [← Array.length_toList]; omega
          simp [execOp, ho, Instr.storeAt, hpv, Instr.sureAddr, storeVar, hT.size hd, e, r1]
        unfold Oper.wp
        rw [hrun, Oper.upon_skip]
        exact hk _ _ (GoodL.one (Rel.refl E) (hg.put o.dst (av := .any) (v := undef) trivial))
      · cases hm
    · cases hm
  · rename_i d cts j ns hd heq hcs
    have hns := cellsOf_ok hcs (h.eval v)
    rw [heq] at hx
    obtain ⟨g, o', N, hpv, hK, ho1, ho2⟩ := hx
    split at hm
    · rename_i hc
      obtain ⟨hc1, hc2, hc3, hc4⟩ := hc
      cases hm
      obtain ⟨cs, t', h1, h2, h3, h4, h5⟩ := h.kinv.rows g cts N hK
      have hlen := hns.length
      have hpat := leRow_ok hc3 rfl hc4 hns
      have hpat2 : Pat cts (o' + j) (a.eval v).cells.toList := fun i u hu => by
        obtain ⟨c, h6, h7⟩ := hpat i u hu
        refine ⟨c, ?_, h7⟩
        rw [Nat.add_assoc, Nat.add_mod, ho1, Nat.zero_add, Nat.mod_mod]
        exact h6
      obtain ⟨w', vs', r1, r2, r3, r4⟩ := run_storeCells_at (P := X.P) (g := g) (o := o' + j) (t := t') (a.eval v).cells.toList 0 w cs h1 (by omega) hpat2.one
      have hg := h.rowStore (o := o' + j) hK h1 r2 r3 (by simpa using r4) (by omega) hpat2
      have hrun : (execOp a.eval o).run X.P w = .ok .skip w' := by
        have e : (a.eval v).cells.size = d.size := by rw [← Array.length_toList]; omega
        simp [execOp, ho, Instr.storeAt, hpv, Instr.sureAddr, storeVar, hT.size hd, e, r1]
      unfold Oper.wp
      rw [hrun, Oper.upon_skip]
      exact hk _ _ (GoodL.one (Rel.refl E) (hg.put o.dst (av := .any) (v := undef) trivial))
    · cases hm
  · cases hm
end
end Go.Proofs.Ytnoelppkcbelcaa.Ty

/-
Literals of slices, make, append, calls of functions.
-/
set_option linter.unusedVariables false
set_option linter.unusedSimpArgs false
namespace Go.Proofs.Ytnoelppkcbelcaa.Ty
open Go Go.RowKit

theorem arr0 {α : Type} (f : Nat → α) : (Array.range 0).map f = #[] := Array.eq_empty_of_size_eq_zero (by simp)
theorem hasL_maps {E : Env} {α : Type} {f : α → SV} {g : α → Value} : ∀ {l : List α}, (∀ x ∈ l, hasSV E (f x) (g x)) → hasL E (l.map f) (l.map g)
  | [], _ => trivial
  | x :: l, h => ⟨h x List.mem_cons_self, hasL_maps fun y hy => h y (List.mem_cons_of_mem _ hy)⟩
/-- The same zero, again and again. -/
theorem zeros_ok {E : Env} {z : List SV} {zv : Array Value} (hz : hasL E z zv.toList) (h0 : 0 < z.length) (n : Nat) :
    hasL E ((List.range n).map fun i => z.getD (i % z.length) .any) ((Array.range n).map (fun i => zv[i % zv.size]!)).toList := by
  have hl : z.length = zv.size := by rw [hz.length, Array.length_toList]
  rw [Array.toList_map, Array.toList_range]
  refine hasL_maps fun i _ => ?_
  have hi : i % z.length < z.length := Nat.mod_lt _ h0
  obtain ⟨v, h1, h2⟩ := hz.get (i := i % z.length) (s := z[i % z.length]) (List.getElem?_eq_getElem hi)
  have e1 : z.getD (i % z.length) .any = z[i % z.length] := by rw [List.getD_eq_getElem?_getD, List.getElem?_eq_getElem hi]; rfl
  have e2 : zv[i % zv.size]! = v := by
    rw [← hl]
    have : zv[i % z.length]? = some v := by simpa using h1
    rw [getElem!_def, this]
  rw [e1, e2]
  exact h2
theorem pat_zeros {cts : List CT} {zv : Array Value} (hp : Pat cts 0 zv.toList) (hl : zv.size = cts.length) (h0 : 0 < cts.length) (n : Nat) {o : Nat} (ho : o % cts.length = 0) : Pat cts o ((Array.range n).map (fun i => zv[i % zv.size]!)).toList := by
  intro i v hi
  rw [Array.toList_map, Array.toList_range, List.getElem?_map] at hi
  have hin : i < n := by
    rcases Nat.lt_or_ge i n with h | h
    · exact h
    · rw [List.getElem?_eq_none (by simpa using h)] at hi; cases hi
  rw [List.getElem?_range hin] at hi
  have hm : i % zv.size < zv.size := Nat.mod_lt _ (by omega)
  have hv : zv.toList[i % zv.size]? = some v := by
    have : zv[i % zv.size]! = v := by simpa using hi
    rw [getElem!_pos zv _ hm] at this
    simp [this, hm]
  obtain ⟨c, h1, h2⟩ := hp _ _ hv
  refine ⟨c, ?_, h2⟩
  rw [hl, Nat.zero_add, Nat.mod_mod] at h1
  rw [Nat.add_mod, ho, Nat.zero_add, Nat.mod_mod]
  exact h1
section
variable {X : Ctx} {Γ : Kit} (hT : TabOK X.P Γ.tab) {E : Env} {S : St} {a : Act} {w : World} (h : Good X E S a w) {Kn : Act → World → Prop} {Q : Exit → Act → World → Prop}
include hT h
theorem wp_buildSlice {o : Oper} {t : TypeId} {n : Nat} {ps : Array (Nat × Operand)} (ho : o.op = .buildSlice t n ps) {L : List St} (hm : memOp Γ o S = some L) (hk : ∀ a' w', GoodL X E L a' w' → Kn a' w') : o.wp X.P a w Kn Q := by
  unfold memOp at hm
  simp only [ho, bsliceM] at hm
  split at hm
  · rename_i d hd
    split at hm
    · rename_i e he
      split at hm
      · rename_i de hc hde hhint
        split at hm
        · rename_i z r hz hr
          split at hm
          · cases hm
          · rename_i hcond
            simp only [not_or] at hcond
            obtain ⟨c1, c2, c3⟩ := hcond
            have c3' : z.length = de.size := by omega
            split at hm
            · rename_i cs hcs
              split at hm
              · rename_i cts hcts
                split at hm
                · rename_i hfin
                  cases hm
                  obtain ⟨f1, f2, f3⟩ := hfin
                  have hu := hT.elem hd he
                  obtain ⟨i, u, h1, h2, h3, h4, _, h5, _⟩ := hT.get hde
                  rw [h5] at hz
                  cases hiz : i.zero with
                  | none => rw [hiz] at hz; cases hz
                  | some zv =>
                    rw [hiz] at hz
                    have hzz : z = zv.cells.toList.map zeroSV := by simpa using hz.symm
                    have hzL : hasL E z zv.cells.toList := by rw [hzz]; exact zeroL_ok E _
                    have hbase := zeros_ok hzL (by omega) (n * de.size)
                    have hparts := partAbs_ok (fun x => h.eval x) hr
                    obtain ⟨cells, g1, g2⟩ := fillSV_ok (place := fun i => some (i * de.size, de.size)) (fun i x hx => by
                      rw [List.getElem?_map] at hx
                      cases hq : (List.range n)[i]? with
                      | none => rw [hq] at hx; cases hx
                      | some q =>
                        rw [hq] at hx
                        have : i = q := by
                          have := (List.getElem?_eq_some_iff.1 hq).2
                          simpa using this
                        subst this
                        cases hx
                        rfl) hcs hparts hbase
                    have g3 : cells.size = n * de.size := by rw [← Array.length_toList, ← g2.length]; exact f3
                    have hpat : Pat cts 0 cells.toList := leRow_ok (by omega) rfl f2 g2
                    have hmod : cells.size % cts.length = 0 := by rw [g3, f1]; exact Nat.mul_mod_left _ _
                    obtain ⟨E', rr, hg⟩ := h.newR e o.dst (by omega) hmod hpat (l := n) (c := n) (Nat.le_refl n) (Nat.le_refl n) (Nat.le_refl n) (by rw [g3, f1]; exact Nat.le_refl _)
                    have hrun : (execOp a.eval o).run X.P w = .ok (.value (.slice (some ⟨w.heap.size, 0, none⟩) n n)) (w.alloc (.cells cells e (0, 0))) := by
                      by_cases hn0 : n * de.size = 0
                      · have hn : n = 0 := by
                          rcases Nat.mul_eq_zero.1 hn0 with h9 | h9
                          · exact h9
                          · exact absurd h9 c1
                        subst hn
                        have e0 : ((Array.range (0 * de.size)).map (fun i => zv.cells[i % zv.cells.size]!)) = #[] := by rw [Nat.zero_mul, arr0]
                        rw [e0] at g1
                        have g1' : Instr.fill (fun i => some (i * de.size, de.size)) #[] (List.map (fun x => (x.1, a.eval x.2)) ps.toList) = some cells := by simpa using g1
                        simp [execOp, ho, Instr.buildSlice, run_underlying hu, hT.size hde, newRow, arr0, g1']
                      · have g1' : Instr.fill (fun i => some (i * de.size, de.size)) ((Array.range (n * de.size)).map (fun i => zv.cells[i % zv.cells.size]!)) (List.map (fun x => (x.1, a.eval x.2)) ps.toList) = some cells := by simpa using g1
                        simp [execOp, ho, Instr.buildSlice, run_underlying hu, hT.size hde, newRow, hn0, show ¬ 16777216 < n * de.size from c2, zeroValue, typeInfo, h1, hiz, g1']
                    unfold Oper.wp
                    rw [hrun, Oper.upon_value]
                    exact hk _ _ (GoodL.one rr hg)
                · cases hm
              · cases hm
            · cases hm
        · cases hm
      · cases hm
    · cases hm
  · cases hm
theorem wp_makeSlice {o : Oper} {t : TypeId} {l c : Operand} (ho : o.op = .makeSlice t l c) {L : List St} (hm : memOp Γ o S = some L) (hk : ∀ a' w', GoodL X E L a' w' → Kn a' w') : o.wp X.P a w Kn Q := by
  unfold memOp at hm
  simp only [ho, msliceM] at hm
  have hl := h.eval l
  have hc := h.eval c
  split at hm
  · rename_i d lo hi sy lo' hi' sy' hd heq1 heq2
    split at hm
    · rename_i e he
      split at hm
      · rename_i de hcn hde hhint
        split at hm
        · rename_i z hz
          split at hm
          · rename_i hfin
            cases hm
            obtain ⟨f0, f1, f4, f5, f6, f7, f8, f9⟩ := hfin
            rw [heq1] at hl
            rw [heq2] at hc
            obtain ⟨n, hn, n0, n1, _⟩ := hl
            obtain ⟨m, hm', m0, m1, _⟩ := hc
            have hmn : m = n := by
              rcases f1 with f1 | f1
              · have e := sameTmp_eq f1
                rw [← e, hn] at hm'
                injection hm' with _ h9
                exact h9.symm
              · omega
            subst hmn
            obtain ⟨q, rfl⟩ := Int.eq_ofNat_of_zero_le (Int.le_trans f0 n0)
            have hu := hT.elem hd he
            obtain ⟨i, u, h1, h2, h3, h4, _, h5, _⟩ := hT.get hde
            rw [h5] at hz
            cases hiz : i.zero with
            | none => rw [hiz] at hz; cases hz
            | some zv =>
              rw [hiz] at hz
              have hzz : z = zv.cells.toList.map zeroSV := by simpa using hz.symm
              have hzL : hasL E z zv.cells.toList := by rw [hzz]; exact zeroL_ok E _
              have hzp : Pat hcn 0 zv.cells.toList := leRow_ok (by omega) rfl f9 hzL
              have hzs : zv.cells.size = hcn.length := by rw [← Array.length_toList, ← hzL.length]; omega
              have hp := pat_zeros hzp hzs (by omega) (q * de.size) (Nat.zero_mod _)
              have hsz : ((Array.range (q * de.size)).map (fun i => zv.cells[i % zv.cells.size]!)).size = q * de.size := by simp
              obtain ⟨E', rr, hg⟩ := h.newR e o.dst (by omega) (by rw [hsz, f8]; exact Nat.mul_mod_left _ _) hp (l := q) (c := q) (lo := lo.toNat) (hi := hi.toNat) (by omega) (by omega) (Nat.le_refl q) (by rw [hsz, f8]; exact Nat.le_refl _)
              have hrun : (execOp a.eval o).run X.P w = .ok (.value (.slice (some ⟨w.heap.size, 0, none⟩) q q)) (w.alloc (.cells ((Array.range (q * de.size)).map (fun i => zv.cells[i % zv.cells.size]!)) e (0, 0))) := by
                have hmin : IntKind.i64.min = -9223372036854775808 := by decide
                have hmax : IntKind.i64.max = 9223372036854775807 := by decide
                have hw : IntKind.i64.wrap (q : Int) = (q : Int) := wrap_same .i64 (by omega) (by omega)
                have hby : (i.bytes : Int) * (q : Int) ≤ 281474976710656 := by
                  have h8 : i.bytes ≤ 4096 := by omega
                  have h9 : q ≤ 4294967296 := by omega
                  have h10 : i.bytes * q ≤ 4096 * 4294967296 := Nat.mul_le_mul h8 h9
                  have h11 : ((i.bytes * q : Nat) : Int) ≤ ((4096 * 4294967296 : Nat) : Int) := Int.ofNat_le.2 h10
                  rw [Int.natCast_mul] at h11
                  omega
                have hnb : ¬ (281474976710656 < (i.bytes : Int) * (q : Int)) := by omega
                have hq0 : ¬ ((q : Int) < 0) := by omega
                by_cases hn0 : q * de.size = 0
                · have hz0 : q = 0 := by
                    rcases Nat.mul_eq_zero.1 hn0 with h9 | h9
                    · exact h9
                    · omega
                  subst hz0
                  simp [execOp, ho, Instr.makeSlice, run_underlying hu, hn, hm', asInt, asIntOf, typeInfo, h1, hw, sizeOf, newRow, zeroValue]
                  simp [IntKind.wrap, IntKind.bits, IntKind.signed, arr0]
                · have hn0' : ¬ q * i.size = 0 := by rw [← h3]; exact hn0
                  simp [execOp, ho, Instr.makeSlice, run_underlying hu, hn, hm', asInt, asIntOf, typeInfo, h1, hw, hnb, hq0, sizeOf, hn0', zeroValue, hiz, newRow, h3]
              unfold Oper.wp
              rw [hrun, Oper.upon_value]
              exact hk _ _ (GoodL.one rr hg)
          · cases hm
        · cases hm
      · cases hm
    · cases hm
  · cases hm
end
/-- append: where there is room, and where there is none. -/
theorem run_append2 {P : Program} {t e ty : TypeId} {i : TypeInfo} {z : Value} (hu : P.underlying t = some (.slice e)) (hi : P.info? e = some i) (hz : i.zero = some z) {w : World} {base : Option Addr} {sLen sCap : Nat} {x : Value} {m : Nat} {us os : List Value}
    (hlen : ∀ w', (Builtin.lenOf x).run P w' = .ok m w') (hfx : ∀ w' : World, w'.heap = w.heap → (Builtin.firstCells i.size m x).run P w' = .ok us.toArray w')
    (hfs : ∀ w' : World, w'.heap = w.heap → (Builtin.firstCells i.size sLen (.slice base sLen sCap)).run P w' = .ok os.toArray w') (hby : (sLen + m) * i.bytes ≤ 140737488355328) (h63 : sLen + m ≤ 4611686018427387904) :
    (sLen + m ≤ sCap → ∀ w', (∀ ad, base = some ad → (storeCells (ad.add (sLen * i.size)) us).run P w = .ok () w') → (base = none → w' = w) → (Builtin.append_ #[t, t] ty #[.slice base sLen sCap, x]).run P w = .ok (.slice base (sLen + m) sCap) w') ∧
    (sCap < sLen + m → ∃ cap, sLen + m ≤ cap ∧ (Builtin.append_ #[t, t] ty #[.slice base sLen sCap, x]).run P w = .ok (.slice (some ⟨w.heap.size, 0, none⟩) (sLen + m) cap) (w.drew.alloc (.cells (os.toArray ++ (us.toArray ++ Builtin.zeroCells z.cells (cap - (sLen + m)))) e))) := by
  refine ⟨fun hroom w' hst hbn => ?_, fun hg => ?_⟩
  · have h1 := hfx w rfl
    cases base with
    | none =>
      obtain rfl := hbn rfl
      simp [Builtin.append_, run_underlying hu, sizeOf, typeInfo, hi, hlen, hroom, h1]
    | some ad =>
      have h2 := hst ad rfl
      simp [Builtin.append_, run_underlying hu, sizeOf, typeInfo, hi, hlen, hroom, h1, h2]
  · have hn : ¬ (sLen + m ≤ sCap) := by omega
    have h63' : ¬ (9223372036854775807 < ((sLen : Int) + (m : Int))) := by omega
    have h48 := growslice_fits (old := sCap) hg hby
    have h48' : ¬ (281474976710656 < Builtin.nextslicecap (sLen + m) sCap * i.bytes) := by omega
    have h1 := hfx w.drew rfl
    have h2 := hfs w.drew rfl
    refine ⟨grownCap w (sLen + m) sCap e, grownCap_ge w (sLen + m) sCap e, ?_⟩
    simp [Builtin.append_, run_underlying hu, sizeOf, typeInfo, zeroValue, hi, hz, hlen, hn, h63', h48', Question.forced, h1, h2, newRow, grownCap]
section
variable {X : Ctx} {E : Env} {S : St} {a : Act} {w : World}
/-- What a slice holds. -/
theorem Good.cells (h : Good X E S a w) {av : AV} {v : Value} (hv : hasAV E av v) {c : List CT} {lo hi : Nat} (hs : sliceAbs av = some (c, lo, hi)) (sz : Nat) (hsz : isNil av = true ∨ c.length = sz) :
    ∃ base l cap us, v = .slice base l cap ∧ lo ≤ l ∧ l ≤ hi ∧ us.length = l * sz ∧ (isNil av = true → us = [] ∧ base = none ∧ l = 0 ∧ cap = 0) ∧ (isNil av = false → Pat c 0 us) ∧ (∀ w' : World, w'.heap = w.heap → (Builtin.firstCells sz l v).run X.P w' = .ok us.toArray w') ∧
      (isNil av = false → l ≤ cap ∧ (base = none → cap = 0) ∧ ∀ ad, base = some ad → ad.spot = none ∧ ∃ N, E.K ad.block = some (.row c N) ∧ ad.off % c.length = 0 ∧ ad.off + cap * c.length ≤ N) := by
  cases av with
  | any => cases hs
  | tup _ => cases hs
  | one x => cases x with
    | agg _ => cases hs
    | cell s => cases s with
      | nils =>
        have e : v = .slice none 0 0 := hv
        cases hs
        subst e
        exact ⟨none, 0, 0, [], rfl, Nat.le_refl _, Nat.le_refl _, by simp, fun _ => ⟨rfl, rfl, rfl, rfl⟩, fun hn => by simp [isNil] at hn, fun w' _ => rfl, fun hn => by simp [isNil] at hn⟩
      | slice c' lo' hi' sy =>
        cases hs
        obtain ⟨base, l, cap, rfl, h1, h2, h3, _, h5, h6⟩ := hv
        have hc : c.length = sz := by
          rcases hsz with hq | hq
          · simp [isNil] at hq
          · exact hq
        cases base with
        | none =>
          have hc0 := h5 rfl
          have hl0 : l = 0 := by omega
          subst hl0
          exact ⟨none, 0, cap, [], rfl, h1, h2, by simp, fun hn => by simp [isNil] at hn, fun _ i v hi => by simp at hi, fun w' _ => rfl, fun _ => ⟨h3, h5, fun ad had => by cases had⟩⟩
        | some ad =>
          obtain ⟨h7, N, h8, h9, h10⟩ := h6 ad rfl
          have hlN : ad.off + l * sz ≤ N := by
            have := Nat.mul_le_mul_right sz h3
            rw [hc] at h10
            omega
          obtain ⟨us, u1, u2, u3⟩ := h.rowRead (P := X.P) h8 hlN
          refine ⟨some ad, l, cap, us, rfl, h1, h2, u1, fun hn => by simp [isNil] at hn, fun _ => Pat.shift h9 (Nat.zero_mod _) u2, fun w' hw' => ?_, fun _ => ⟨h3, h5, fun ad' had => by cases had; exact ⟨h7, N, h8, h9, h10⟩⟩⟩
          have e : ad = ⟨ad.block, ad.off, none⟩ := by cases ad; simp_all
          rw [e]
          show (loadCells ⟨ad.block, ad.off, none⟩ (l * sz)).run X.P w' = _
          exact u3 w' (by rw [hw'])
      | _ => cases hs
end
section
variable {X : Ctx} {Γ : Kit} (hT : TabOK X.P Γ.tab) {E : Env} {S : St} {a : Act} {w : World} (h : Good X E S a w) {Kn : Act → World → Prop} {Q : Exit → Act → World → Prop}
include hT h
theorem wp_append {o : Oper} {c : Call} (ho : o.op = .call c) (hcal : c.callee = .builtin .append) {L : List St} (hm : memOp Γ o S = some L) (hk : ∀ a' w', GoodL X E L a' w' → Kn a' w') : o.wp X.P a w Kn Q := by
  obtain ⟨callee, args, argTypes⟩ := c
  simp only at hcal
  subst hcal
  unfold memOp at hm
  simp only [ho, callM, appM] at hm
  split at hm
  · rename_i s x t t' hargs htys
    have ea : args = #[s, x] := by rw [← Array.toArray_toList (xs := args), hargs]
    have et : argTypes = #[t, t'] := by rw [← Array.toArray_toList (xs := argTypes), htys]
    subst ea et
    split at hm
    · rename_i htt
      subst htt
      split at hm
      · rename_i d hd
        split at hm
        · rename_i e he
          split at hm
          · rename_i de cs l1 h1 cx l2 h2 hde hs hx
            split at hm
            · rename_i cts z hcts hz
              split at hm
              · rename_i hfin
                cases hm
                obtain ⟨f1, f2, f3, f4, f5, f6⟩ := hfin
                have hu := hT.elem hd he
                obtain ⟨i, u, i1, i2, i3, i4, _, i5, _⟩ := hT.get hde
                rw [i5] at hz
                cases hiz : i.zero with
                | none => rw [hiz] at hz; cases hz
                | some zv =>
                  rw [hiz] at hz
                  have hzz : z = zv.cells.toList.map zeroSV := by simpa using hz.symm
                  have hzL : hasL E z zv.cells.toList := by rw [hzz]; exact zeroL_ok E _
                  have hzp : Pat cts 0 zv.cells.toList := leRow_ok (by omega) rfl f4 hzL
                  have hzs : zv.cells.size = cts.length := by rw [← Array.length_toList, ← hzL.length]; omega
                  -- the kinds
                  have kinds : (isNil (S.eval s) = true ∨ cs = cts) ∧ (isNil (S.eval x) = true ∨ leCTs cx cts = true) := by
                    unfold appCts at hcts
                    split at hcts
                    · rename_i hn
                      refine ⟨.inl hn, ?_⟩
                      split at hcts
                      · split at hcts
                        · rename_i hq
                          cases hcts
                          simpa [Bool.or_eq_true] using hq
                        · cases hcts
                      · cases hcts
                    · split at hcts
                      · rename_i hq
                        cases hcts
                        exact ⟨.inr rfl, by simpa [Bool.or_eq_true] using hq⟩
                      · cases hcts
                  have hsz : de.size = i.size := i3
                  obtain ⟨base, sl, sc, os, es, s1, s2, s3, s4, s5, s6, s7⟩ := h.cells (h.eval s) hs i.size (kinds.1.imp_right fun hq => by rw [hq]; omega)
                  obtain ⟨bx, m, xc, us, ex, x1, x2, x3, x4, x5, x6, x7⟩ := h.cells (h.eval x) hx i.size (kinds.2.imp_right fun hq => by have := leCTs_length hq; omega)
                  have patS : Pat cts 0 os := by
                    by_cases hn : isNil (S.eval s) = true
                    · rw [(s4 hn).1]; intro i v hi; simp at hi
                    · have h9 := s5 (by simpa using hn)
                      rcases kinds.1 with hq | hq
                      · exact absurd hq hn
                      · rw [← hq]; exact h9
                  have patX : Pat cts 0 us := by
                    by_cases hn : isNil (S.eval x) = true
                    · rw [(x4 hn).1]; intro i v hi; simp at hi
                    · have h9 := x5 (by simpa using hn)
                      rcases kinds.2 with hq | hq
                      · exact absurd hq hn
                      · exact Pat.le E hq h9
                  have hlen : ∀ w', (Builtin.lenOf (a.eval x)).run X.P w' = .ok m w' := fun w' => by rw [ex]; rfl
                  have hsum : sl + m ≤ 4294967296 := by omega
                  have hby : (sl + m) * i.bytes ≤ 140737488355328 := by
                    have h8 : i.bytes ≤ 4096 := by omega
                    have h10 : (sl + m) * i.bytes ≤ 4294967296 * 4096 := Nat.mul_le_mul hsum h8
                    omega
                  have hfs : ∀ w' : World, w'.heap = w.heap → (Builtin.firstCells i.size sl (.slice base sl sc)).run X.P w' = .ok os.toArray w' := fun w' hw' => by rw [← es]; exact s6 w' hw'
                  obtain ⟨room, grow⟩ := run_append2 (P := X.P) (ty := o.type) hu i1 hiz (w := w) hlen x6 hfs hby (by omega)
                  have exec : ∀ (v : Value) (w' : World), (Builtin.append_ #[t, t] o.type #[.slice base sl sc, a.eval x]).run X.P w = .ok v w' → (execOp a.eval o).run X.P w = .ok (.value v) w' := fun v w' hr => by
                    simp [execOp, ho, resolve, invoke, builtin, es, hr]
                  by_cases hroom : sl + m ≤ sc
                  · -- in place
                    have put : ∀ w', Good X E S a w' → (hasAV E (.one (.cell (.slice cts (l1 + l2) (h1 + h2) none))) (.slice base (sl + m) sc)) → (Builtin.append_ #[t, t] o.type #[.slice base sl sc, a.eval x]).run X.P w = .ok (.slice base (sl + m) sc) w' → o.wp X.P a w Kn Q := fun w' hg hv hr => by
                      obtain ⟨E', r, h4⟩ := hg.putF o.dst hv
                      unfold Oper.wp
                      rw [exec _ _ hr, Oper.upon_value]
                      exact hk _ _ (GoodL.one r.ext.rel h4)
                    by_cases hn : isNil (S.eval s) = true
                    · obtain ⟨_, rfl, rfl, rfl⟩ := s4 hn
                      obtain rfl : m = 0 := by omega
                      exact put w h ⟨none, 0, 0, rfl, by omega, by omega, Nat.le_refl _, fun s hs => (by cases hs), fun _ => rfl, fun ad had => (by cases had)⟩ (room hroom w (fun ad had => by cases had) fun _ => rfl)
                    · obtain ⟨q1, q2, q3⟩ := s7 (by simpa using hn)
                      have hcc : cs = cts := kinds.1.resolve_left hn
                      subst hcc
                      have hv : hasAV E (.one (.cell (.slice cs (l1 + l2) (h1 + h2) none))) (.slice base (sl + m) sc) := ⟨base, sl + m, sc, rfl, by omega, by omega, hroom, fun s hs => (by cases hs), q2, q3⟩
                      cases base with
                      | none => exact put w h hv (room hroom w (fun ad had => by cases had) fun _ => rfl)
                      | some ad =>
                        obtain ⟨b1, N, b2, b3, b4⟩ := q3 ad rfl
                        obtain ⟨vs, t0, r1, r2, r3, r4, r5⟩ := h.kinv.rows _ _ _ b2
                        have hin : ad.off + sl * i.size + us.length ≤ N := by
                          have := Nat.mul_le_mul_right cs.length hroom
                          rw [x3, Nat.add_assoc, ← Nat.add_mul, ← hsz, ← f3]
                          omega
                        have hpo : Pat cs (ad.off + sl * i.size) us := Pat.shift (Nat.zero_mod _) (by rw [← hsz, ← f3, Nat.add_mul_mod_self_right]; exact b3) patX
                        obtain ⟨w', vs', g1, g2, g3, g4⟩ := run_storeCells_at (P := X.P) (g := ad.block) (o := ad.off + sl * i.size) (t := t0) us 0 w vs r1 (by omega) hpo.one
                        have hg := h.rowStore (o := ad.off + sl * i.size) b2 r1 g2 g3 (by simpa using g4) hin hpo
                        exact put w' hg hv (room hroom w' (fun ad' had => by cases had; rw [addr_add ad _ b1]; exact g1) fun hb => by cases hb)
                  · obtain ⟨cap, k1, k2⟩ := grow (by omega)
                    have hw1 : Good X E S a w.drew := h.draw (w.drawn + 1)
                    have hos : os.length = sl * de.size := by rw [hsz]; exact s3
                    have hus : us.length = m * de.size := by rw [hsz]; exact x3
                    have hzc : (Builtin.zeroCells zv.cells (cap - (sl + m))).toList = ((Array.range ((cap - (sl + m)) * zv.cells.size)).map (fun i => zv.cells[i % zv.cells.size]!)).toList := rfl
                    have hsize : (os.toArray ++ (us.toArray ++ Builtin.zeroCells zv.cells (cap - (sl + m)))).size = cap * de.size := by
                      simp only [Array.size_append, List.size_toArray, Builtin.zeroCells, Array.size_map, Array.size_range, hos, hus, hzs, f3]
                      rw [← Nat.add_assoc, ← Nat.add_mul, ← Nat.add_mul]
                      congr 1
                      omega
                    have hpat : Pat cts 0 (os.toArray ++ (us.toArray ++ Builtin.zeroCells zv.cells (cap - (sl + m)))).toList := by
                      simp only [Array.toList_append]
                      rw [hzc, ← List.append_assoc]
                      refine Pat.app (Pat.app patS ?_) ?_
                      · exact Pat.shift (Nat.zero_mod _) (by rw [hos, f3, Nat.zero_add]; exact Nat.mul_mod_left _ _) patX
                      · refine pat_zeros hzp hzs (by omega) _ ?_
                        simp only [List.length_append, hos, hus, f3]
                        rw [Nat.zero_add, ← Nat.add_mul]
                        exact Nat.mul_mod_left _ _
                    obtain ⟨E', rr, hg⟩ := hw1.newR e o.dst (by omega) (by rw [hsize, f3]; exact Nat.mul_mod_left _ _) hpat (l := sl + m) (c := cap) (lo := l1 + l2) (hi := h1 + h2) (by omega) (by omega) k1 (by rw [hsize, f3]; exact Nat.le_refl _)
                    unfold Oper.wp
                    rw [exec _ _ k2, Oper.upon_value]
                    exact hk _ _ (GoodL.one rr hg)
              · cases hm
            · cases hm
          · cases hm
        · cases hm
      · cases hm
    · cases hm
  · cases hm
omit hT in
theorem wp_callF (hH : X.hd = Γ.hd) (hS : SoundT X.P X.CP Γ.T) {o : Oper} {c : Call} {f : FuncId} (ho : o.op = .call c) (hcal : c.callee = .value (.func f)) {L : List St} (hm : memOp Γ o S = some L) (hk : ∀ a' w', GoodL X E L a' w' → Kn a' w') : o.wp X.P a w Kn Q := by
  obtain ⟨callee, args, argTypes⟩ := c
  simp only at hcal
  subst hcal
  unfold memOp at hm
  simp only [ho, callM, funM] at hm
  split at hm
  · cases hm
  · rename_i blk hblk
    split at hm
    · cases hm
    · rename_i outs houts
      cases hm
      have hargs := hasArgs_eval h args.toList
      have hent := (hS _ _ _ _ houts).1
      have hrun : (execOp a.eval o).run X.P w = .ok (.enter f (args.map a.eval)) w := by
        simp [execOp, ho, resolve, Deferred.ofValue, Act.eval, invoke, hent]
      unfold Oper.wp
      rw [hrun, Oper.upon_enter]
      generalize hb : findPtr (args.toList.map S.eval) = b at hblk houts hk
      have hcall := (hS _ _ _ _ houts).2
      cases b with
      | none =>
        cases hblk
        have hA : hasArgs (envK E.K) ((args.toList.map S.eval).map (mapAV (mapArg none))) (args.map a.eval).toList := by
          rw [Array.toList_map]
          exact hasArgs_map (fun s v hv => mapArg_ok (E := E) (E' := envK E.K) rfl (fun x hx => by cases hx) hv) hargs
        refine (hcall (envK E.K) w _ hA h.kinv rfl).mono ?_
        rintro e w' ⟨v, K', rfl, k1, k2, q, hq, k3, _, klt⟩
        have hg := h.called (b := none) (blk := none) (g := (envK E.K).β 0) k1 k2 (fun x hx => by cases hx) (fun _ => rfl) (fun x hx => by cases hx) (o := q) (bl' := S.bl) (.inl ⟨rfl, rfl⟩)
        obtain ⟨E', r, h4⟩ := hg.putF o.dst (k3.ext (envK_ext (E := { E with K := K' }) fun _ _ hh => hh))
        cases hlt : q.lt with
        | none =>
          refine hk _ _ ⟨_, List.mem_map.2 ⟨q, hq, rfl⟩, E', ⟨r.ext.nx, r.ext.σ⟩, ?_⟩
          simp only [hlt]
          exact h4
        | some k =>
          refine hk _ _ ⟨_, List.mem_map.2 ⟨q, hq, rfl⟩, E', ⟨r.ext.nx, r.ext.σ⟩, ?_⟩
          simp only [hlt]
          obtain ⟨kd, n, kd', m, e1, e2, e3⟩ := klt k hlt
          refine h4.addLt (v := v) (u := .int kd' m) (fun d hd hdl => ?_) ?_ ⟨kd, n, kd', m, e1, rfl, e3⟩
          · rw [hd] at hdl ⊢
            have hdl2 : d < a.tmps.size := by simpa [Act.put] using hdl
            simp [Act.put, Array.getD_eq_getD_getElem?, Array.getElem?_setIfInBounds_self_of_lt hdl2]
          · have hkl : k < args.toList.length := by
              refine Nat.lt_of_not_le fun hle => ?_
              rw [List.getD_eq_getElem?_getD, List.getElem?_eq_none (by simpa using hle)] at e2
              cases e2
            have h5 := hargs.get k (by simpa using hkl)
            have e4 : (args.toList.map a.eval).getD k undef = .int kd' m := by
              rw [← e2, Array.toList_map]
            rw [e4] at h5
            exact h5.ext ((show Ext E { E with K := K' } from ⟨Nat.le_refl _, fun _ _ => rfl, Nat.le_refl _, fun _ _ => rfl, fun g kk hh => (k2.kext g (h.kinv.lt hh)).trans hh⟩).trans r.ext)
      | some x =>
        simp only at hblk
        cases hdx : Γ.hd.contains x with
        | true => rw [hdx] at hblk; cases hblk
        | false =>
        rw [hdx] at hblk
        simp only [Bool.false_eq_true, if_false] at hblk
        have hxd : x ∉ X.hd := by rw [hH]; simpa using hdx
        cases hx : S.bl[x]? with
        | none => rw [hx] at hblk; cases hblk
        | some tc =>
          obtain ⟨t, cs⟩ := tc
          rw [hx] at hblk
          cases hblk
          obtain ⟨b1, b2, us, b3, b4⟩ := h.blks.at_ x t cs hx
          let E1 : Env := ⟨fun _ => 0, 0, fun _ => E.β x, 1, E.K⟩
          have hA : hasArgs E1 ((args.toList.map S.eval).map (mapAV (mapArg (some x)))) (args.map a.eval).toList := by
            rw [Array.toList_map]
            exact hasArgs_map (fun s v hv => mapArg_ok (E := E) (E' := E1) rfl (fun y hy => by cases hy; exact ⟨rfl, rfl⟩) hv) hargs
          refine (hcall E1 w _ hA h.kinv ⟨rfl, b1, us, b3, b4.map (fun s v hv => stripSV_ok (E := E) (E' := E1) (fun _ _ hh => hh) hv)⟩).mono ?_
          rintro e w' ⟨v, K', rfl, k1, k2, q, hq, k3, ⟨us', k4, k5⟩, _⟩
          obtain ⟨E2, r2, n2, h6⟩ := freshL_ok (E := { E with K := K' }) (k5.ext (envK_ext (E := { E with K := K' }) fun _ _ hh => hh))
          have hg := h.called (b := some x) (blk := some (t, cs.map stripSV)) (g := E.β x) k1 k2 (fun y hy => by cases hy; exact ⟨rfl, (List.getElem?_eq_some_iff.1 hx).1⟩) (fun hy => by cases hy) (fun y hy => by cases hy; exact hxd) (o := q) (bl' := S.bl.set x (t, q.blk)) (.inr ⟨x, t, cs, q.blk, rfl, hx, rfl, us', k4, k5⟩)
          -- the names of the block's cells
          have hg2 := hg.ren r2
          have hlt := (List.getElem?_eq_some_iff.1 hx).1
          have hg3 : Good X E2 { S with nx := E2.nx, bl := S.bl.set x (t, (freshL q.blk S.nx).1) } a w' := by
            have h7 := hg2.blkStore (b := x) (o := 0) (t := t) (cs := q.blk) (ns := (freshL q.blk S.nx).1) (vs := us') (vs' := us') (us := us'.toList) (w' := w') (by simp [hlt]) (Upd.refl _ _) (by rw [r2.β]; exact k4) (by rw [r2.β]; exact k4) ?_ ?_ hxd
            · have e1 : setR q.blk 0 (freshL q.blk S.nx).1 = (freshL q.blk S.nx).1 := by
                have key : ∀ (ns pre cs : List SV), ns.length = cs.length → setR (pre ++ cs) pre.length ns = pre ++ ns := by
                  intro ns
                  induction ns with
                  | nil => intro pre cs hl; have : cs = [] := List.eq_nil_of_length_eq_zero (by simpa using hl.symm); subst this; rfl
                  | cons n ns ih =>
                    intro pre cs hl
                    cases cs with
                    | nil => simp at hl
                    | cons c cs =>
                      rw [setR]
                      have e2 : (pre ++ c :: cs).set pre.length n = (pre ++ [n]) ++ cs := by simp
                      rw [e2]
                      have := ih (pre ++ [n]) cs (by simpa using hl)
                      rw [List.length_append] at this
                      simpa using this
                have hl2 : (freshL q.blk S.nx).1.length = q.blk.length := by
                  have a1 := h6.length
                  have a2 := k5.length
                  have e3 : ({ E with K := K' } : Env).nx = S.nx := h.nx
                  rw [e3] at a1
                  omega
                simpa using key (freshL q.blk S.nx).1 [] q.blk hl2
              rw [e1] at h7
              simpa using h7
            · have key : ∀ (ns pre cs : List Value), ns.length = cs.length → setV (pre ++ cs) pre.length ns = pre ++ ns := by
                intro ns
                induction ns with
                | nil => intro pre cs hl; have : cs = [] := List.eq_nil_of_length_eq_zero (by simpa using hl.symm); subst this; rfl
                | cons n ns ih =>
                  intro pre cs hl
                  cases cs with
                  | nil => simp at hl
                  | cons c cs =>
                    rw [setV]
                    have e2 : (pre ++ c :: cs).set pre.length n = (pre ++ [n]) ++ cs := by simp
                    rw [e2]
                    have := ih (pre ++ [n]) cs (by simpa using hl)
                    rw [List.length_append] at this
                    simpa using this
              simpa using (key us'.toList [] us'.toList rfl).symm
            · have e3 : ({ E with K := K' } : Env).nx = S.nx := h.nx
              rw [e3] at h6
              exact h6
          have h8 : hasAV E2 q.res v := k3.ext (envK_ext (E := E2) fun g k hh => by rw [r2.K]; exact hh)
          obtain ⟨E3, r3, h9⟩ := hg3.putF o.dst h8
          have e3 : ({ E with K := K' } : Env).nx = S.nx := h.nx
          refine hk _ _ ⟨_, List.mem_map.2 ⟨q, hq, rfl⟩, E3, ?_, ?_⟩
          · exact Rel.trans (B := E2) ⟨r2.ext.nx, r2.ext.σ⟩ r3.ext.rel
          · rw [e3] at n2
            simp only [hx]
            rw [n2] at h9
            exact h9
end
end Go.Proofs.Ytnoelppkcbelcaa.Ty
