/-
Fresh names, what a test tells, and when one abstract state holds another.
-/
import Derived.Test.YtnoelppkcbelcaaTy1
set_option linter.unusedVariables false
set_option linter.unusedSimpArgs false
namespace Go.Proofs.Ytnoelppkcbelcaa.Ty
open Go

/-- A later state in which only names have come. -/
structure Ren (E E' : Env) : Prop where
  ext : Ext E E'
  K : E'.K = E.K
  β : E'.β = E.β
  nb : E'.nb = E.nb
theorem Ren.refl (E : Env) : Ren E E := ⟨Ext.refl E, rfl, rfl, rfl⟩
theorem Ren.trans {A B C : Env} (h : Ren A B) (k : Ren B C) : Ren A C := ⟨h.ext.trans k.ext, k.K.trans h.K, k.β.trans h.β, k.nb.trans h.nb⟩
def Env.bump (E : Env) (x : Int) : Env := { E with σ := fun s => if s = E.nx then x else E.σ s, nx := E.nx + 1 }
theorem Ren.bump (E : Env) (x : Int) : Ren E (E.bump x) :=
  ⟨⟨Nat.le_succ _, fun s hs => if_neg (Nat.ne_of_lt hs), Nat.le_refl _, fun _ _ => rfl, fun _ _ h => h⟩, rfl, rfl, rfl⟩
theorem Blks.ren {p : Option Nat} {pt : TypeId} {n0 : Nat} {E E' : Env} {bl : List (TypeId × List SV)} {w : World} (h : Blks p pt n0 E bl w) (r : Ren E E') : Blks p pt n0 E' bl w :=
  ⟨r.nb.trans h.nb, fun b t cs hb => by
    obtain ⟨h1, h2, vs, h3, h4⟩ := h.at_ b t cs hb
    rw [r.β, r.K]
    exact ⟨h1, h2, vs, h3, h4.ext r.ext⟩, fun b c hb hc he => h.inj b c hb hc (by rw [r.β] at he; exact he), fun g hg => by rw [r.β]; exact h.first g hg⟩
theorem Good.ren {X : Ctx} {E E' : Env} {S : St} {a : Act} {w : World} (h : Good X E S a w) (r : Ren E E') : Good X E' { S with nx := E'.nx } a w :=
  ⟨h.defers, h.len, rfl, fun i => (h.tmps i).ext r.ext, by rw [r.K]; exact h.kinv, by rw [r.K]; exact h.fr, h.blks.ren r, fun x y hxy => by
    obtain ⟨h1, h2, h3⟩ := h.lts x y hxy
    exact ⟨Nat.lt_of_lt_of_le h1 r.ext.nx, Nat.lt_of_lt_of_le h2 r.ext.nx, by rw [r.ext.σ x h1, r.ext.σ y h2]; exact h3⟩, fun b hb => by rw [r.β]; exact h.held b hb⟩

def freshSV : SV → Nat → SV × Nat
  | .int k lo hi none, n => (.int k lo hi (some (n, 0)), n + 1)
  | .slice cts lo hi none, n => (.slice cts lo hi (some n), n + 1)
  | s, n => (s, n)
def freshL : List SV → Nat → List SV × Nat
  | [], n => ([], n)
  | s :: ss, n => match freshSV s n with
    | (s', n') => match freshL ss n' with
      | (ss', n'') => (s' :: ss', n'')
def freshV1 : V1 → Nat → V1 × Nat
  | .cell s, n => match freshSV s n with | (s', n') => (.cell s', n')
  | .agg cs, n => match freshL cs n with | (cs', n') => (.agg cs', n')
def freshL1 : List V1 → Nat → List V1 × Nat
  | [], n => ([], n)
  | s :: ss, n => match freshV1 s n with
    | (s', n') => match freshL1 ss n' with
      | (ss', n'') => (s' :: ss', n'')
def freshAV : AV → Nat → AV × Nat
  | .any, n => (.any, n)
  | .one v, n => match freshV1 v n with | (v', n') => (.one v', n')
  | .tup vs, n => match freshL1 vs n with | (vs', n') => (.tup vs', n')
theorem freshSV_ok {E : Env} {s : SV} {v : Value} (h : hasSV E s v) : ∃ E', Ren E E' ∧ E'.nx = (freshSV s E.nx).2 ∧ hasSV E' (freshSV s E.nx).1 v := by
  cases s with
  | int k lo hi sy =>
    cases sy with
    | none =>
      obtain ⟨n, rfl, h1, h2, _⟩ := h
      refine ⟨E.bump n, Ren.bump E n, rfl, n, rfl, h1, h2, fun s d hs => ?_⟩
      cases hs
      exact ⟨Nat.lt_succ_self _, by simp [Env.bump]⟩
    | some x => exact ⟨E, Ren.refl E, rfl, h⟩
  | slice cts lo hi sy =>
    cases sy with
    | none =>
      obtain ⟨a, l, c, rfl, h1, h2, h3, _, h5, h6⟩ := h
      refine ⟨E.bump l, Ren.bump E l, rfl, a, l, c, rfl, h1, h2, h3, fun s hs => ?_, h5, h6⟩
      cases hs
      exact ⟨Nat.lt_succ_self _, by simp [Env.bump]⟩
    | some x => exact ⟨E, Ren.refl E, rfl, h⟩
  | any => exact ⟨E, Ren.refl E, rfl, h⟩
  | bool t ft ff => exact ⟨E, Ren.refl E, rfl, h⟩
  | str => exact ⟨E, Ren.refl E, rfl, h⟩
  | ptr b off => exact ⟨E, Ren.refl E, rfl, h⟩
  | eptr cts j => exact ⟨E, Ren.refl E, rfl, h⟩
  | cur => exact ⟨E, Ren.refl E, rfl, h⟩
  | nils => exact ⟨E, Ren.refl E, rfl, h⟩
theorem freshL_ok : ∀ {ss : List SV} {E : Env} {vs : List Value}, hasL E ss vs → ∃ E', Ren E E' ∧ E'.nx = (freshL ss E.nx).2 ∧ hasL E' (freshL ss E.nx).1 vs
  | [], E, [], h => ⟨E, Ren.refl E, rfl, trivial⟩
  | [], _, _ :: _, h => h.elim
  | _ :: _, _, [], h => h.elim
  | s :: ss, E, v :: vs, h => by
    obtain ⟨E1, r1, n1, h1⟩ := freshSV_ok h.1
    obtain ⟨E2, r2, n2, h2⟩ := freshL_ok (ss := ss) (h.2.ext r1.ext)
    rw [n1] at n2 h2
    exact ⟨E2, r1.trans r2, n2, h1.ext r2.ext, h2⟩
theorem freshV1_ok {E : Env} {s : V1} {v : Value} (h : hasV1 E s v) : ∃ E', Ren E E' ∧ E'.nx = (freshV1 s E.nx).2 ∧ hasV1 E' (freshV1 s E.nx).1 v := by
  cases s with
  | cell s => exact freshSV_ok (s := s) h
  | agg cs =>
    obtain ⟨vs, rfl, h1⟩ := h
    obtain ⟨E', r, n, h2⟩ := freshL_ok h1
    exact ⟨E', r, n, vs, rfl, h2⟩
theorem freshL1_ok : ∀ {ss : List V1} {E : Env} {vs : List Value}, hasL1 E ss vs → ∃ E', Ren E E' ∧ E'.nx = (freshL1 ss E.nx).2 ∧ hasL1 E' (freshL1 ss E.nx).1 vs
  | [], E, [], h => ⟨E, Ren.refl E, rfl, trivial⟩
  | [], _, _ :: _, h => h.elim
  | _ :: _, _, [], h => h.elim
  | s :: ss, E, v :: vs, h => by
    obtain ⟨E1, r1, n1, h1⟩ := freshV1_ok h.1
    obtain ⟨E2, r2, n2, h2⟩ := freshL1_ok (ss := ss) (h.2.ext r1.ext)
    rw [n1] at n2 h2
    exact ⟨E2, r1.trans r2, n2, h1.ext r2.ext, h2⟩
theorem freshAV_ok {E : Env} {s : AV} {v : Value} (h : hasAV E s v) : ∃ E', Ren E E' ∧ E'.nx = (freshAV s E.nx).2 ∧ hasAV E' (freshAV s E.nx).1 v := by
  cases s with
  | any => exact ⟨E, Ren.refl E, rfl, trivial⟩
  | one s => exact freshV1_ok (s := s) h
  | tup vs =>
    obtain ⟨us, rfl, h1⟩ := h
    obtain ⟨E', r, n, h2⟩ := freshL1_ok h1
    exact ⟨E', r, n, us, rfl, h2⟩
/-- A result into its slot, under names of its own. -/
def St.putF (S : St) (dst : Option Nat) (av : AV) : St := match freshAV av S.nx with
  | (av', n) => { S with nx := n }.put dst av'
theorem Good.putF {X : Ctx} {E : Env} {S : St} {a : Act} {w : World} (h : Good X E S a w) (dst : Option Nat) {av : AV} {v : Value} (hv : hasAV E av v) :
    ∃ E', Ren E E' ∧ Good X E' (S.putF dst av) (a.put dst v) w := by
  obtain ⟨E', r, n, h1⟩ := freshAV_ok hv
  refine ⟨E', r, ?_⟩
  rw [h.nx] at n h1
  have h2 := (h.ren r).put dst h1
  rw [n] at h2
  exact h2

/-- What a fact says of a cell. -/
def refine1 (f : Fact) : SV → SV
  | .int k lo hi (some (s, d)) => match f with
    | .le t c => if s = t then .int k lo (if c + d < hi then c + d else hi) (some (s, d)) else .int k lo hi (some (s, d))
    | .ge t c => if s = t then .int k (if lo < c + d then c + d else lo) hi (some (s, d)) else .int k lo hi (some (s, d))
    | .lt _ _ => .int k lo hi (some (s, d))
  | .slice cts lo hi (some s) => match f with
    | .le t c => if s = t then .slice cts lo (if c.toNat < hi then c.toNat else hi) (some s) else .slice cts lo hi (some s)
    | .ge t c => if s = t then .slice cts (if lo < c.toNat then c.toNat else lo) hi (some s) else .slice cts lo hi (some s)
    | .lt _ _ => .slice cts lo hi (some s)
  | s => s
theorem refine1_ok {E : Env} {f : Fact} (hf : f.ok E) {s : SV} {v : Value} (h : hasSV E s v) : hasSV E (refine1 f s) v := by
  cases s with
  | int k lo hi sy =>
    cases sy with
    | none => exact h
    | some x =>
      obtain ⟨s, d⟩ := x
      obtain ⟨n, rfl, h1, h2, h3⟩ := h
      obtain ⟨h4, h5⟩ := h3 s d rfl
      cases f with
      | le t c =>
        simp only [refine1]
        by_cases hst : s = t
        · subst hst
          rw [if_pos rfl]
          have h6 := hf.2
          refine ⟨n, rfl, h1, ?_, h3⟩
          by_cases hc : c + d < hi
          · rw [if_pos hc]; omega
          · rw [if_neg hc]; exact h2
        · rw [if_neg hst]; exact ⟨n, rfl, h1, h2, h3⟩
      | ge t c =>
        simp only [refine1]
        by_cases hst : s = t
        · subst hst
          rw [if_pos rfl]
          have h6 := hf.2
          refine ⟨n, rfl, ?_, h2, h3⟩
          by_cases hc : lo < c + d
          · rw [if_pos hc]; omega
          · rw [if_neg hc]; exact h1
        · rw [if_neg hst]; exact ⟨n, rfl, h1, h2, h3⟩
      | lt x y => exact ⟨n, rfl, h1, h2, h3⟩
  | slice cts lo hi sy =>
    cases sy with
    | none => exact h
    | some s =>
      obtain ⟨a, l, c', rfl, h1, h2, h3, h4, h5, h6⟩ := h
      obtain ⟨h7, h8⟩ := h4 s rfl
      cases f with
      | le t c =>
        simp only [refine1]
        by_cases hst : s = t
        · subst hst
          rw [if_pos rfl]
          have h9 := hf.2
          refine ⟨a, l, c', rfl, h1, ?_, h3, h4, h5, h6⟩
          by_cases hc : c.toNat < hi
          · rw [if_pos hc]; omega
          · rw [if_neg hc]; exact h2
        · rw [if_neg hst]; exact ⟨a, l, c', rfl, h1, h2, h3, h4, h5, h6⟩
      | ge t c =>
        simp only [refine1]
        by_cases hst : s = t
        · subst hst
          rw [if_pos rfl]
          have h9 := hf.2
          refine ⟨a, l, c', rfl, ?_, h2, h3, h4, h5, h6⟩
          by_cases hc : lo < c.toNat
          · rw [if_pos hc]; omega
          · rw [if_neg hc]; exact h1
        · rw [if_neg hst]; exact ⟨a, l, c', rfl, h1, h2, h3, h4, h5, h6⟩
      | lt x y => exact ⟨a, l, c', rfl, h1, h2, h3, h4, h5, h6⟩
  | any => exact h
  | bool t ft ff => exact h
  | str => exact h
  | ptr b off => exact h
  | eptr cts j => exact h
  | cur => exact h
  | nils => exact h
def mapV1 (g : SV → SV) : V1 → V1
  | .cell s => .cell (g s)
  | .agg cs => .agg (cs.map g)
def mapAV (g : SV → SV) : AV → AV
  | .any => .any
  | .one v => .one (mapV1 g v)
  | .tup vs => .tup (vs.map (mapV1 g))
theorem hasL.map {E E' : Env} {g : SV → SV} (hg : ∀ s v, hasSV E s v → hasSV E' (g s) v) : ∀ {ss : List SV} {vs : List Value}, hasL E ss vs → hasL E' (ss.map g) vs
  | [], [], _ => trivial
  | [], _ :: _, h => h.elim
  | _ :: _, [], h => h.elim
  | _ :: _, _ :: _, h => ⟨hg _ _ h.1, hasL.map hg h.2⟩
theorem hasV1.map {E E' : Env} {g : SV → SV} (hg : ∀ s v, hasSV E s v → hasSV E' (g s) v) {s : V1} {v : Value} (h : hasV1 E s v) : hasV1 E' (mapV1 g s) v := by
  cases s with
  | cell s => exact hg _ _ h
  | agg cs => obtain ⟨vs, rfl, h1⟩ := h; exact ⟨vs, rfl, h1.map hg⟩
theorem hasL1.map {E E' : Env} {g : SV → SV} (hg : ∀ s v, hasSV E s v → hasSV E' (g s) v) : ∀ {ss : List V1} {vs : List Value}, hasL1 E ss vs → hasL1 E' (ss.map (mapV1 g)) vs
  | [], [], _ => trivial
  | [], _ :: _, h => h.elim
  | _ :: _, [], h => h.elim
  | _ :: _, _ :: _, h => ⟨h.1.map hg, hasL1.map hg h.2⟩
theorem hasAV.map {E E' : Env} {g : SV → SV} (hg : ∀ s v, hasSV E s v → hasSV E' (g s) v) {s : AV} {v : Value} (h : hasAV E s v) : hasAV E' (mapAV g s) v := by
  cases s with
  | any => trivial
  | one s => exact hasV1.map hg h
  | tup vs => obtain ⟨us, rfl, h1⟩ := h; exact ⟨us, rfl, h1.map hg⟩
def St.map (g : SV → SV) (S : St) : St := { S with tmps := S.tmps.map fun x => (x.1, mapAV g x.2), bl := S.bl.map fun (t, cs) => (t, cs.map g) }
theorem Good.map {X : Ctx} {E : Env} {S : St} {a : Act} {w : World} (h : Good X E S a w) {g : SV → SV} (hg : ∀ s v, hasSV E s v → hasSV E (g s) v) : Good X E (S.map g) a w := by
  refine ⟨h.defers, by simpa [St.map] using h.len, h.nx, fun i => ?_, h.kinv, h.fr, ⟨by simpa [St.map] using h.blks.nb, fun b t cs hb => ?_, fun b c hb hc he => ?_, fun g0 hg0 => ?_⟩, h.lts, fun b hb => by simpa [St.map] using h.held b hb⟩
  · have h1 := h.tmps i
    have e : getT (S.map g).tmps i = mapAV g (getT S.tmps i) := getT_map (mapAV g) rfl S.tmps i
    rw [e]
    exact h1.map hg
  · simp only [St.map, List.getElem?_map] at hb
    cases hx : S.bl[b]? with
    | none => rw [hx] at hb; cases hb
    | some x =>
      obtain ⟨t', cs'⟩ := x
      rw [hx] at hb
      cases hb
      obtain ⟨h1, h2, vs, h3, h4⟩ := h.blks.at_ b _ _ hx
      exact ⟨h1, h2, vs, h3, h4.map hg⟩
  · simp only [St.map, List.length_map] at hb hc
    exact h.blks.inj b c hb hc he
  · obtain ⟨h1, cs, h2⟩ := h.blks.first g0 hg0
    exact ⟨h1, cs.map g, by simp only [St.map, List.getElem?_map, h2]; rfl⟩
def refineL : List Fact → SV → SV
  | [], s => s
  | f :: fs, s => refineL fs (refine1 f s)
theorem refineL_ok {E : Env} : ∀ {fs : List Fact}, (∀ f ∈ fs, f.ok E) → ∀ {s : SV} {v : Value}, hasSV E s v → hasSV E (refineL fs s) v
  | [], _, _, _, h => h
  | f :: fs, hf, _, _, h => refineL_ok (fs := fs) (fun g hg => hf g (List.mem_cons_of_mem _ hg)) (refine1_ok (hf f List.mem_cons_self) h)
/-- Only named cells are looked at. -/
def refineN (fs : List Fact) : SV → SV
  | .int k lo hi (some x) => refineL fs (.int k lo hi (some x))
  | .slice c lo hi (some x) => refineL fs (.slice c lo hi (some x))
  | s => s
theorem refineN_ok {E : Env} {fs : List Fact} (hf : ∀ f ∈ fs, f.ok E) {s : SV} {v : Value} (h : hasSV E s v) : hasSV E (refineN fs s) v := by
  unfold refineN
  split
  · exact refineL_ok hf h
  · exact refineL_ok hf h
  · exact h
def boundsOf : List Fact → List Fact
  | [] => []
  | .lt _ _ :: r => boundsOf r
  | f :: r => f :: boundsOf r
def ltsOf : List Fact → List (Nat × Nat)
  | [] => []
  | .lt x y :: r => (x, y) :: ltsOf r
  | _ :: r => ltsOf r
theorem boundsOf_mem : ∀ {fs : List Fact} {f : Fact}, f ∈ boundsOf fs → f ∈ fs
  | [], _, h => h
  | .lt _ _ :: r, f, h => List.mem_cons_of_mem _ (boundsOf_mem (fs := r) h)
  | .le s c :: r, f, h => by
    rcases List.mem_cons.1 h with h1 | h1
    · rw [h1]; exact List.mem_cons_self
    · exact List.mem_cons_of_mem _ (boundsOf_mem (fs := r) h1)
  | .ge s c :: r, f, h => by
    rcases List.mem_cons.1 h with h1 | h1
    · rw [h1]; exact List.mem_cons_self
    · exact List.mem_cons_of_mem _ (boundsOf_mem (fs := r) h1)
theorem ltsOf_mem : ∀ {fs : List Fact} {x y : Nat}, (x, y) ∈ ltsOf fs → Fact.lt x y ∈ fs
  | [], _, _, h => by cases h
  | .lt a b :: r, x, y, h => by
    rcases List.mem_cons.1 h with h1 | h1
    · cases h1; exact List.mem_cons_self
    · exact List.mem_cons_of_mem _ (ltsOf_mem (fs := r) h1)
  | .le s c :: r, x, y, h => List.mem_cons_of_mem _ (ltsOf_mem (fs := r) h)
  | .ge s c :: r, x, y, h => List.mem_cons_of_mem _ (ltsOf_mem (fs := r) h)
def St.assume (S : St) (fs : List Fact) : St := match boundsOf fs with
  | [] => { S with lt := ltsOf fs ++ S.lt }
  | bs => ({ S with lt := ltsOf fs ++ S.lt } : St).map (refineN bs)
theorem Good.assume {X : Ctx} {E : Env} {a : Act} {w : World} {fs : List Fact} {S : St} (h : Good X E S a w) (hf : ∀ f ∈ fs, f.ok E) : Good X E (S.assume fs) a w := by
  have h1 : Good X E { S with lt := ltsOf fs ++ S.lt } a w := ⟨h.defers, h.len, h.nx, h.tmps, h.kinv, h.fr, h.blks, fun s t hst => by
    rcases List.mem_append.1 hst with h2 | h2
    · exact hf _ (ltsOf_mem h2)
    · exact h.lts s t h2, h.held⟩
  unfold St.assume
  split
  · exact h1
  · exact h1.map fun _ _ h2 => refineN_ok (fun f hf' => hf f (boundsOf_mem hf')) h2
/-- A cell that no value is. -/
def SV.bad : SV → Bool
  | .int _ lo hi _ => decide (hi < lo)
  | .slice _ lo hi _ => decide (hi < lo)
  | _ => false
theorem SV.bad_no {E : Env} {s : SV} {v : Value} (h : hasSV E s v) : s.bad = false := by
  cases s with
  | int k lo hi sy => obtain ⟨n, rfl, h1, h2, _⟩ := h; simp only [SV.bad]; exact decide_eq_false (by omega)
  | slice cts lo hi sy => obtain ⟨a, l, c, rfl, h1, h2, _⟩ := h; simp only [SV.bad]; exact decide_eq_false (by omega)
  | _ => rfl
def AV.bad : AV → Bool
  | .one (.cell s) => s.bad
  | _ => false
theorem AV.bad_no {E : Env} {s : AV} {v : Value} (h : hasAV E s v) : s.bad = false := by
  cases s with
  | any => rfl
  | tup vs => rfl
  | one s => cases s with
    | cell s => exact SV.bad_no (s := s) h
    | agg cs => rfl
def St.bad (S : St) : Bool := S.tmps.any fun x => (getT S.tmps x.1).bad
theorem Good.not_bad {X : Ctx} {E : Env} {S : St} {a : Act} {w : World} (h : Good X E S a w) : S.bad = false := by
  unfold St.bad
  rw [List.any_eq_false]
  intro x _
  rw [AV.bad_no (h.tmps x.1)]
  simp
end Go.Proofs.Ytnoelppkcbelcaa.Ty
