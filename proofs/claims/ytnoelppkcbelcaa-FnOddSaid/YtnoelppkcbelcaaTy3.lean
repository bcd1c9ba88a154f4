/-
When one abstract state holds another; joining states that part.
-/
import Derived.Test.YtnoelppkcbelcaaTy2
set_option linter.unusedVariables false
set_option linter.unusedSimpArgs false
namespace Go.Proofs.Ytnoelppkcbelcaa.Ty
open Go

def symEq : Option (Nat × Int) → Option (Nat × Int) → Bool
  | some (a, b), some (c, d) => decide (a = c) && decide (b = d)
  | none, none => true
  | _, _ => false
theorem symEq_eq : ∀ {x y : Option (Nat × Int)}, symEq x y = true → x = y := by
  intro x y h
  cases x <;> cases y <;> simp_all [symEq]
  rename_i a b
  obtain ⟨a1, a2⟩ := a
  obtain ⟨b1, b2⟩ := b
  simp_all [symEq]
def natEq : Option Nat → Option Nat → Bool
  | some a, some b => decide (a = b)
  | none, none => true
  | _, _ => false
theorem natEq_eq : ∀ {x y : Option Nat}, natEq x y = true → x = y := by
  intro x y h
  cases x <;> cases y <;> simp_all [natEq]
def boolLe : Option Bool → Option Bool → Bool
  | _, none => true
  | some a, some b => a == b
  | none, some _ => false
def symLt (q : Nat) : Option (Nat × Int) → Bool
  | some (s, _) => decide (s < q)
  | none => true
def natLt (q : Nat) : Option Nat → Bool
  | some s => decide (s < q)
  | none => true
/-- The second holds the first, where m blocks and q names are left. -/
def leSV (m q : Nat) : SV → SV → Bool
  | _, .any => true
  | .bool t _ _, .bool t' [] [] => boolLe t t'
  | .int k lo hi sy, .int k' lo' hi' sy' => decide (k = k') && (decide (lo' ≤ lo) && (decide (hi ≤ hi') && (symEq sy' none || (symEq sy sy' && symLt q sy'))))
  | .str, .str => true
  | .ptr b o, .ptr b' o' => decide (b = b') && (decide (o = o') && decide (b < m))
  | .eptr c j, .eptr c' j' => ctsEq c c' && decide (j = j')
  | .cur, .cur => true
  | .nils, .nils => true
  | .nils, .slice _ lo _ sy => decide (lo = 0) && natEq sy none
  | .slice c lo hi sy, .slice c' lo' hi' sy' => ctsEq c c' && (decide (lo' ≤ lo) && (decide (hi ≤ hi') && (natEq sy' none || (natEq sy sy' && natLt q sy'))))
  | _, _ => false
/-- The names' later state in which the blocks from m on are forgotten. -/
structure Cut (E E' : Env) (m q : Nat) : Prop where
  nx : E'.nx = q
  σ : E'.σ = E.σ
  β : E'.β = E.β
  K : E'.K = E.K
  nb : E'.nb = m
theorem leSV_ok {E E' : Env} {m q : Nat} (c : Cut E E' m q) {a b : SV} (h : leSV m q a b = true) {v : Value} (hv : hasSV E a v) : hasSV E' b v := by
  cases b with
  | any => trivial
  | bool t' ft' ff' =>
    cases a with
    | bool t ft ff =>
      cases ft' with
      | cons _ _ => simp [leSV] at h
      | nil =>
        cases ff' with
        | cons _ _ => simp [leSV] at h
        | nil =>
          obtain ⟨x, rfl, h1, _, _⟩ := hv
          refine ⟨x, rfl, fun c' hc => ?_, fun _ f hf => absurd hf (by simp), fun _ f hf => absurd hf (by simp)⟩
          subst hc
          simp only [leSV] at h
          cases t with
          | none => simp [boolLe] at h
          | some t => simp [boolLe] at h; rw [h1 t rfl, h]
    | _ => simp [leSV] at h
  | int k' lo' hi' sy' =>
    cases a with
    | int k lo hi sy =>
      simp only [leSV, Bool.and_eq_true, Bool.or_eq_true, decide_eq_true_eq] at h
      obtain ⟨rfl, h1, h2, h3⟩ := h
      obtain ⟨n, rfl, h4, h5, h6⟩ := hv
      refine ⟨n, rfl, by omega, by omega, fun s d hs => ?_⟩
      rcases h3 with h3 | h3
      · rw [symEq_eq h3] at hs; cases hs
      · obtain ⟨h3, h9⟩ := h3
        subst hs
        rw [← symEq_eq h3] at h9
        obtain ⟨h7, h8⟩ := h6 s d (symEq_eq h3)
        exact ⟨by rw [c.nx]; rw [symEq_eq h3] at h9; simpa [symLt] using h9, by rw [c.σ]; exact h8⟩
    | _ => simp [leSV] at h
  | str => cases a <;> first | exact hv | simp [leSV] at h
  | ptr b' o' =>
    cases a with
    | ptr b o =>
      simp only [leSV, Bool.and_eq_true, decide_eq_true_eq] at h
      obtain ⟨rfl, rfl, h1⟩ := h
      exact ⟨by rw [c.nb]; exact h1, by rw [c.β]; exact hv.2⟩
    | _ => simp [leSV] at h
  | eptr c' j' =>
    cases a with
    | eptr cc j =>
      simp only [leSV, Bool.and_eq_true, decide_eq_true_eq] at h
      obtain ⟨h1, rfl⟩ := h
      obtain rfl := ctsEq_eq h1
      obtain ⟨g, o, n, rfl, h2⟩ := hv
      exact ⟨g, o, n, rfl, by rw [c.K]; exact h2⟩
    | _ => simp [leSV] at h
  | cur =>
    cases a with
    | cur => obtain ⟨g, rfl, h1⟩ := hv; exact ⟨g, rfl, by rw [c.K]; exact h1⟩
    | _ => simp [leSV] at h
  | nils => cases a <;> first | exact hv | simp [leSV] at h
  | slice c' lo' hi' sy' =>
    cases a with
    | nils =>
      simp only [leSV, Bool.and_eq_true, decide_eq_true_eq] at h
      obtain ⟨rfl, h2⟩ := h
      obtain rfl := natEq_eq h2
      have : v = .slice none 0 0 := hv
      subst this
      exact ⟨none, 0, 0, rfl, Nat.le_refl _, Nat.zero_le _, Nat.le_refl _, fun s hs => (by cases hs), fun _ => rfl, fun ad had => (by cases had)⟩
    | slice cc lo hi sy =>
      simp only [leSV, Bool.and_eq_true, Bool.or_eq_true, decide_eq_true_eq] at h
      obtain ⟨h0, h1, h2, h3⟩ := h
      obtain rfl := ctsEq_eq h0
      obtain ⟨a, l, k, rfl, h4, h5, h6, h7, h8, h9⟩ := hv
      refine ⟨a, l, k, rfl, by omega, by omega, h6, fun s hs => ?_, h8, fun ad had => by rw [c.K]; exact h9 ad had⟩
      rcases h3 with h3 | h3
      · rw [natEq_eq h3] at hs; cases hs
      · obtain ⟨h3, h12⟩ := h3
        subst hs
        obtain ⟨h10, h11⟩ := h7 s (natEq_eq h3)
        exact ⟨by rw [c.nx]; simpa [natLt] using h12, by rw [c.σ]; exact h11⟩
    | _ => simp [leSV] at h
def leL (m q : Nat) : List SV → List SV → Bool
  | [], [] => true
  | a :: as, b :: bs => leSV m q a b && leL m q as bs
  | _, _ => false
theorem leL_ok {E E' : Env} {m q : Nat} (c : Cut E E' m q) : ∀ {a b : List SV}, leL m q a b = true → ∀ {v : List Value}, hasL E a v → hasL E' b v
  | [], [], _, [], _ => trivial
  | [], [], _, _ :: _, h => h.elim
  | [], _ :: _, h, _, _ => by simp [leL] at h
  | _ :: _, [], h, _, _ => by simp [leL] at h
  | _ :: _, _ :: _, _, [], h => h.elim
  | a :: as, b :: bs, h, v :: vs, hv => by
    simp only [leL, Bool.and_eq_true] at h
    exact ⟨leSV_ok c h.1 hv.1, leL_ok c h.2 hv.2⟩
def leV1 (m q : Nat) : V1 → V1 → Bool
  | .cell a, .cell b => leSV m q a b
  | .agg a, .agg b => leL m q a b
  | .agg _, .cell .any => true
  | _, _ => false
theorem leV1_ok {E E' : Env} {m q : Nat} (c : Cut E E' m q) {a b : V1} (h : leV1 m q a b = true) {v : Value} (hv : hasV1 E a v) : hasV1 E' b v := by
  cases a with
  | cell a => cases b with
    | cell b => exact leSV_ok c h (v := v) hv
    | agg b => simp [leV1] at h
  | agg a => cases b with
    | cell b => cases b <;> first | trivial | simp [leV1] at h
    | agg b => obtain ⟨vs, rfl, h1⟩ := hv; exact ⟨vs, rfl, leL_ok c h h1⟩
def leL1 (m q : Nat) : List V1 → List V1 → Bool
  | [], [] => true
  | a :: as, b :: bs => leV1 m q a b && leL1 m q as bs
  | _, _ => false
theorem leL1_ok {E E' : Env} {m q : Nat} (c : Cut E E' m q) : ∀ {a b : List V1}, leL1 m q a b = true → ∀ {v : List Value}, hasL1 E a v → hasL1 E' b v
  | [], [], _, [], _ => trivial
  | [], [], _, _ :: _, h => h.elim
  | [], _ :: _, h, _, _ => by simp [leL1] at h
  | _ :: _, [], h, _, _ => by simp [leL1] at h
  | _ :: _, _ :: _, _, [], h => h.elim
  | a :: as, b :: bs, h, v :: vs, hv => by
    simp only [leL1, Bool.and_eq_true] at h
    exact ⟨leV1_ok c h.1 hv.1, leL1_ok c h.2 hv.2⟩
def leAV (m q : Nat) : AV → AV → Bool
  | _, .any => true
  | .one a, .one b => leV1 m q a b
  | .tup a, .tup b => leL1 m q a b
  | _, _ => false
theorem leAV_ok {E E' : Env} {m q : Nat} (c : Cut E E' m q) {a b : AV} (h : leAV m q a b = true) {v : Value} (hv : hasAV E a v) : hasAV E' b v := by
  cases b with
  | any => trivial
  | one b => cases a with
    | one a => exact leV1_ok c h (v := v) hv
    | _ => simp [leAV] at h
  | tup b => cases a with
    | tup a => obtain ⟨us, rfl, h1⟩ := hv; exact ⟨us, rfl, leL1_ok c h h1⟩
    | _ => simp [leAV] at h
def leT (m q : Nat) (l : List (Nat × AV)) : List (Nat × AV) → Bool
  | [] => true
  | (i, b) :: r => leAV m q (getT l i) b && leT m q l r
theorem leT_get {m q : Nat} {l : List (Nat × AV)} : ∀ {r : List (Nat × AV)}, leT m q l r = true → ∀ i, leAV m q (getT l i) (getT r i) = true
  | [], _, i => by unfold getT; cases getT l i <;> rfl
  | (j, b) :: r, h, i => by
    simp only [leT, Bool.and_eq_true] at h
    rw [show getT ((j, b) :: r) i = if j = i then b else getT r i from rfl]
    split
    · rename_i hj
      subst hj
      exact h.1
    · exact leT_get h.2 i
def leB (m q : Nat) : List (TypeId × List SV) → List (TypeId × List SV) → Bool
  | _, [] => true
  | (t, a) :: as, (u, b) :: bs => decide (t = u) && (leL m q a b && leB m q as bs)
  | [], _ :: _ => false
theorem leB_length {m q : Nat} : ∀ {a b : List (TypeId × List SV)}, leB m q a b = true → b.length ≤ a.length
  | _, [], _ => Nat.zero_le _
  | [], _ :: _, h => by simp [leB] at h
  | a :: as, b :: bs, h => by
    simp only [leB, Bool.and_eq_true] at h
    simpa using leB_length h.2.2
theorem leB_get {m q : Nat} : ∀ {a b : List (TypeId × List SV)}, leB m q a b = true → ∀ {i : Nat} {t : TypeId} {cs : List SV}, b[i]? = some (t, cs) → ∃ cs', a[i]? = some (t, cs') ∧ leL m q cs' cs = true
  | _, [], _, i, _, _, h => by simp at h
  | [], _ :: _, h, _, _, _, _ => by simp [leB] at h
  | (t', a) :: as, (u, b) :: bs, h, 0, t, cs, hi => by
    simp only [leB, Bool.and_eq_true, decide_eq_true_eq] at h
    have : (u, b) = (t, cs) := by simpa using hi
    cases this
    exact ⟨a, by rw [h.1]; rfl, h.2.1⟩
  | (t', a) :: as, (u, b) :: bs, h, i + 1, t, cs, hi => by
    simp only [leB, Bool.and_eq_true, decide_eq_true_eq] at h
    simpa using leB_get h.2.2 (i := i) (by simpa using hi)
def memP (x y : Nat) : List (Nat × Nat) → Bool
  | [] => false
  | (a, b) :: r => (decide (a = x) && decide (b = y)) || memP x y r
theorem memP_mem {x y : Nat} : ∀ {l : List (Nat × Nat)}, memP x y l = true → (x, y) ∈ l
  | [], h => by simp [memP] at h
  | (a, b) :: r, h => by
    simp only [memP, Bool.or_eq_true, Bool.and_eq_true, decide_eq_true_eq] at h
    rcases h with ⟨rfl, rfl⟩ | h
    · exact List.mem_cons_self
    · exact List.mem_cons_of_mem _ (memP_mem h)
def leF (q : Nat) (l : List (Nat × Nat)) : List (Nat × Nat) → Bool
  | [] => true
  | (a, b) :: r => (memP a b l && (decide (a < q) && decide (b < q))) && leF q l r
theorem leF_mem {q : Nat} {l : List (Nat × Nat)} : ∀ {r : List (Nat × Nat)}, leF q l r = true → ∀ x y, (x, y) ∈ r → (x, y) ∈ l ∧ x < q ∧ y < q
  | [], _, _, _, h => by simp at h
  | (a, b) :: r, hh, x, y, h => by
    simp only [leF, Bool.and_eq_true, decide_eq_true_eq] at hh
    rcases List.mem_cons.1 h with h1 | h1
    · cases h1; exact ⟨memP_mem hh.1.1, hh.1.2⟩
    · exact leF_mem hh.2 x y h1
def noneLost : List (TypeId × List SV) → List (TypeId × List SV) → Bool
  | _ :: _, [] => false
  | _, _ => true
def leSt0 (S S' : St) : Bool := decide (S.nt = S'.nt) && (noneLost S.bl S'.bl && (leT S'.bl.length S'.nx S.tmps S'.tmps && (leB S'.bl.length S'.nx S.bl S'.bl && leF S'.nx S.lt S'.lt)))
def leSt (S S' : St) : Bool := leSt0 S S' && decide (S.nx ≤ S'.nx)
/-- What later steps may lean on of earlier names. -/
structure Rel (E E' : Env) : Prop where
  nx : E.nx ≤ E'.nx
  σ : ∀ s, s < E.nx → E'.σ s = E.σ s
theorem Rel.refl (E : Env) : Rel E E := ⟨Nat.le_refl _, fun _ _ => rfl⟩
theorem Rel.trans {A B C : Env} (h : Rel A B) (k : Rel B C) : Rel A C := ⟨Nat.le_trans h.nx k.nx, fun s hs => (k.σ s (Nat.lt_of_lt_of_le hs h.nx)).trans (h.σ s hs)⟩
theorem Ext.rel {E E' : Env} (h : Ext E E') : Rel E E' := ⟨h.nx, h.σ⟩
theorem leSt0_ok {X : Ctx} {E : Env} {S S' : St} {a : Act} {w : World} (hX : X.hd = []) (hl : leSt0 S S' = true) (h : Good X E S a w) : Good X { E with nx := S'.nx, nb := S'.bl.length } S' a w := by
  unfold leSt0 at hl
  simp only [Bool.and_eq_true, decide_eq_true_eq] at hl
  obtain ⟨hnt, h0, h1, h2, h3⟩ := hl
  have hc : Cut E { E with nx := S'.nx, nb := S'.bl.length } S'.bl.length S'.nx := ⟨rfl, rfl, rfl, rfl, rfl⟩
  refine ⟨h.defers, h.len.trans hnt, rfl, fun i => leAV_ok hc (leT_get h1 i) (h.tmps i), h.kinv, h.fr, ⟨rfl, fun b t cs hb => ?_, fun b c hb hd he => ?_, fun g hg => ?_⟩, fun x y hxy => ?_, fun b hb => by rw [hX] at hb; cases hb⟩
  · obtain ⟨cs', h5, h6⟩ := leB_get h2 hb
    obtain ⟨h7, h8, vs, h9, h10⟩ := h.blks.at_ b t cs' h5
    exact ⟨h7, h8, vs, h9, leL_ok hc h6 h10⟩
  · have := leB_length h2
    exact h.blks.inj b c (by omega) (by omega) he
  · obtain ⟨h5, cs, h6⟩ := h.blks.first g hg
    refine ⟨h5, ?_⟩
    cases hb : S'.bl with
    | nil =>
      rw [hb] at h0
      cases ha : S.bl with
      | nil => rw [ha] at h6; cases h6
      | cons _ _ => rw [ha] at h0; cases h0
    | cons x r =>
      obtain ⟨cs', h7, _⟩ := leB_get (i := 0) (t := x.1) (cs := x.2) h2 (by rw [hb]; rfl)
      rw [h6] at h7
      have e : X.pt = x.1 := congrArg Prod.fst (Option.some.inj h7)
      exact ⟨x.2, by rw [e]; rfl⟩
  · obtain ⟨h5, h6, h7⟩ := leF_mem h3 x y hxy
    exact ⟨h6, h7, (h.lts x y h5).2.2⟩
theorem leSt_ok {X : Ctx} {E : Env} {S S' : St} {a : Act} {w : World} (hX : X.hd = []) (hl : leSt S S' = true) (h : Good X E S a w) : ∃ E', Rel E E' ∧ Good X E' S' a w := by
  unfold leSt at hl
  simp only [Bool.and_eq_true, decide_eq_true_eq] at hl
  exact ⟨{ E with nx := S'.nx, nb := S'.bl.length }, ⟨by rw [h.nx]; exact hl.2, fun _ _ => rfl⟩, leSt0_ok hX hl.1 h⟩

/-- A cell that holds both (looked at again by leSV). -/
def joinSV (wide : Bool) : SV → SV → SV
  | .bool t _ _, .bool t' _ _ => .bool (match t, t' with | some a, some b => if a == b then some a else none | _, _ => none) [] []
  | .int k lo hi sy, .int k' lo' hi' sy' => if k = k' then
      (if wide && !(decide (lo ≤ lo') && decide (hi' ≤ hi)) then .int k k.min k.max none
       else .int k (if lo ≤ lo' then lo else lo') (if hi ≤ hi' then hi' else hi) (if symEq sy sy' then sy else none)) else .any
  | .str, .str => .str
  | .ptr b o, .ptr b' o' => if b = b' ∧ o = o' then .ptr b o else .any
  | .eptr c j, .eptr c' j' => if ctsEq c c' && decide (j = j') then .eptr c j else .any
  | .cur, .cur => .cur
  | .nils, .nils => .nils
  | .nils, .slice c _ hi _ => .slice c 0 hi none
  | .slice c _ hi _, .nils => .slice c 0 hi none
  | .slice c lo hi sy, .slice c' lo' hi' sy' => if ctsEq c c' then .slice c (if lo ≤ lo' then lo else lo') (if hi ≤ hi' then hi' else hi) (if natEq sy sy' then sy else none) else .any
  | _, _ => .any
def zipW {α : Type} (f : α → α → α) : List α → List α → List α
  | a :: as, b :: bs => f a b :: zipW f as bs
  | _, _ => []
def joinV1 (w : Bool) : V1 → V1 → V1
  | .cell a, .cell b => .cell (joinSV w a b)
  | .agg a, .agg b => .agg (zipW (joinSV w) a b)
  | _, _ => .cell .any
def joinAV (w : Bool) : AV → AV → AV
  | .one a, .one b => .one (joinV1 w a b)
  | .tup a, .tup b => .tup (zipW (joinV1 w) a b)
  | _, _ => .any
/-- Pointers to blocks that are forgotten are forgotten. -/
def dropSV (m : Nat) : SV → SV
  | .ptr b o => if b < m then .ptr b o else .any
  | s => s
def joinT (w : Bool) (l : List (Nat × AV)) : List (Nat × AV) → List (Nat × AV)
  | [] => []
  | (i, v) :: r => match joinAV w v (getT l i) with
    | .any => joinT w l r
    | u => (i, u) :: joinT w l r
def joinB (w : Bool) : List (TypeId × List SV) → List (TypeId × List SV) → List (TypeId × List SV)
  | (t, a) :: as, (u, b) :: bs => if t = u then (t, zipW (joinSV w) a b) :: joinB w as bs else []
  | _, _ => []
def interF (l : List (Nat × Nat)) : List (Nat × Nat) → List (Nat × Nat)
  | [] => []
  | (a, b) :: r => if memP a b l then (a, b) :: interF l r else interF l r
def joinSt (w : Bool) (S S' : St) : St :=
  let B := joinB w S.bl S'.bl
  { tmps := (joinT w S'.tmps S.tmps).map (fun x => (x.1, mapAV (dropSV B.length) x.2)), nt := S.nt, bl := B, lt := interF S.lt S'.lt, nx := if S.nx ≤ S'.nx then S'.nx else S.nx }
/-- Rows whose lengths are told exactly and part are not joined. -/
def clashSV (m : Nat) : SV → SV → Bool
  | .slice _ lo hi _, .slice _ lo' hi' _ => decide (m ≤ hi) && (decide (lo = hi) && (decide (lo' = hi') && !decide (lo = lo')))
  | .nils, .slice _ lo hi _ => decide (m ≤ lo)
  | .slice _ lo hi _, .nils => decide (m ≤ lo)
  | _, _ => false
def clashL (m : Nat) : List SV → List SV → Bool
  | a :: as, b :: bs => clashSV m a b || clashL m as bs
  | _, _ => false
def clashV1 (m : Nat) : V1 → V1 → Bool
  | .cell a, .cell b => clashSV m a b
  | .agg a, .agg b => clashL m a b
  | _, _ => false
def clashT (m : Nat) (l : List (Nat × AV)) : List (Nat × AV) → Bool
  | [] => false
  | (i, .one a) :: r => (match getT l i with | .one b => clashV1 m a b | _ => false) || clashT m l r
  | _ :: r => clashT m l r
def clashB (m : Nat) : List (TypeId × List SV) → List (TypeId × List SV) → Bool
  | (_, a) :: as, (_, b) :: bs => clashL m a b || clashB m as bs
  | _, _ => false
/-- A state into a list of states: joined with the first that takes it. -/
def addSt (S : St) : List St → List St
  | [] => [S]
  | S' :: r =>
    if clashT 256 S.tmps S'.tmps || clashB 256 S.bl S'.bl then S' :: addSt S r
    else let J := joinSt false S S'
      if leSt S J && leSt S' J then J :: r else S' :: addSt S r
def mergeSt : List St → List St → List St
  | acc, [] => acc
  | acc, S :: r => mergeSt (addSt S acc) r
/-- Some of these states holds. -/
def GoodL (X : Ctx) (E : Env) (L : List St) (a : Act) (w : World) : Prop := ∃ S ∈ L, ∃ E', Rel E E' ∧ Good X E' S a w
theorem GoodL.rel {X : Ctx} {E E' : Env} {L : List St} {a : Act} {w : World} (r : Rel E E') (h : GoodL X E' L a w) : GoodL X E L a w := by
  obtain ⟨S, hS, E2, r2, h2⟩ := h
  exact ⟨S, hS, E2, r.trans r2, h2⟩
theorem GoodL.mono {X : Ctx} {E : Env} {L M : List St} {a : Act} {w : World} (hs : ∀ S ∈ L, S ∈ M) (h : GoodL X E L a w) : GoodL X E M a w := by
  obtain ⟨S, hS, r⟩ := h
  exact ⟨S, hs S hS, r⟩
theorem addSt_ok {X : Ctx} (hX : X.hd = []) {E : Env} {a : Act} {w : World} {S : St} : ∀ {L : List St}, GoodL X E (S :: L) a w → GoodL X E (addSt S L) a w
  | [], h => h
  | S' :: r, h => by
    unfold addSt
    have keep : GoodL X E (S' :: addSt S r) a w := by
      obtain ⟨T, hT, h1⟩ := h
      rcases List.mem_cons.1 hT with rfl | h2
      · obtain ⟨U, hU, h3⟩ := addSt_ok hX (L := r) ⟨T, List.mem_cons_self, h1⟩
        exact ⟨U, List.mem_cons_of_mem _ hU, h3⟩
      · rcases List.mem_cons.1 h2 with rfl | h3
        · exact ⟨T, List.mem_cons_self, h1⟩
        · obtain ⟨U, hU, h4⟩ := addSt_ok hX (L := r) (S := S) ⟨T, List.mem_cons_of_mem _ h3, h1⟩
          exact ⟨U, List.mem_cons_of_mem _ hU, h4⟩
    split
    · exact keep
    · dsimp only
      split
      · rename_i hj
        simp only [Bool.and_eq_true] at hj
        obtain ⟨T, hT, E1, r1, h1⟩ := h
        rcases List.mem_cons.1 hT with rfl | h2
        · obtain ⟨E2, r2, h3⟩ := leSt_ok hX hj.1 h1
          exact ⟨_, List.mem_cons_self, E2, r1.trans r2, h3⟩
        · rcases List.mem_cons.1 h2 with rfl | h3
          · obtain ⟨E2, r2, h4⟩ := leSt_ok hX hj.2 h1
            exact ⟨_, List.mem_cons_self, E2, r1.trans r2, h4⟩
          · exact ⟨T, List.mem_cons_of_mem _ h3, E1, r1, h1⟩
      · exact keep
theorem mergeSt_ok {X : Ctx} (hX : X.hd = []) {E : Env} {a : Act} {w : World} : ∀ {L acc : List St}, GoodL X E (acc ++ L) a w → GoodL X E (mergeSt acc L) a w
  | [], acc, h => by simpa [mergeSt] using h
  | S :: r, acc, h => by
    unfold mergeSt
    refine mergeSt_ok hX (L := r) ?_
    obtain ⟨T, hT, h1⟩ := h
    rcases List.mem_append.1 hT with h2 | h2
    · obtain ⟨U, hU, h3⟩ := addSt_ok hX (L := acc) (S := S) ⟨T, List.mem_cons_of_mem _ h2, h1⟩
      exact ⟨U, List.mem_append_left _ hU, h3⟩
    · rcases List.mem_cons.1 h2 with rfl | h3
      · obtain ⟨U, hU, h4⟩ := addSt_ok hX (L := acc) ⟨T, List.mem_cons_self, h1⟩
        exact ⟨U, List.mem_append_left _ hU, h4⟩
      · exact ⟨T, List.mem_append_right _ h3, h1⟩
end Go.Proofs.Ytnoelppkcbelcaa.Ty
