/-
A region whose order is drawn: each of its operations is shown once, whatever came up ahead of it; what it yields is told by a word that no later step of the region can turn.
-/
import Derived.Test.YtaclekdigolhkaaDoorSt
import Derived.Laws.Rows
namespace Go.Proofs.YtaclekdigolhkaaDoor.AO
open Go.RowKit Go.Proofs.YtaclekdigolhkaaDoorW.PrintWords Go.Proofs.YtaclekdigolhkaaDoorW.PrintLast Go.Proofs.YtaclekdigolhkaaDoorW.PrintMore
set_option linter.unusedVariables false
set_option linter.unusedSimpArgs false
section
variable {P : Program} {ops : Array Oper} {Q : Exit → Act → World → Prop}
def fold1 (B : List Nat) (es : List Edge) (s : Nat) : Nat := es.foldl (fun s e => if Region.binds .any e then s ||| 2 ^ e.on ||| B.getD e.on 0 else s) s
def okB (ops : Array Oper) (m top z : Nat) (B : List Nat) : Bool :=
  (List.range ops.size).all fun i => match ops[i]? with
    | none => true
    | some o => (o.after.toList.all fun e => !Region.binds .any e || decide (e.on < i))
        && (decide (m ≤ i) || (match o.dst with | none => true | some t => decide (t < top) && (List.range i).all fun j => match ops[j]? with | some p => p.dst != some t | none => true))
        && (B.getD i 0 == fold1 B o.after.toList 0)
        && (decide (i < m) || (List.range m).all fun j => j == z || (B.getD i 0).testBit j)
def mkB (ops : Array Oper) : List Nat := ops.toList.foldl (fun B o => B ++ [fold1 B o.after.toList 0]) []
def need (ops : Array Oper) (i j : Nat) : Bool := match ops[i]? with | some o => o.after.toList.any fun e => Region.binds .any e && e.on == j | none => false
def notDst (ops : Array Oper) (m t : Nat) : Bool := (List.range m).all fun j => match ops[j]? with | some p => p.dst != some t | none => true
theorem fold1_bit (B : List Nat) (j : Nat) : ∀ (es : List Edge) (s : Nat), (fold1 B es s).testBit j = true → s.testBit j = true ∨ ∃ e ∈ es, Region.binds .any e = true ∧ (e.on = j ∨ (B.getD e.on 0).testBit j = true)
  | [], s, h => .inl h
  | e :: es, s, h => by
    unfold fold1 at h
    rw [List.foldl_cons] at h
    rcases fold1_bit B j es _ h with h1 | ⟨e', he, h2⟩
    · by_cases hb : Region.binds .any e = true
      · rw [if_pos hb, Nat.testBit_or, Nat.testBit_or] at h1
        simp only [Bool.or_eq_true] at h1
        rcases h1 with (h1 | h1) | h1
        · exact .inl h1
        · rw [Nat.testBit_two_pow] at h1
          exact .inr ⟨e, List.mem_cons_self, hb, .inl (by simpa using h1)⟩
        · exact .inr ⟨e, List.mem_cons_self, hb, .inr h1⟩
      · rw [if_neg hb] at h1
        exact .inl h1
    · exact .inr ⟨e', List.mem_cons_of_mem _ he, h2⟩
structure Ok (ops : Array Oper) (m top z : Nat) (B : List Nat) : Prop where
  back : ∀ i o e, ops[i]? = some o → e ∈ o.after → Region.binds .any e = true → e.on < i
  top : ∀ i o t, i < m → ops[i]? = some o → o.dst = some t → t < top
  ne : ∀ i j o p t, i < m → j < i → ops[i]? = some o → ops[j]? = some p → o.dst = some t → p.dst ≠ some t
  bits : ∀ i o, ops[i]? = some o → B.getD i 0 = fold1 B o.after.toList 0
  late : ∀ i o, m ≤ i → ops[i]? = some o → ∀ j, j < m → j ≠ z → (B.getD i 0).testBit j = true
theorem ok_of {m top z : Nat} {B : List Nat} (h : okB ops m top z B = true) : Ok ops m top z B := by
  have key : ∀ i o, ops[i]? = some o → _ := fun i o ho => by
    have hlt : i < ops.size := (Array.getElem?_eq_some_iff.1 ho).1
    have h1 := List.all_eq_true.1 h i (List.mem_range.2 hlt)
    rw [ho] at h1
    simp only [Bool.and_eq_true] at h1
    exact h1
  refine ⟨?_, ?_, ?_, ?_, ?_⟩
  · intro i o e ho he hb
    have := List.all_eq_true.1 (key i o ho).1.1.1 e (by simpa using he)
    simpa [hb] using this
  · intro i o t hi ho hd
    have := (key i o ho).1.1.2
    rw [hd] at this
    simp only [Bool.or_eq_true, Bool.and_eq_true, decide_eq_true_eq] at this
    exact (this.resolve_left (by omega)).1
  · intro i j o p t hi hj ho hp hd
    have := (key i o ho).1.1.2
    rw [hd] at this
    simp only [Bool.or_eq_true, Bool.and_eq_true, decide_eq_true_eq] at this
    have h2 := List.all_eq_true.1 (this.resolve_left (by omega)).2 j (List.mem_range.2 hj)
    rw [hp] at h2
    simpa using h2
  · intro i o ho
    simpa using (key i o ho).1.2
  · intro i o hm ho j hj hz
    have := (key i o ho).2
    simp only [Bool.or_eq_true, decide_eq_true_eq] at this
    have h2 := List.all_eq_true.1 (this.resolve_left (by omega)) j (List.mem_range.2 hj)
    simpa [hz] using h2
def val (a : Act) : Option Tmp → Value
  | some t => a.tmps.getD t undef
  | none => undef
structure Cx (ops : Array Oper) (m : Nat) (R : World → World → Prop) (φ : Nat → Value → World → Prop) (a0 : Act) (w0 : World) (l : Array Bool) (a : Act) (w : World) : Prop where
  base : R w0 w
  defers : a.defers = a0.defers
  size : a.tmps.size = a0.tmps.size
  old : ∀ t, (∀ j o, j < m → ops[j]? = some o → l.getD j false = true → o.dst ≠ some t) → a.tmps[t]? = a0.tmps[t]?
  dep : ∀ j o, j < m → ops[j]? = some o → l.getD j false = true → φ j (val a o.dst) w
def cnt (l : Array Bool) (m : Nat) : Nat := ((List.range m).filter fun j => !l.getD j false).length
theorem cnt_all {l : Array Bool} {m : Nat} (h : cnt l m = 0) : ∀ j, j < m → l.getD j false = true := by
  intro j hj
  unfold cnt at h
  have h1 := List.eq_nil_of_length_eq_zero h
  have h2 := List.filter_eq_nil_iff.1 h1 j (List.mem_range.2 hj)
  simpa using h2
theorem cnt_pos {l : Array Bool} {m : Nat} (h : cnt l m ≠ 0) : ∃ j, j < m ∧ l.getD j false = false := by
  unfold cnt at h
  cases hf : (List.range m).filter fun j => !l.getD j false with
  | nil => rw [hf] at h; exact absurd rfl h
  | cons x xs =>
    have hx : x ∈ (List.range m).filter fun j => !l.getD j false := by rw [hf]; exact List.mem_cons_self
    obtain ⟨h1, h2⟩ := List.mem_filter.1 hx
    exact ⟨x, List.mem_range.1 h1, by simpa using h2⟩
theorem cnt_false (n m : Nat) : cnt (Array.replicate n false) m = m := by
  unfold cnt
  rw [List.filter_eq_self.2]
  · simp
  · intro j _
    by_cases h : j < n <;> simp [h]
theorem getD_set_self {l : Array Bool} {i : Nat} (h : i < l.size) : (l.setIfInBounds i true).getD i false = true := by simp [h]
theorem cnt_set {l : Array Bool} {i : Nat} (hi : i < l.size) (hf : l.getD i false = false) : ∀ m, cnt l m = cnt (l.setIfInBounds i true) m + (if i < m then 1 else 0)
  | 0 => by simp [cnt]
  | m + 1 => by
    have ih := cnt_set hi hf m
    unfold cnt at ih ⊢
    rw [List.range_succ, List.filter_append, List.filter_append, List.length_append, List.length_append, ih]
    by_cases hm : i = m
    · subst hm
      have h1 := getD_set_self hi
      simp only [List.filter_cons, List.filter_nil, hf, h1]
      simp
    · have h1 := getD_set_ne (listed := l) (i := i) (j := m) false hm
      simp only [List.filter_cons, List.filter_nil, h1]
      have h2 : (i < m + 1) = (i < m) := by rw [eq_iff_iff]; omega
      simp only [h2]
      omega
theorem cnt_loose {l : Array Bool} {z : Nat} : ∀ {m : Nat}, (∀ j, j < m → j ≠ z → l.getD j false = true) → cnt l m = if z < m ∧ l.getD z false = false then 1 else 0
  | 0, _ => by simp [cnt]
  | m + 1, h => by
    have ih := cnt_loose (l := l) (z := z) (m := m) (fun j hj hz => h j (by omega) hz)
    unfold cnt at ih ⊢
    rw [List.range_succ, List.filter_append, List.length_append, ih]
    by_cases hm : m = z
    · subst hm
      cases hl : l.getD m false <;> simp only [List.filter_cons, List.filter_nil, hl] <;> simp
    · have h1 := h m (by omega) hm
      have h2 : (z < m + 1) = (z < m) := by rw [eq_iff_iff]; omega
      simp only [List.filter_cons, List.filter_nil, h1, h2]
      simp
theorem all_listed {l : Array Bool} {m top z : Nat} {B : List Nat} (hok : Ok ops m top z B) (hc : ListedClosed .any ops l) :
    ∀ i o, ops[i]? = some o → (∀ e ∈ o.after, Region.binds .any e = true → l.getD e.on false = true) → ∀ j, (B.getD i 0).testBit j = true → l.getD j false = true := by
  intro i
  induction i using Nat.strongRecOn with
  | _ i ih =>
    intro o ho hl j hj
    rw [hok.bits i o ho] at hj
    rcases fold1_bit B j _ _ hj with h1 | ⟨e, he, hb, h2⟩
    · simp at h1
    · have he' : e ∈ o.after := by simpa using he
      have hle := hl e he' hb
      rcases h2 with rfl | h2
      · exact hle
      · have hlt := hok.back i o e ho he' hb
        cases hp : ops[e.on]? with
        | none =>
          exfalso
          have h3 : i < ops.size := (Array.getElem?_eq_some_iff.1 ho).1
          rw [Array.getElem?_eq_none_iff] at hp
          omega
        | some p => exact ih e.on hlt p hp (fun e' he2 hb2 => hc e.on p hp hle e' he2 hb2) j h2
theorem some_ready {l : Array Bool} {m top z : Nat} {B : List Nat} (hok : Ok ops m top z B) (hs : l.size = ops.size) : ∀ i, i < ops.size → l.getD i false = false → ∃ j, j ∈ Region.ready .any ops l := by
  intro i
  induction i using Nat.strongRecOn with
  | _ i ih =>
    intro hi hf
    have ho : ops[i]? = some ops[i] := Array.getElem?_eq_getElem hi
    by_cases hall : ∀ e ∈ ops[i].after, Region.binds .any e = true → l.getD e.on false = true
    · refine ⟨i, mem_ready.2 ⟨?_, _, ho, hall⟩⟩
      have h1 : i < l.size := by omega
      simpa [h1] using hf
    · simp only [Classical.not_forall] at hall
      obtain ⟨e, he, hb, hn⟩ := hall
      have hlt := hok.back i _ e ho he hb
      exact ih e.on hlt (by omega) (by simpa using hn)
def putVs (ops : Array Oper) (vs : Nat → Value) (sk : Nat → Bool) (a0 : Act) (k : Nat) : Act := (List.range k).foldl (fun a j => if sk j then a else a.put ((ops[j]?).bind (·.dst)) (vs j)) a0
theorem putVs_same {m top z : Nat} {B : List Nat} (hok : Ok ops m top z B) {l : Array Bool} {sk : Nat → Bool} {a a0 : Act} (hsk : ∀ j, j < m → sk j = !l.getD j false) (hd : a.defers = a0.defers) (hs : a.tmps.size = a0.tmps.size) (ht : top ≤ a0.tmps.size)
    (hold : ∀ t, (∀ j o, j < m → ops[j]? = some o → l.getD j false = true → o.dst ≠ some t) → a.tmps[t]? = a0.tmps[t]?) :
    putVs ops (fun j => val a ((ops[j]?).bind (·.dst))) sk a0 m = a := by
  have key : ∀ k, k ≤ m → (putVs ops (fun j => val a ((ops[j]?).bind (·.dst))) sk a0 k).defers = a0.defers ∧ (putVs ops (fun j => val a ((ops[j]?).bind (·.dst))) sk a0 k).tmps.size = a0.tmps.size ∧
      ∀ t, (putVs ops (fun j => val a ((ops[j]?).bind (·.dst))) sk a0 k).tmps[t]? = a.tmps[t]? ∨ ((putVs ops (fun j => val a ((ops[j]?).bind (·.dst))) sk a0 k).tmps[t]? = a0.tmps[t]? ∧ ∀ j p, j < k → ops[j]? = some p → sk j = false → p.dst ≠ some t) := by
    intro k
    induction k with
    | zero => intro _; exact ⟨rfl, rfl, fun t => .inr ⟨rfl, fun j p hj => absurd hj (by omega)⟩⟩
    | succ k ih =>
      intro hk
      obtain ⟨h1, h2, h3⟩ := ih (by omega)
      have e : putVs ops (fun j => val a ((ops[j]?).bind (·.dst))) sk a0 (k + 1) = if sk k then putVs ops (fun j => val a ((ops[j]?).bind (·.dst))) sk a0 k else (putVs ops (fun j => val a ((ops[j]?).bind (·.dst))) sk a0 k).put ((ops[k]?).bind (·.dst)) (val a ((ops[k]?).bind (·.dst))) := by
        unfold putVs
        rw [List.range_succ, List.foldl_append]
        rfl
      rw [e]
      generalize putVs ops (fun j => val a ((ops[j]?).bind (·.dst))) sk a0 k = b at h1 h2 h3
      have step : ∀ t, (∀ p, ops[k]? = some p → sk k = false → p.dst ≠ some t) → b.tmps[t]? = a.tmps[t]? ∨ (b.tmps[t]? = a0.tmps[t]? ∧ ∀ j p, j < k + 1 → ops[j]? = some p → sk j = false → p.dst ≠ some t) := fun t hn => by
        rcases h3 t with h4 | ⟨h4, h5⟩
        · exact .inl h4
        · refine .inr ⟨h4, fun j p hj hp hs2 => ?_⟩
          by_cases hjk : j = k
          · subst hjk; exact hn p hp hs2
          · exact h5 j p (by omega) hp hs2
      cases hsk2 : sk k with
      | true =>
        simp only [if_true]
        exact ⟨h1, h2, fun t => step t (fun p _ hf => by rw [hsk2] at hf; cases hf)⟩
      | false =>
        simp only [Bool.false_eq_true, if_false]
        cases hop : ops[k]? with
        | none => exact ⟨h1, h2, fun t => step t (fun p hp => by rw [hop] at hp; cases hp)⟩
        | some o =>
          cases hdst : o.dst with
          | none =>
            simp only [Option.bind_some, hdst]
            exact ⟨h1, h2, fun t => step t (fun p hp _ => by rw [hop] at hp; cases hp; rw [hdst]; simp)⟩
          | some d =>
            simp only [Option.bind_some, hdst]
            have hdt : d < top := hok.top k o d (by omega) hop hdst
            have hda : d < a.tmps.size := Nat.lt_of_lt_of_le hdt (Nat.le_trans ht (Nat.le_of_eq hs.symm))
            refine ⟨h1, by simpa [Act.put] using h2, fun t => ?_⟩
            by_cases hdt2 : d = t
            · subst hdt2
              left
              have hdb : d < b.tmps.size := Nat.lt_of_lt_of_le hdt (Nat.le_trans ht (Nat.le_of_eq h2.symm))
              simp [Act.put, val, hdb, hda]
            · have e2 : (b.put (some d) (val a (some d))).tmps[t]? = b.tmps[t]? := by simp [Act.put, Array.getElem?_setIfInBounds_ne hdt2]
              rw [e2]
              exact step t (fun p hp _ => by rw [hop] at hp; cases hp; rw [hdst]; intro hc; exact hdt2 (Option.some.inj hc))
  obtain ⟨h1, h2, h3⟩ := key m (Nat.le_refl _)
  generalize putVs ops (fun j => val a ((ops[j]?).bind (·.dst))) sk a0 m = b at h1 h2 h3
  have ht : b.tmps = a.tmps := by
    apply Array.ext_getElem?
    intro t
    rcases h3 t with h4 | ⟨h4, h5⟩
    · exact h4
    · rw [h4]
      refine (hold t (fun j p hj hp hl => h5 j p hj hp ?_)).symm
      rw [hsk j hj, hl]
      rfl
  cases a; cases b
  simp only at h1 ht hd
  subst h1 ht hd
  rfl
def listB (n m z : Nat) (b : Bool) : Array Bool := ((List.range n).map fun j => decide (j < m) && (j != z || b)).toArray
/-- What is to be shown of an operation: whatever came up ahead of it. -/
def Step (P : Program) (ops : Array Oper) (Q : Exit → Act → World → Prop) (m : Nat) (R : World → World → Prop) (φ : Nat → Value → World → Prop) (a0 : Act) (w0 : World) (i : Nat) : Prop :=
  ∀ o, ops[i]? = some o → ∀ l a w, Cx ops m R φ a0 w0 l a w → (∀ j, need ops i j = true → l.getD j false = true) → ∀ K : Act → World → Prop, (∀ v w', R w w' → φ i v w' → (o.dst = none → v = undef) → K (a.put o.dst v) w') →
    if Region.wanted o (yielded ops a.tmps) = true then Oper.wp P o a w K Q else K (a.put o.dst undef) w
theorem Cx.next {m top z : Nat} {B : List Nat} {R : World → World → Prop} {φ : Nat → Value → World → Prop} {a0 : Act} {w0 : World} (hO : Ok ops m top z B) (ht : top ≤ a0.tmps.size) (hR : ∀ a b c, R a b → R b c → R a c) (hst : ∀ i v w w', R w w' → φ i v w → φ i v w')
    {l : Array Bool} {a : Act} {w w' : World} (hs : l.size = ops.size) (hx : Cx ops m R φ a0 w0 l a w) {i : Nat} {o : Oper} {v : Value} (him : i < m) (ho : ops[i]? = some o) (hr : R w w') (hph : φ i v w') (hdn : o.dst = none → v = undef) :
    Cx ops m R φ a0 w0 (l.setIfInBounds i true) (a.put o.dst v) w' := by
  have his : i < ops.size := (Array.getElem?_eq_some_iff.1 ho).1
  refine ⟨hR _ _ _ hx.base hr, ?_, ?_, ?_, ?_⟩
  · cases hd : o.dst <;> simp [Act.put, hx.defers]
  · cases hd : o.dst <;> simp [Act.put, hx.size]
  · intro t hnt
    have h2 : o.dst ≠ some t := hnt i o him ho (getD_set_self (by omega))
    rw [← hx.old t (fun j p hj hp hlj => hnt j p hj hp (getD_set_true hlj))]
    cases hd : o.dst with
    | none => rfl
    | some d =>
      have h3 : d ≠ t := fun he => h2 (by rw [hd, he])
      simp [Act.put, Array.getElem?_setIfInBounds_ne h3]
  · intro j p hj hp hlj
    by_cases hij : i = j
    · subst hij
      rw [ho] at hp
      obtain rfl := Option.some.inj hp
      cases hd : o.dst with
      | none => rw [hdn hd] at hph; exact hph
      | some d =>
        have h1 := hO.top i o d him ho hd
        have h2 : d < a.tmps.size := Nat.lt_of_lt_of_le h1 (Nat.le_trans ht (Nat.le_of_eq hx.size.symm))
        simpa [val, Act.put, h2] using hph
    · rw [getD_set_ne false hij] at hlj
      have h1 := hst j _ _ _ hr (hx.dep j p hj hp hlj)
      have h2 : val (a.put o.dst v) p.dst = val a p.dst := by
        cases hpd : p.dst with
        | none => rfl
        | some t =>
          cases hd : o.dst with
          | none => rfl
          | some d =>
            have hne : d ≠ t := by
              intro he
              subst he
              rcases Nat.lt_or_ge i j with h | h
              · exact hO.ne j i p o d hj h hp ho hpd hd
              · exact hO.ne i j o p d him (by omega) ho hp hd hpd
            simp [val, Act.put, Array.getElem?_setIfInBounds_ne hne]
      rw [h2]
      exact h1
/-- The operation z is pure: it may be taken as soon as it can come up. -/
def Loose (P : Program) (ops : Array Oper) (Q : Exit → Act → World → Prop) (m : Nat) (R : World → World → Prop) (φ : Nat → Value → World → Prop) (a0 : Act) (w0 : World) (z : Nat) : Prop :=
  ∃ oz, ops[z]? = some oz ∧ anyB .any ops (listB ops.size m z false) (listB ops.size m z true) z = true ∧ oz.dst.isSome = true ∧ (∀ v c a w, Q (.panic c) (a.put oz.dst v) w → Q (.panic c) a w) ∧
    ∀ l a w, Cx ops m R φ a0 w0 l a w → (∀ j, need ops z j = true → l.getD j false = true) → ∃ v, Yields P ops oz v a ∧ φ z v w
theorem phase {id m top : Nat} (z : Nat) {B : List Nat} {R : World → World → Prop} {φ : Nat → Value → World → Prop} {a0 : Act} {w0 : World} (hm : P.follows .mixedOrders = true) (hok : okB ops m top z B = true) (hmn : m ≤ ops.size) (ht : top ≤ a0.tmps.size)
    (hrefl : ∀ a, R a a) (hR : ∀ a b c, R a b → R b c → R a c) (hst : ∀ i v w w', R w w' → φ i v w → φ i v w')
    (hz : z < m → Loose P ops Q m R φ a0 w0.drew z)
    (step : ∀ i, i < m → Step P ops Q m R φ a0 w0.drew i)
    (fin : ∀ vs w', R w0.drew w' → (∀ j o, j < m → ops[j]? = some o → φ j (vs j) w') → wpAnyLast P .any ops Q (fun _ => True) [] (ops.size - m) (listB ops.size m z true) (putVs ops vs (fun _ => false) a0 m) w') :
    (Code.region id ops true).wp P Q a0 w0 := by
  have hO := ok_of hok
  refine wp_region_any hm ?_
  have arr : ∀ (l : Array Bool) (b : Bool), l.size = ops.size → (∀ i, m ≤ i → l.getD i false = false) → (∀ j, j < m → l.getD j false = (j != z || b)) → l = listB ops.size m z b := by
    intro l b hs hl hall
    unfold listB
    apply Array.ext
    · simp [hs]
    · intro j h1 h2
      have h3 : l[j] = l.getD j false := by simp [h1]
      rw [h3]
      simp only [List.getElem_toArray, List.getElem_map, List.getElem_range]
      by_cases hj : j < m
      · rw [hall j hj]; simp [hj]
      · rw [hl j (by omega)]; simp [hj]
  have all : ∀ l a w, l.size = ops.size → (∀ i, m ≤ i → l.getD i false = false) → Cx ops m R φ a0 w0.drew l a w → (∀ j, j < m → l.getD j false = true) → wpAnyLast P .any ops Q (fun _ => True) [] (ops.size - m) l a w := by
    intro l a w hs hl hx hall
    have hv := putVs_same hO (l := l) (sk := fun _ => false) (fun j hj => by rw [hall j hj]; rfl) hx.defers hx.size ht hx.old
    have := fin (fun j => val a ((ops[j]?).bind (·.dst))) w hx.base (fun j o hj ho => by
      have := hx.dep j o hj ho (hall j hj)
      simp only [ho, Option.bind_some]
      exact this)
    rw [hv] at this
    rw [arr l true hs hl (fun j hj => by rw [hall j hj]; simp)]
    exact this
  have key : ∀ c l a w, l.size = ops.size → cnt l m = c → (∀ i, m ≤ i → l.getD i false = false) → ListedClosed .any ops l → Cx ops m R φ a0 w0.drew l a w → wpAny P .any ops Q (c + (ops.size - m)) l a w := by
    intro c
    induction c with
    | zero =>
      intro l a w hs hc hl hcl hx
      rw [Nat.zero_add]
      exact wpAny_of_last _ _ _ _ (all l a w hs hl hx (fun j hj => cnt_all hc j hj))
    | succ c ih =>
      intro l a w hs hc hl hcl hx
      by_cases hdn : ∀ j, j < m → j ≠ z → l.getD j false = true
      · have h1 := cnt_loose hdn
        rw [hc] at h1
        by_cases hzm : z < m ∧ l.getD z false = false
        · rw [if_pos hzm] at h1
          obtain rfl : c = 0 := by omega
          obtain ⟨oz, hoz, hany, hds, hQ, hy⟩ := hz hzm.1
          obtain ⟨v, hyv, hphi⟩ := hy l a w hx (fun j hj => by
            unfold need at hj
            rw [hoz] at hj
            simp only [List.any_eq_true, Bool.and_eq_true, beq_iff_eq] at hj
            obtain ⟨e, he, hb, rfl⟩ := hj
            have := hO.back z oz e hoz (by simpa using he) hb
            exact hdn e.on (by omega) (by omega))
          have hlf : l = listB ops.size m z false := arr l false hs hl (fun j hj => by
            by_cases hjz : j = z
            · subst hjz; rw [hzm.2]; simp
            · rw [hdn j hj hjz]; simp [hjz])
          have hset : (listB ops.size m z true) = l.setIfInBounds z true := by
            refine (arr _ true (by simpa using hs) (fun i hi => ?_) (fun j hj => ?_)).symm
            · rw [getD_set_ne false (by omega)]; exact hl i hi
            · by_cases hjz : z = j
              · subst hjz; rw [getD_set_self (by omega)]; simp
              · rw [getD_set_ne false hjz, hdn j hj (Ne.symm hjz)]; simp
          have h2 := Cx.next hO ht hR hst hs hx hzm.1 hoz (hrefl w) hphi (fun h => by rw [h] at hds; cases hds)
          have h3 := all (l.setIfInBounds z true) _ w (by simpa using hs) (fun i hi => by rw [getD_set_ne false (by omega)]; exact hl i hi) h2 (fun j hj => by
            by_cases hjz : z = j
            · subst hjz; exact getD_set_self (by omega)
            · rw [getD_set_ne false hjz]; exact hdn j hj (Ne.symm hjz))
          rw [← hset] at h3
          rw [hlf]
          have h4 := pure_ (P := P) (Q := Q) (S := fun _ => True) (ds := []) (listB ops.size m z true) hoz rfl hany (hQ v) hyv rfl h3
          rw [Nat.add_comm]
          exact wpAny_of_last _ _ _ _ h4
        · rw [if_neg hzm] at h1
          omega
      have hex : ∃ j, j < m ∧ j ≠ z ∧ l.getD j false = false := by
        simp only [Classical.not_forall] at hdn
        obtain ⟨j, hj, hz, hf⟩ := hdn
        exact ⟨j, hj, hz, by simpa using hf⟩
      rw [Nat.add_right_comm]
      refine ⟨fun hr => ?_, fun i hi => ?_⟩
      · exfalso
        obtain ⟨j, hj, _, hf⟩ := hex
        obtain ⟨k, hk⟩ := some_ready hO hs j (by omega) hf
        rw [hr] at hk
        cases hk
      · obtain ⟨hun, o, ho, hall⟩ := mem_ready.1 hi
        have his : i < ops.size := (Array.getElem?_eq_some_iff.1 ho).1
        have hunf : l.getD i false = false := by
          have h1 : i < l.size := by omega
          simpa [h1] using hun
        have him : i < m := by
          rcases Nat.lt_or_ge i m with h | h
          · exact h
          · exfalso
            obtain ⟨j, hj, hjz, hf⟩ := hex
            have := all_listed hO hcl i o ho hall j (hO.late i o h ho j hj hjz)
            rw [hf] at this
            cases this
        refine wpOp_step ho (fun K hK => ?_)
        refine step i him o ho l a w hx ?_ K (fun v w' hr hph hdn => hK _ _ (ih (l.setIfInBounds i true) _ _ ?_ ?_ ?_ (hcl.set hi) (Cx.next hO ht hR hst hs hx him ho hr hph hdn)))
        · intro j hj
          unfold need at hj
          rw [ho] at hj
          simp only [List.any_eq_true, Bool.and_eq_true, beq_iff_eq] at hj
          obtain ⟨e, he, hb, rfl⟩ := hj
          exact hall e (by simpa using he) hb
        · simpa using hs
        · have := cnt_set (by omega) hunf m
          rw [if_pos him] at this
          omega
        · intro j hj
          rw [getD_set_ne false (by omega)]
          exact hl j hj
  have h1 := key m (Array.replicate ops.size false) a0 w0.drew (by simp) (cnt_false _ _) (fun i _ => by by_cases h : i < ops.size <;> simp [h]) (fun j oj _ hl => by by_cases h : j < ops.size <;> simp [h] at hl) ⟨hrefl _, rfl, rfl, fun _ _ => rfl, fun j o _ _ hl => by by_cases h : j < ops.size <;> simp [h] at hl⟩
  have h2 : m + (ops.size - m) = ops.size := by omega
  rw [h2] at h1
  exact h1
end
section
variable {P : Program} {ops : Array Oper} {Q : Exit → Act → World → Prop} {m : Nat} {R : World → World → Prop} {φ : Nat → Value → World → Prop} {a0 : Act} {w0 : World} {i : Nat} {o : Oper}
def useB (ops : Array Oper) (i j t : Nat) : Bool := need ops i j && match ops[j]? with | some p => p.dst == some t | none => false
theorem Cx.use {l : Array Bool} {a : Act} {w : World} (X : Cx ops m R φ a0 w0 l a w) (hn : ∀ j, need ops i j = true → l.getD j false = true) (j t : Nat) (hj : j < m) (h : useB ops i j t = true) : φ j (a.eval (.tmp t)) w := by
  unfold useB at h
  simp only [Bool.and_eq_true] at h
  obtain ⟨h1, h2⟩ := h
  cases hp : ops[j]? with
  | none => rw [hp] at h2; cases h2
  | some p =>
    rw [hp] at h2
    have h3 : p.dst = some t := by simpa using h2
    have := X.dep j p hj hp (hn j h1)
    rw [h3] at this
    exact this
theorem Cx.ev {l : Array Bool} {a : Act} {w : World} (X : Cx ops m R φ a0 w0 l a w) (t : Nat) (h : notDst ops m t = true) : a.eval (.tmp t) = a0.eval (.tmp t) := by
  have := X.old t (fun j o hj ho _ => by
    have h1 := List.all_eq_true.1 h j (List.mem_range.2 hj)
    rw [ho] at h1
    simpa using h1)
  simp [Act.eval, this]
theorem st_run (ho : ops[i]? = some o) (hg : o.guard = none) (hd : o.dst.isSome = true)
    (h : ∀ l a w, Cx ops m R φ a0 w0 l a w → (∀ j, need ops i j = true → l.getD j false = true) → ∃ v w', (execOp a.eval o).run P w = .ok (.value v) w' ∧ R w w' ∧ φ i v w') : Step P ops Q m R φ a0 w0 i := by
  intro o' ho' l a w X hn K hK
  rw [ho] at ho'
  obtain rfl := Option.some.inj ho'
  have hw : Region.wanted o (yielded ops a.tmps) = true := by simp [Region.wanted, hg]
  rw [if_pos hw]
  obtain ⟨v, w', hr, h1, h2⟩ := h l a w X hn
  unfold Oper.wp
  rw [hr]
  exact hK v w' h1 h2 (fun hd' => by rw [hd'] at hd; cases hd)
theorem tail_ {n : Nat} {l : Array Bool} {vs : Nat → Value} {sk : Nat → Bool} {w : World} (ns : List (Tmp × Value)) (hns : putVs ops vs sk a0 m = putAll a0 ns) (h : wpAnyLast P .any ops Q (fun _ => True) [] n l (putAll a0 ns) w) : wpAnyLast P .any ops Q (fun _ => True) [] n l (putVs ops vs sk a0 m) w := by
  rw [hns]
  exact h
theorem st_move {x : Operand} (hR : ∀ w, R w w) (ho : ops[i]? = some o) (hop : o.op = .move x) (hg : o.guard = none) (hd : o.dst.isSome = true)
    (h : ∀ l a w, Cx ops m R φ a0 w0 l a w → (∀ j, need ops i j = true → l.getD j false = true) → φ i (a.eval x) w) : Step P ops Q m R φ a0 w0 i :=
  st_run ho hg hd (fun l a w X hn => ⟨_, w, by unfold execOp; rw [hop]; rfl, hR w, h l a w X hn⟩)
theorem st_extract {x : Operand} {k : Nat} (hR : ∀ w, R w w) (ho : ops[i]? = some o) (hop : o.op = .extract x k) (hg : o.guard = none) (hd : o.dst.isSome = true)
    (h : ∀ l a w, Cx ops m R φ a0 w0 l a w → (∀ j, need ops i j = true → l.getD j false = true) → ∃ vs v, a.eval x = .tuple vs ∧ vs[k]? = some v ∧ φ i v w) : Step P ops Q m R φ a0 w0 i :=
  st_run ho hg hd (fun l a w X hn => by
    obtain ⟨vs, v, h1, h2, h3⟩ := h l a w X hn
    refine ⟨v, w, ?_, hR w, h3⟩
    unfold execOp
    rw [hop]
    simp [h1, Instr.extract, h2])
theorem loose_extract {x : Operand} {k : Nat} (ho : ops[i]? = some o) (hop : o.op = .extract x k) (hg : o.guard = none) (hd : o.dst.isSome = true) (hany : anyB .any ops (listB ops.size m i false) (listB ops.size m i true) i = true) (hQ : ∀ v c a w, Q (.panic c) (a.put o.dst v) w → Q (.panic c) a w)
    (h : ∀ l a w, Cx ops m R φ a0 w0 l a w → (∀ j, need ops i j = true → l.getD j false = true) → ∃ vs v, a.eval x = .tuple vs ∧ vs[k]? = some v ∧ φ i v w) : Loose P ops Q m R φ a0 w0 i :=
  ⟨o, ho, hany, hd, hQ, fun l a w X hn => by
    obtain ⟨vs, v, h1, h2, h3⟩ := h l a w X hn
    refine ⟨v, Or.inl ⟨by simp [Region.wanted, hg], fun w' => ?_⟩, h3⟩
    unfold execOp
    rw [hop]
    simp [h1, Instr.extract, h2]⟩
theorem st_row {ty : TypeId} {x : Operand} (hR : ∀ w, R w w) (ho : ops[i]? = some o) (hop : o.op = .load ty x) (hg : o.guard = none) (hd : o.dst.isSome = true) {d : TypeDesc} (hu : P.underlying ty = some d) (hdd : (match d with | .struct _ | .array _ _ => true | _ => false) = true)
    (h : ∀ l a w, Cx ops m R φ a0 w0 l a w → (∀ j, need ops i j = true → l.getD j false = true) → ∃ g t cs fr, a.eval x = .pointer (some ⟨g, 0, none⟩) ∧ w.heap[g]? = some (.cells cs t fr) ∧ (P.info? ty).map (·.size) = some cs.size ∧ φ i (.agg cs) w) : Step P ops Q m R φ a0 w0 i :=
  st_run ho hg hd (fun l a w X hn => by
    obtain ⟨g, t, cs, fr, h1, h2, h3, h4⟩ := h l a w X hn
    refine ⟨_, w, ?_, hR w, h4⟩
    unfold execOp
    simp only [hop, h1, Instr.loadAt, Instr.sureAddr, Sem.run_bind, Sem.run_pure, Result.andThen_ok, run_loadVar_row w g t ty cs fr d h2 hu hdd h3])
theorem st_index {T : TypeId} {x y : Operand} {sz : Nat} (hR : ∀ w, R w w) (ho : ops[i]? = some o) (hop : o.op = .indexAddr T x y) (hg : o.guard = none) (hd : o.dst.isSome = true) (hu : P.underlying T = some (.slice (P.elem T))) (hsz : ∀ w, (sizeOf (P.elem T)).run P w = .ok sz w)
    (h : ∀ l a w, Cx ops m R φ a0 w0 l a w → (∀ j, need ops i j = true → l.getD j false = true) → ∃ ad len cap k n, a.eval x = .slice (some ad) len cap ∧ a.eval y = .int k n ∧ (0 ≤ n ∧ n < (len : Int)) ∧ φ i (.pointer (some (ad.add (n.toNat * sz)))) w) : Step P ops Q m R φ a0 w0 i :=
  st_run ho hg hd (fun l a w X hn => by
    obtain ⟨ad, len, cap, k, n, h1, h2, h3, h4⟩ := h l a w X hn
    refine ⟨_, w, ?_, hR w, h4⟩
    unfold execOp
    simp only [hop, h1, h2, Sem.run_bind, run_indexAt_slice (P := P) w T ad len cap k n hu, if_pos h3, hsz, Result.andThen_ok]
    rfl)
theorem st_load {T : TypeId} {x : Operand} (hR : ∀ w, R w w) (ho : ops[i]? = some o) (hop : o.op = .load T x) (hg : o.guard = none) (hd : o.dst.isSome = true) (ha : ∀ w, (isAgg T).run P w = .ok false w)
    (h : ∀ l a w, Cx ops m R φ a0 w0 l a w → (∀ j, need ops i j = true → l.getD j false = true) → ∃ p v, a.eval x = .pointer (some p) ∧ w.cell? p = some v ∧ φ i v w) : Step P ops Q m R φ a0 w0 i :=
  st_run ho hg hd (fun l a w X hn => by
    obtain ⟨p, v, h1, h2, h3⟩ := h l a w X hn
    refine ⟨v, w, ?_, hR w, h3⟩
    unfold execOp
    simp [hop, h1, Instr.loadAt, Instr.sureAddr, Sem.run_bind, Result.andThen_ok, loadVar, ha, h2])
theorem st_build {T : TypeId} {parts : Array (Nat × Operand)} (hR : ∀ w, R w w) (ho : ops[i]? = some o) (hop : o.op = .build T parts) (hg : o.guard = none) (hd : o.dst.isSome = true)
    (h : ∀ l a w, Cx ops m R φ a0 w0 l a w → (∀ j, need ops i j = true → l.getD j false = true) → ∃ ps cells, (parts.map fun (i, x) => (i, a.eval x)) = ps ∧ P.built T ps.toList = some cells ∧ φ i (.agg cells) w) : Step P ops Q m R φ a0 w0 i :=
  st_run ho hg hd (fun l a w X hn => by
    obtain ⟨ps, cells, h1, h2, h3⟩ := h l a w X hn
    refine ⟨_, w, ?_, hR w, h3⟩
    unfold execOp
    simp only [hop, Sem.run_bind, h1, run_build w T ps cells h2, Result.andThen_ok]
    rfl)
theorem st_call {f : FuncId} {fn : Func} {as : Array Operand} {ts : Array TypeId} (ho : ops[i]? = some o) (hg : o.guard = none) (hd : o.dst.isSome = true) (hf : P.funcs[f]? = some fn) (hname : (fn.name == "runtime.NumGoroutine") = false) (hb : fn.body.isSome = true)
    (hop : o.op = .call { callee := .value (.func f), args := as, argTypes := ts })
    (h : ∀ l a w, Cx ops m R φ a0 w0 l a w → (∀ j, need ops i j = true → l.getD j false = true) → ∃ args, as.map a.eval = args ∧ Calls P f args w fun e w' => ∃ v, e = .returned v ∧ R w w' ∧ φ i v w') : Step P ops Q m R φ a0 w0 i := by
  intro o' ho' l a w X hn K hK
  rw [ho] at ho'
  obtain rfl := Option.some.inj ho'
  have hw : Region.wanted o (yielded ops a.tmps) = true := by simp [Region.wanted, hg]
  obtain ⟨args, h1, h2⟩ := h l a w X hn
  refine goes_ hf hname hb args hw rfl hop h1 (h2.mono fun e w' he => ?_)
  obtain ⟨v, rfl, h3, h4⟩ := he
  exact ⟨v, rfl, hK v w' h3 h4 (fun hd' => by rw [hd'] at hd; cases hd)⟩
end
end Go.Proofs.YtaclekdigolhkaaDoor.AO
