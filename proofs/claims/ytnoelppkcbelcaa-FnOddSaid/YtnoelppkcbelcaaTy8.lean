/-
Operations on memory, and calls.
-/
import Derived.Test.YtnoelppkcbelcaaTy7
set_option linter.unusedVariables false
set_option linter.unusedSimpArgs false
namespace Go.Proofs.Ytnoelppkcbelcaa.Ty
open Go Go.RowKit

def noAny : List SV → Bool
  | [] => true
  | .any :: _ => false
  | _ :: r => noAny r
theorem noAny_one {E : Env} : ∀ {ns : List SV} {us : List Value}, noAny ns = true → hasL E ns us → ∀ v ∈ us, v.oneCell' = true
  | [], [], _, _, v, hv => by simp at hv
  | [], _ :: _, _, h, _, _ => h.elim
  | _ :: _, [], _, h, _, _ => h.elim
  | n :: ns, u :: us, hn, h, v, hv => by
    have h1 : n ≠ .any ∧ noAny ns = true := by cases n <;> simp_all [noAny]
    rcases List.mem_cons.1 hv with rfl | h2
    · exact cellsOne E h.1 h1.1
    · exact noAny_one h1.2 h.2 v h2
def leCTs : List CT → List CT → Bool
  | [], [] => true
  | a :: as, b :: bs => leCT a.sv b && leCTs as bs
  | _, _ => false
theorem leCTs_length : ∀ {a b : List CT}, leCTs a b = true → a.length = b.length
  | [], [], _ => rfl
  | [], _ :: _, h => by simp [leCTs] at h
  | _ :: _, [], h => by simp [leCTs] at h
  | a :: as, b :: bs, h => by
    simp only [leCTs, Bool.and_eq_true] at h
    rw [List.length_cons, List.length_cons, leCTs_length h.2]
theorem leCTs_get (E : Env) : ∀ {a b : List CT}, leCTs a b = true → ∀ {i : Nat} {c : CT} {v : Value}, a[i]? = some c → hasCT c v → ∃ d, b[i]? = some d ∧ hasCT d v
  | [], [], _, i, c, v, h, _ => by simp at h
  | [], _ :: _, h, _, _, _, _, _ => by simp [leCTs] at h
  | _ :: _, [], h, _, _, _, _, _ => by simp [leCTs] at h
  | a :: as, b :: bs, h, 0, c, v, hc, hv => by
    simp only [leCTs, Bool.and_eq_true] at h
    obtain rfl : a = c := by simpa using hc
    exact ⟨b, rfl, leCT_ok h.1 (CT.sv_ok (E := E) hv)⟩
  | a :: as, b :: bs, h, i + 1, c, v, hc, hv => by
    simp only [leCTs, Bool.and_eq_true] at h
    simpa using leCTs_get E h.2 (i := i) (by simpa using hc) hv
theorem Pat.le (E : Env) {a b : List CT} {o : Nat} {us : List Value} (h : leCTs a b = true) (hp : Pat a o us) : Pat b o us := by
  intro i v hv
  obtain ⟨c, h1, h2⟩ := hp i v hv
  obtain ⟨d, h3, h4⟩ := leCTs_get E h h1 h2
  exact ⟨d, by rw [← leCTs_length h]; exact h3, h4⟩
theorem Pat.shift {cts : List CT} {o o' : Nat} {us : List Value} (h : o % cts.length = 0) (h' : o' % cts.length = 0) (hp : Pat cts o us) : Pat cts o' us := by
  intro i v hv
  obtain ⟨c, h1, h2⟩ := hp i v hv
  rw [Nat.add_mod, h, Nat.zero_add, Nat.mod_mod] at h1
  exact ⟨c, by rw [Nat.add_mod, h', Nat.zero_add, Nat.mod_mod]; exact h1, h2⟩
theorem Pat.app {cts : List CT} {o : Nat} {us vs : List Value} (h : Pat cts o us) (hv : Pat cts (o + us.length) vs) : Pat cts o (us ++ vs) := by
  intro i v hi
  rw [List.getElem?_append] at hi
  by_cases hl : i < us.length
  · rw [if_pos hl] at hi; exact h i v hi
  · rw [if_neg hl] at hi
    obtain ⟨c, h1, h2⟩ := hv (i - us.length) v hi
    exact ⟨c, by rw [show o + us.length + (i - us.length) = o + i by omega] at h1; exact h1, h2⟩
/-- All cells lie in the element's kinds, one behind the other. -/
def leRow (cts : List CT) : List SV → List CT → Bool
  | [], _ => true
  | s :: ss, c :: cs => leCT s c && leRow cts ss (match cs with | [] => cts | _ => cs)
  | _ :: _, [] => false
theorem leRow_ok {E : Env} {cts : List CT} : ∀ {ss : List SV} {us : List Value} {o : Nat} {cs : List CT}, o < cts.length → cs = cts.drop o → leRow cts ss cs = true → hasL E ss us → Pat cts o us
  | [], [], _, _, _, _, _, _, i, v, hi => by simp at hi
  | [], _ :: _, _, _, _, _, _, h, _, _, _ => h.elim
  | _ :: _, [], _, _, _, _, _, h, _, _, _ => h.elim
  | s :: ss, u :: us, o, cs, ho, hd, h, hL, i, v, hi => by
    cases cs with
    | nil => simp [leRow] at h
    | cons c cs =>
      simp only [leRow, Bool.and_eq_true] at h
      have hc : cts[o]? = some c := by
        have := congrArg List.head? hd
        simpa [List.head?_drop] using this.symm
      have hdrop : cs = cts.drop (o + 1) := by
        have := congrArg List.tail hd
        simpa [List.tail_drop] using this
      cases i with
      | zero =>
        obtain rfl : u = v := by simpa using hi
        exact ⟨c, by rw [Nat.add_zero, Nat.mod_eq_of_lt ho]; exact hc, leCT_ok h.1 hL.1⟩
      | succ i =>
        by_cases hl : o + 1 < cts.length
        · have hne : cs ≠ [] := by rw [hdrop]; intro he; have := congrArg List.length he; simp at this; omega
          have h2 : leRow cts ss cs = true := by
            cases cs with
            | nil => exact absurd rfl hne
            | cons _ _ => exact h.2
          obtain ⟨c', h3, h4⟩ := leRow_ok hl hdrop h2 hL.2 i v (by simpa using hi)
          exact ⟨c', by rw [show o + (i + 1) = o + 1 + i by omega]; exact h3, h4⟩
        · have he : cs = [] := by rw [hdrop, List.drop_eq_nil_iff]; omega
          subst he
          obtain ⟨c', h3, h4⟩ := leRow_ok (o := 0) (cs := cts) (by omega) rfl h.2 hL.2 i v (by simpa using hi)
          refine ⟨c', ?_, h4⟩
          rw [show o + (i + 1) = i + cts.length by omega, Nat.add_mod_right]
          simpa using h3

/-- What a function gives and leaves behind. -/
structure Out where
  res : AV
  blk : List SV
  lt : Option Nat := none
/-- The result lies below that argument. -/
def LtOut (o : Out) (vs : List Value) (v : Value) : Prop := ∀ k, o.lt = some k → ∃ kd n kd' m, v = .int kd n ∧ vs.getD k undef = .int kd' m ∧ n < m
theorem LtOut.no {o : Out} (h : o.lt = none) (vs : List Value) (v : Value) : LtOut o vs v := fun k hk => by rw [h] at hk; cases hk
def envK (K : Nat → Option KT) : Env := ⟨fun _ => 0, 0, fun _ => 0, 0, K⟩
theorem envK_ext {K : Nat → Option KT} {E : Env} (h : ∀ g k, K g = some k → E.K g = some k) : Ext (envK K) E := ⟨Nat.zero_le _, fun s hs => absurd hs (Nat.not_lt_zero s), Nat.zero_le _, fun s hs => absurd hs (Nat.not_lt_zero s), h⟩
def hasArgs (E : Env) : List AV → List Value → Prop
  | [], [] => True
  | s :: ss, v :: vs => hasAV E s v ∧ hasArgs E ss vs
  | _, _ => False
theorem hasArgs.ext {E E' : Env} (h : Ext E E') : ∀ {ss : List AV} {vs : List Value}, hasArgs E ss vs → hasArgs E' ss vs
  | [], [], _ => trivial
  | [], _ :: _, hv => hv.elim
  | _ :: _, [], hv => hv.elim
  | _ :: _, _ :: _, hv => ⟨hv.1.ext h, hasArgs.ext h hv.2⟩
theorem hasArgs.length {E : Env} : ∀ {ss : List AV} {vs : List Value}, hasArgs E ss vs → ss.length = vs.length
  | [], [], _ => rfl
  | [], _ :: _, hv => hv.elim
  | _ :: _, [], hv => hv.elim
  | _ :: _, _ :: _, hv => by rw [List.length_cons, List.length_cons, hasArgs.length hv.2]
theorem hasArgs.get {E : Env} : ∀ {ss : List AV} {vs : List Value}, hasArgs E ss vs → ∀ i, i < ss.length → hasAV E (ss.getD i .any) (vs.getD i undef)
  | [], _, _, i, hi => by simp at hi
  | _ :: _, [], hv, _, _ => hv.elim
  | s :: _, v :: _, hv, 0, _ => by simpa using hv.1
  | _ :: ss, _ :: vs, hv, i + 1, hi => by simpa using hasArgs.get hv.2 i (by simpa using hi)
abbrev Oracle := FuncId → List AV → Option (TypeId × List SV) → Option (List Out)
def BlkAt (E : Env) (w : World) : Option (TypeId × List SV) → Prop
  | none => E.nb = 0
  | some (t, cs) => E.nb = 1 ∧ E.K (E.β 0) = none ∧ ∃ us, w.heap[E.β 0]? = some (.cells us t (0, 0)) ∧ hasL E cs us.toList
def BlkOut (K : Nat → Option KT) (g : Nat) (w : World) (o : Out) : Option (TypeId × List SV) → Prop
  | none => True
  | some (t, _) => ∃ us, w.heap[g]? = some (.cells us t (0, 0)) ∧ hasL (envK K) o.blk us.toList
def passed (g : Nat) : Option (TypeId × List SV) → Option Nat
  | none => none
  | some _ => some g
def CallOK (P : Program) (CP : (Nat → Option KT) → List Value → Prop) (f : FuncId) (args : List AV) (blk : Option (TypeId × List SV)) (outs : List Out) : Prop :=
  (∀ vs w, (callFunc f vs).run P w = .ok (.enter f vs) w) ∧
  ∀ (E : Env) (w : World) (vs : Array Value), hasArgs E args vs.toList → KInv CP E.K w → BlkAt E w blk →
    Calls P f vs w fun e w' => ∃ v K', e = .returned v ∧ KInv CP K' w' ∧ Fr E.K (passed (E.β 0) blk) w K' w' ∧ ∃ o ∈ outs, hasAV (envK K') o.res v ∧ BlkOut K' (E.β 0) w' o blk ∧ LtOut o vs.toList v
def SoundT (P : Program) (CP : (Nat → Option KT) → List Value → Prop) (T : Oracle) : Prop := ∀ f args blk outs, T f args blk = some outs → CallOK P CP f args blk outs

def stripSV : SV → SV
  | .bool t _ _ => .bool t [] []
  | .int k lo hi _ => .int k lo hi none
  | .slice c lo hi _ => .slice c lo hi none
  | .ptr _ _ => .any
  | s => s
theorem stripSV_ok {E E' : Env} (hK : ∀ g k, E.K g = some k → E'.K g = some k) {s : SV} {v : Value} (h : hasSV E s v) : hasSV E' (stripSV s) v := by
  cases s with
  | any => trivial
  | bool t ft ff => obtain ⟨b, rfl, h1, _⟩ := h; exact ⟨b, rfl, h1, fun _ f hf => absurd hf (by simp), fun _ f hf => absurd hf (by simp)⟩
  | int k lo hi sy => obtain ⟨n, rfl, h1, h2, _⟩ := h; exact ⟨n, rfl, h1, h2, fun s d hs => (by cases hs)⟩
  | str => exact h
  | ptr b o => trivial
  | eptr c j => obtain ⟨g, o, n, rfl, h1, h2⟩ := h; exact ⟨g, o, n, rfl, hK _ _ h1, h2⟩
  | cur => obtain ⟨g, rfl, h1⟩ := h; exact ⟨g, rfl, hK _ _ h1⟩
  | nils => exact h
  | slice c lo hi sy =>
    obtain ⟨a, l, k, rfl, h1, h2, h3, _, h5, h6⟩ := h
    refine ⟨a, l, k, rfl, h1, h2, h3, fun s hs => (by cases hs), h5, fun ad had => ?_⟩
    obtain ⟨h7, n, h8, h9⟩ := h6 ad had
    exact ⟨h7, n, hK _ _ h8, h9⟩
/-- An argument as the called function sees it. -/
def mapArg (b : Option Nat) : SV → SV
  | .ptr c o => if b = some c then .ptr 0 o else .any
  | s => stripSV s
theorem mapArg_ok {E E' : Env} (hK : E'.K = E.K) {b : Option Nat} (hb : ∀ x, b = some x → E'.nb = 1 ∧ E'.β 0 = E.β x) {s : SV} {v : Value} (h : hasSV E s v) : hasSV E' (mapArg b s) v := by
  have hs := stripSV_ok (E' := E') (fun g k hk => by rw [hK]; exact hk) h
  cases s with
  | ptr c o =>
    simp only [mapArg]
    split
    · rename_i he
      obtain ⟨h1, h2⟩ := hb c he
      exact ⟨by omega, by rw [h2]; exact h.2⟩
    · trivial
  | _ => exact hs
theorem hasArgs_map {E E' : Env} {g : SV → SV} (hg : ∀ s v, hasSV E s v → hasSV E' (g s) v) : ∀ {ss : List AV} {vs : List Value}, hasArgs E ss vs → hasArgs E' (ss.map (mapAV g)) vs
  | [], [], _ => trivial
  | [], _ :: _, h => h.elim
  | _ :: _, [], h => h.elim
  | _ :: _, _ :: _, h => ⟨h.1.map hg, hasArgs_map hg h.2⟩
def findPtr : List AV → Option Nat
  | [] => none
  | .one (.cell (.ptr b 0)) :: _ => some b
  | _ :: r => findPtr r
def addLt (S : St) (dst : Option Nat) (arg : AV) : St := match dst with
  | some d => match getT S.tmps d, arg with
    | .one (.cell (.int _ _ _ (some (s, 0)))), .one (.cell (.int _ _ _ (some (t, c)))) => if d < S.nt ∧ c ≤ 0 then { S with lt := (s, t) :: S.lt } else S
    | _, _ => S
  | none => S
theorem Good.addLt {X : Ctx} {E : Env} {S : St} {a : Act} {w : World} (h : Good X E S a w) {dst : Option Nat} {arg : AV} {v u : Value} (hv : ∀ d, dst = some d → d < a.tmps.size → a.tmps.getD d undef = v)
    (hu : hasAV E arg u) (hl : ∃ kd n kd' m, v = .int kd n ∧ u = .int kd' m ∧ n < m) : Good X E (addLt S dst arg) a w := by
  unfold Ty.addLt
  split
  · rename_i d
    split
    · rename_i k lo hi s k2 lo2 hi2 t c he
      split
      · rename_i hc
        have h1 := h.tmps d
        rw [he, hv d rfl (by rw [h.len]; exact hc.1)] at h1
        obtain ⟨kd, n, kd', m, rfl, rfl, hnm⟩ := hl
        obtain ⟨n1, e1, _, _, h2⟩ := h1
        obtain ⟨m1, e2, _, _, h3⟩ := hu
        cases e1
        cases e2
        have h4 := h2 s 0 rfl
        have h5 := h3 t c rfl
        refine ⟨h.defers, h.len, h.nx, h.tmps, h.kinv, h.fr, h.blks, fun x y hxy => ?_, h.held⟩
        rcases List.mem_cons.1 hxy with hh | hh
        · cases hh
          exact ⟨h4.1, h5.1, by omega⟩
        · exact h.lts x y hh
      · exact h
    · exact h
  · exact h
theorem hasArgs_eval {X : Ctx} {E : Env} {S : St} {a : Act} {w : World} (h : Good X E S a w) : ∀ xs : List Operand, hasArgs E (xs.map S.eval) (xs.map a.eval)
  | [] => trivial
  | x :: xs => ⟨h.eval x, hasArgs_eval h xs⟩

/-- A new variable, its pointer into a slot. -/
def St.newB (S : St) (t : TypeId) (cs : List SV) (dst : Option Nat) : St := match freshL cs S.nx with
  | (cs', n) => ({ S with nx := n, bl := S.bl ++ [(t, cs')] } : St).put dst (.one (.cell (.ptr S.bl.length 0)))
section
variable {X : Ctx} {E : Env} {S : St} {a : Act} {w w' : World}
theorem Good.newB (h : Good X E S a w) (t : TypeId) (dst : Option Nat) {cs : List SV} {vs : Array Value} (hL : hasL E cs vs.toList) :
    ∃ E', Rel E E' ∧ Good X E' (S.newB t cs dst) (a.put dst (.pointer (some ⟨w.heap.size, 0, none⟩))) (w.alloc (.cells vs t (0, 0))) := by
  obtain ⟨E1, r, n, h1⟩ := freshL_ok hL
  have h2 := (h.ren r).newBlk t h1
  refine ⟨E1.blk w.heap.size, r.ext.rel.trans (Ext.blk E1 _).rel, ?_⟩
  have h3 := h2.put dst (av := .one (.cell (.ptr S.bl.length 0))) (v := .pointer (some ⟨w.heap.size, 0, none⟩)) ⟨by
    show S.bl.length < E1.nb + 1
    rw [r.nb, h.blks.nb]
    exact Nat.lt_succ_self _, by
    have : (E1.blk w.heap.size).β S.bl.length = w.heap.size := by
      show (if S.bl.length = E1.nb then w.heap.size else E1.β S.bl.length) = w.heap.size
      rw [if_pos (by rw [r.nb, h.blks.nb])]
    rw [this]⟩
  rw [h.nx] at n h3
  rw [n] at h3
  exact h3
/-- A new row, its slice into a slot. -/
theorem Good.newR (h : Good X E S a w) (t : TypeId) (dst : Option Nat) {cts : List CT} {vs : Array Value} (h0 : 0 < cts.length) (hn : vs.size % cts.length = 0) (hp : Pat cts 0 vs.toList) {l c lo hi : Nat} (hl0 : lo ≤ l) (hl1 : l ≤ hi) (hlc : l ≤ c) (hc : c * cts.length ≤ vs.size) :
    ∃ E', Rel E E' ∧ Good X E' (S.putF dst (.one (.cell (.slice cts lo hi none)))) (a.put dst (.slice (some ⟨w.heap.size, 0, none⟩) l c)) (w.alloc (.cells vs t (0, 0))) := by
  have h2 := h.newRow t h0 hn hp
  obtain ⟨E', r, h3⟩ := h2.putF dst (av := .one (.cell (.slice cts lo hi none))) (v := .slice (some ⟨w.heap.size, 0, none⟩) l c) ⟨_, l, c, rfl, hl0, hl1, hlc, fun s hs => (by cases hs), fun he => (by cases he), fun ad had => by
    cases had
    refine ⟨rfl, vs.size, ?_, Nat.zero_mod _, by simpa using hc⟩
    show (if w.heap.size = w.heap.size then _ else _) = _
    rw [if_pos rfl]⟩
  exact ⟨E', (h.newRow_ext _).rel.trans r.ext.rel, h3⟩
/-- A row's cells are read. -/
theorem Good.rowRead {P : Program} (h : Good X E S a w) {g o n N : Nat} {cts : List CT} (hK : E.K g = some (.row cts N)) (hn : o + n ≤ N) :
    ∃ us : List Value, us.length = n ∧ Pat cts o us ∧ ∀ w' : World, w'.heap[g]? = w.heap[g]? → (loadCells ⟨g, o, none⟩ n).run P w' = .ok us.toArray w' := by
  obtain ⟨cs, t, h1, h2, h3, h4, h5⟩ := h.kinv.rows g cts N hK
  refine ⟨(cs.toList.drop o).take n, by simp; omega, fun i v hv => ?_, fun w' hw' => run_loadCells_at (by rw [hw']; exact h1) (by omega)⟩
  have hi : i < n := by
    have := (List.getElem?_eq_some_iff.1 hv).1
    simp at this
    omega
  rw [List.getElem?_take_of_lt hi, List.getElem?_drop] at hv
  obtain ⟨c, u, h6, h7, h8⟩ := h5 (o + i) (by omega)
  have : cs.toList[o + i]? = some u := by simpa using h7
  rw [this] at hv
  cases hv
  exact ⟨c, h6, h8⟩
/-- A call has come back. -/
theorem Good.called (h : Good X E S a w) {b : Option Nat} {blk : Option (TypeId × List SV)} {g : Nat} {K' : Nat → Option KT} (hk : KInv X.CP K' w') (hf : Fr E.K (passed g blk) w K' w')
    (hb : ∀ x, b = some x → g = E.β x ∧ x < S.bl.length) (hn : b = none → blk = none) (hbd : ∀ x, b = some x → x ∉ X.hd) {o : Out} {bl' : List (TypeId × List SV)}
    (hbl : (b = none ∧ bl' = S.bl) ∨ (∃ x t cs ns, b = some x ∧ S.bl[x]? = some (t, cs) ∧ bl' = S.bl.set x (t, ns) ∧ ∃ us, w'.heap[g]? = some (.cells us t (0, 0)) ∧ hasL (envK K') ns us.toList)) :
    Good X { E with K := K' } { S with bl := bl' } a w' := by
  have hlt : ∀ x k, E.K x = some k → K' x = some k := fun x k hx => by rw [hf.kext x (h.kinv.lt hx)]; exact hx
  have hx : Ext E { E with K := K' } := ⟨Nat.le_refl _, fun _ _ => rfl, Nat.le_refl _, fun _ _ => rfl, hlt⟩
  have hp : ∀ y, passed g blk = some y → ∃ x, b = some x ∧ y = E.β x := fun y hy => by
    cases b with
    | none => rw [hn rfl] at hy; cases hy
    | some x => cases blk with
      | none => cases hy
      | some z => cases hy; exact ⟨x, rfl, (hb x rfl).1⟩
  have hblen : ∀ x, x < S.bl.length → E.β x < w.heap.size ∧ E.K (E.β x) = none ∧ (X.w0.heap.size ≤ E.β x ∨ X.p = some (E.β x)) := fun x hx => by
    obtain ⟨h1, h2, _⟩ := h.blks.at_ x (S.bl[x]).1 (S.bl[x]).2 (by rw [List.getElem?_eq_getElem hx])
    exact ⟨h.blk_lt (t := (S.bl[x]).1) (cs := (S.bl[x]).2) (by rw [List.getElem?_eq_getElem hx]), h1, h2⟩
  refine ⟨h.defers, h.len, h.nx, fun i => (h.tmps i).ext hx, hk, ⟨hf.os.trans h.fr.os, hf.tape.trans h.fr.tape, hf.output.trans h.fr.output, Nat.le_trans h.fr.size hf.size, fun x hx0 h0 hpx => ?_, fun x hx0 => ?_⟩, ⟨?_, fun c t' cs' hc => ?_, fun c d hc hd he => ?_, fun g0 hg0 => ?_⟩, h.lts, fun c hc => ?_⟩
  · rw [hf.kept x (Nat.lt_of_lt_of_le hx0 h.fr.size) (by rw [h.fr.kext x hx0]; exact h0) ?_]
    · exact h.fr.kept x hx0 h0 hpx
    · intro he
      obtain ⟨y, hy, rfl⟩ := hp x he
      rcases (hblen y (hb y hy).2).2.2 with h1 | h1
      · omega
      · exact hpx h1
  · show K' x = _
    rw [hf.kext x (Nat.lt_of_lt_of_le hx0 h.fr.size)]
    exact h.fr.kext x hx0
  · rcases hbl with ⟨_, rfl⟩ | ⟨x, t, cs, ns, _, _, rfl, _⟩
    · exact h.blks.nb
    · simpa using h.blks.nb
  · have far : ∀ (c : Nat) (t' : TypeId) (cs' : List SV), S.bl[c]? = some (t', cs') → b ≠ some c → K' (E.β c) = none ∧ (X.w0.heap.size ≤ E.β c ∨ X.p = some (E.β c)) ∧ ∃ vs, w'.heap[E.β c]? = some (.cells vs t' (0, 0)) ∧ hasL { E with K := K' } cs' vs.toList := fun c t' cs' hc hbc => by
      obtain ⟨h1, h2, us, h3, h4⟩ := h.blks.at_ c t' cs' hc
      have h5 := h.blk_lt hc
      refine ⟨by rw [hf.kext _ h5]; exact h1, h2, us, ?_, h4.ext hx⟩
      rw [hf.kept _ h5 h1 ?_]
      · exact h3
      · intro he
        obtain ⟨y, hy, hyc⟩ := hp _ he
        exact hbc (by rw [hy, h.blks.inj c y (List.getElem?_eq_some_iff.1 hc).1 (hb y hy).2 hyc])
    rcases hbl with ⟨hbn, rfl⟩ | ⟨x, t, cs, ns, hbx, hxl, rfl, us, hu1, hu2⟩
    · exact far c t' cs' hc (by rw [hbn]; simp)
    · by_cases hcx : x = c
      · subst hcx
        have hlt2 : x < S.bl.length := (List.getElem?_eq_some_iff.1 hxl).1
        rw [List.getElem?_set_self hlt2] at hc
        cases hc
        obtain ⟨h1, h2, h3⟩ := hblen x hlt2
        refine ⟨by show K' (E.β x) = none; rw [hf.kext _ h1]; exact h2, h3, us, by show w'.heap[E.β x]? = _; rw [← (hb x hbx).1]; exact hu1, hu2.ext (envK_ext fun _ _ hh => hh)⟩
      · rw [List.getElem?_set_ne hcx] at hc
        exact far c t' cs' hc (by rw [hbx]; intro he; cases he; exact hcx rfl)
  · have hl : bl'.length = S.bl.length := by
      rcases hbl with ⟨_, rfl⟩ | ⟨x, t, cs, ns, _, _, rfl, _⟩
      · rfl
      · simp
    exact h.blks.inj c d (by rw [← hl]; exact hc) (by rw [← hl]; exact hd) he
  · obtain ⟨h5, cs0, h6⟩ := h.blks.first g0 hg0
    refine ⟨h5, ?_⟩
    rcases hbl with ⟨_, rfl⟩ | ⟨x, t, cs, ns, _, hxl, rfl, _⟩
    · exact ⟨cs0, h6⟩
    · by_cases hx0 : x = 0
      · subst hx0
        rw [hxl] at h6
        cases h6
        exact ⟨_, List.getElem?_set_self (List.getElem?_eq_some_iff.1 hxl).1⟩
      · exact ⟨cs0, by rw [List.getElem?_set_ne hx0]; exact h6⟩
  · obtain ⟨h5, h6, h7⟩ := h.held c hc
    have hl : bl'.length = S.bl.length := by
      rcases hbl with ⟨_, rfl⟩ | ⟨x, t, cs, ns, _, _, rfl, _⟩
      · rfl
      · simp
    obtain ⟨h8, h9, _⟩ := hblen c h5
    refine ⟨by show c < bl'.length; omega, h6, ?_⟩
    rw [← h7, ← h6]
    refine hf.kept _ h8 h9 fun he => ?_
    obtain ⟨y, hy, hyc⟩ := hp _ he
    have e := h.blks.inj c y h5 (hb y hy).2 hyc
    exact hbd y hy (e ▸ hc)
end
end Go.Proofs.Ytnoelppkcbelcaa.Ty
