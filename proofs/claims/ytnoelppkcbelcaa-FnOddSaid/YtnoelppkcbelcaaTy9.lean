/-
Operations on memory: what they make of a state.
-/
import Derived.Test.YtnoelppkcbelcaaTy8
set_option linter.unusedVariables false
set_option linter.unusedSimpArgs false
namespace Go.Proofs.Ytnoelppkcbelcaa.Ty
open Go Go.RowKit

/-- What the checker leans on. -/
structure Kit where
  tab : TypeId → Option TD
  hint : TypeId → Option (List CT)
  T : Oracle
  hd : List Nat
def hullCT : CT → SV → Option CT
  | .bool, .bool _ _ _ => some .bool
  | .str, .str => some .str
  | .int k lo hi, .int k' lo' hi' _ => if k = k' then some (.int k (if lo ≤ lo' then lo else lo') (if hi ≤ hi' then hi' else hi)) else none
  | _, _ => none
def svCT : SV → Option CT
  | .bool _ _ _ => some .bool
  | .str => some .str
  | .int k lo hi _ => some (.int k lo hi)
  | _ => none
def svCTs : List SV → Option (List CT)
  | [] => some []
  | s :: r => match svCT s, svCTs r with
    | some c, some cs => some (c :: cs)
    | _, _ => none
def hullCTs : List CT → List SV → Option (List CT)
  | [], [] => some []
  | c :: cs, s :: ss => match hullCT c s, hullCTs cs ss with
    | some d, some ds => some (d :: ds)
    | _, _ => none
  | _, _ => none
/-- The kinds of a literal's elements (looked at again by leRow). -/
def hullAll (m : Nat) : Nat → List CT → List SV → Option (List CT)
  | _, cs, [] => some cs
  | 0, _, _ => none
  | n + 1, cs, ss => match hullCTs cs (ss.take m) with
    | some ds => hullAll m n ds (ss.drop m)
    | none => none
def sliceAbs : AV → Option (List CT × Nat × Nat)
  | .one (.cell (.slice c lo hi _)) => some (c, lo, hi)
  | .one (.cell .nils) => some ([], 0, 0)
  | _ => none
def isNil : AV → Bool
  | .one (.cell .nils) => true
  | _ => false
/-- The kinds of what append gives. -/
def appCts (Γ : Kit) (e : TypeId) (s x : AV) (c d : List CT) : Option (List CT) :=
  if isNil s then (match Γ.hint e with
    | some h => if isNil x || leCTs d h then some h else none
    | none => none)
  else if isNil x || leCTs d c then some c else none
def allocM (Γ : Kit) (o : Oper) (S : St) (t : TypeId) : Option (List St) := match Γ.tab t with
    | some d => match d.zero with
      | some z => some [S.newB t z o.dst]
      | none => none
    | none => none
def boxM (Γ : Kit) (o : Oper) (S : St) (t : TypeId) (x : Operand) : Option (List St) := match cellsOf (S.eval x) with
    | some cs => some [S.newB t cs o.dst]
    | none => none
def bsliceM (Γ : Kit) (o : Oper) (S : St) (t : TypeId) (n : Nat) (ps : Array (Nat × Operand)) : Option (List St) := match Γ.tab t with
    | some d => match d.elem with
      | some e => match Γ.tab e, Γ.hint e with
        | some de, some hc => match de.zero, partAbs S.eval ps.toList with
          | some z, some r =>
            if de.size = 0 ∨ 16777216 < n * de.size ∨ z.length ≠ de.size then none else
            match fillSV ((List.range n).map fun i => (i * de.size, de.size, false)) ((List.range (n * de.size)).map fun i => z.getD (i % z.length) .any) r with
            | some cs =>
              match (if n = 0 then some hc else (svCTs (cs.take de.size)).bind fun c => hullAll de.size n c cs) with
              | some cts => if cts.length = de.size ∧ leRow cts cs cts = true ∧ cs.length = n * de.size then some [S.putF o.dst (.one (.cell (.slice cts n n none)))] else none
              | none => none
            | none => none
          | _, _ => none
        | _, _ => none
      | none => none
    | none => none
def msliceM (Γ : Kit) (o : Oper) (S : St) (t : TypeId) (l c : Operand) : Option (List St) := match Γ.tab t, S.eval l, S.eval c with
    | some d, .one (.cell (.int .i64 lo hi _)), .one (.cell (.int .i64 lo' hi' _)) => match d.elem with
      | some e => match Γ.tab e, Γ.hint e with
        | some de, some hc => match de.zero with
          | some z => if 0 ≤ lo ∧ lo = hi ∧ lo' = lo ∧ hi' = lo ∧ lo ≤ 4294967296 ∧ de.bytes ≤ 4096 ∧ 0 < de.size ∧ z.length = de.size ∧ hc.length = de.size ∧ leRow hc z hc = true then some [S.putF o.dst (.one (.cell (.slice hc lo.toNat lo.toNat none)))] else none
          | none => none
        | _, _ => none
      | none => none
    | _, _, _ => none
def loadM (Γ : Kit) (o : Oper) (S : St) (t : TypeId) (x : Operand) : Option (List St) := match Γ.tab t, S.eval x with
    | some d, .one (.cell (.ptr b off)) => match S.bl[b]? with
      | some (_, cs) =>
        if d.agg = true then (if off + d.size ≤ cs.length then some [S.putF o.dst (.one (.agg ((cs.drop off).take d.size)))] else none)
        else (cs[off]?).map fun s => [S.putF o.dst (.one (.cell s))]
      | none => none
    | some d, .one (.cell (.eptr cts j)) =>
      if d.agg = true then (if j + d.size ≤ cts.length then some [S.putF o.dst (.one (.agg (((cts.drop j).take d.size).map CT.sv)))] else none)
      else (cts[j]?).map fun c => [S.putF o.dst (.one (.cell c.sv))]
    | _, _ => none
def storeM (Γ : Kit) (o : Oper) (S : St) (t : TypeId) (x v : Operand) : Option (List St) := match Γ.tab t, S.eval x, cellsOf (S.eval v) with
    | some d, .one (.cell (.ptr b off)), some ns => match S.bl[b]? with
      | some (t', cs) => if ns.length = d.size ∧ off + ns.length ≤ cs.length ∧ noAny ns = true ∧ Γ.hd.contains b = false then some [({ S with bl := S.bl.set b (t', setR cs off ns) } : St).put o.dst .any] else none
      | none => none
    | some d, .one (.cell (.eptr cts j)), some ns => if ns.length = d.size ∧ j + ns.length ≤ cts.length ∧ j < cts.length ∧ leRow cts ns (cts.drop j) = true then some [S.put o.dst .any] else none
    | _, _, _ => none
def appM (Γ : Kit) (o : Oper) (S : St) (c : Call) : Option (List St) := match c.args.toList, c.argTypes.toList with
      | [s, x], [t, t'] => if t = t' then (match Γ.tab t with
        | some d => match d.elem with
          | some e => match Γ.tab e, sliceAbs (S.eval s), sliceAbs (S.eval x) with
            | some de, some (cs, l1, h1), some (cx, l2, h2) => match appCts Γ e (S.eval s) (S.eval x) cs cx, de.zero with
              | some cts, some z => if 0 < de.size ∧ z.length = de.size ∧ cts.length = de.size ∧ leRow cts z cts = true ∧ de.bytes ≤ 4096 ∧ h1 + h2 ≤ 4294967296 then some [S.putF o.dst (.one (.cell (.slice cts (l1 + l2) (h1 + h2) none)))] else none
              | _, _ => none
            | _, _, _ => none
          | none => none
        | none => none) else none
      | _, _ => none
def funM (Γ : Kit) (o : Oper) (S : St) (c : Call) (f : FuncId) : Option (List St) :=
      let args := c.args.toList.map S.eval
      let b := findPtr args
      match (match b with
        | none => some none
        | some x => if Γ.hd.contains x then none else match S.bl[x]? with
          | some (t, cs) => some (some (t, cs.map stripSV))
          | none => none) with
      | none => none
      | some blk => match Γ.T f (args.map (mapAV (mapArg b))) blk with
        | none => none
        | some outs => some (outs.map fun q => match b with
          | none => (match q.lt with
          | none => S.putF o.dst q.res
          | some k => addLt (S.putF o.dst q.res) o.dst (args.getD k .any))
          | some x => match S.bl[x]? with
            | some (t, _) => match freshL q.blk S.nx with
              | (cs', n) => ({ S with nx := n, bl := S.bl.set x (t, cs') } : St).putF o.dst q.res
            | none => S)
def callM (Γ : Kit) (o : Oper) (S : St) (c : Call) : Option (List St) := match c.callee with
    | .builtin .append => appM Γ o S c
    | .value (.func f) => funM Γ o S c f
    | _ => none
def memOp (Γ : Kit) (o : Oper) (S : St) : Option (List St) :=
  match o.op with
  | .alloc t => allocM Γ o S t
  | .box t x => boxM Γ o S t x
  | .buildSlice t n ps => bsliceM Γ o S t n ps
  | .makeSlice t l c => msliceM Γ o S t l c
  | .load t x => loadM Γ o S t x
  | .store t x v => storeM Γ o S t x v
  | .call c => callM Γ o S c
  | _ => none
theorem GoodL.one {X : Ctx} {E : Env} {S : St} {a : Act} {w : World} {E' : Env} (r : Rel E E') (h : Good X E' S a w) : GoodL X E [S] a w := ⟨S, List.mem_singleton.2 rfl, E', r, h⟩
section
variable {X : Ctx} {Γ : Kit} (hT : TabOK X.P Γ.tab) {E : Env} {S : St} {a : Act} {w : World} (h : Good X E S a w) {Kn : Act → World → Prop} {Q : Exit → Act → World → Prop}
include hT h
theorem wp_alloc {o : Oper} {t : TypeId} (ho : o.op = .alloc t) {L : List St} (hm : memOp Γ o S = some L) (hk : ∀ a' w', GoodL X E L a' w' → Kn a' w') : o.wp X.P a w Kn Q := by
  unfold memOp at hm
  simp only [ho, allocM] at hm
  split at hm
  · rename_i d hd
    split at hm
    · rename_i z hz
      cases hm
      obtain ⟨i, u, h1, h2, _, _, _, h3, _⟩ := hT.get hd
      rw [h3] at hz
      cases hiz : i.zero with
      | none => rw [hiz] at hz; cases hz
      | some zv =>
        rw [hiz] at hz
        cases hz
        obtain ⟨E', r, h4⟩ := h.newB t o.dst (zeroL_ok E zv.cells.toList)
        have hrun : (execOp a.eval o).run X.P w = .ok (.value (.pointer (some ⟨w.heap.size, 0, none⟩))) (w.alloc (.cells zv.cells t (0, 0))) := by
          simp [execOp, ho, Instr.alloc, zeroValue, typeInfo, h1, hiz, newVar, newRow]
        unfold Oper.wp
        rw [hrun, Oper.upon_value]
        exact hk _ _ (GoodL.one r h4)
    · cases hm
  · cases hm
omit hT in
theorem wp_box {o : Oper} {t : TypeId} {x : Operand} (ho : o.op = .box t x) {L : List St} (hm : memOp Γ o S = some L) (hk : ∀ a' w', GoodL X E L a' w' → Kn a' w') : o.wp X.P a w Kn Q := by
  unfold memOp at hm
  simp only [ho, boxM] at hm
  split at hm
  · rename_i cs hcs
    cases hm
    obtain ⟨E', r, h4⟩ := h.newB t o.dst (cellsOf_ok hcs (h.eval x))
    have hrun : (execOp a.eval o).run X.P w = .ok (.value (.pointer (some ⟨w.heap.size, 0, none⟩))) (w.alloc (.cells (a.eval x).cells t (0, 0))) := by
      simp [execOp, ho, Instr.box, newVar, newRow]
    unfold Oper.wp
    rw [hrun, Oper.upon_value]
    exact hk _ _ (GoodL.one r h4)
  · cases hm
theorem wp_load {o : Oper} {t : TypeId} {x : Operand} (ho : o.op = .load t x) {L : List St} (hm : memOp Γ o S = some L) (hk : ∀ a' w', GoodL X E L a' w' → Kn a' w') : o.wp X.P a w Kn Q := by
  unfold memOp at hm
  simp only [ho, loadM] at hm
  have hx := h.eval x
  have fin : ∀ (av : AV) (v : Value), (execOp a.eval o).run X.P w = .ok (.value v) w → hasAV E av v → L = [S.putF o.dst av] → o.wp X.P a w Kn Q := fun av v hr hv hL => by
    obtain ⟨E', r, h4⟩ := h.putF o.dst hv
    unfold Oper.wp
    rw [hr, Oper.upon_value]
    refine hk _ _ ?_
    rw [hL]
    exact GoodL.one r.ext.rel h4
  split at hm
  · rename_i d b off hd heq
    rw [heq] at hx
    obtain ⟨hbl, hpv⟩ := hx
    split at hm
    · rename_i t' cs hb
      obtain ⟨h1, h2, vs, h3, h4⟩ := h.blks.at_ b t' cs hb
      have hsz : vs.size = cs.length := by rw [h4.length, Array.length_toList]
      split at hm
      · rename_i hag
        split at hm
        · rename_i hle
          cases hm
          refine fin (.one (.agg ((cs.drop off).take d.size))) (.agg ((vs.toList.drop off).take d.size).toArray) ?_ ⟨_, rfl, (h4.drop _).take _⟩ rfl
          have hlc := run_loadCells_at (P := X.P) h3 (show off + d.size ≤ vs.size by omega)
          simp [execOp, ho, Instr.loadAt, hpv, Instr.sureAddr, loadVar, hT.isAgg hd, hag, hT.size hd, hlc]
        · cases hm
      · rename_i hag
        cases hc : cs[off]? with
        | none => rw [hc] at hm; cases hm
        | some s =>
          rw [hc] at hm
          cases hm
          obtain ⟨v, hv1, hv2⟩ := h4.get hc
          refine fin (.one (.cell s)) v ?_ hv2 rfl
          have hl := run_load_at (P := X.P) h3 (show vs[off]? = some v by simpa using hv1)
          simp only [execOp, ho, Instr.loadAt, hpv, Instr.sureAddr, loadVar, Sem.run_bind, Sem.run_pure, Result.andThen_ok, hT.isAgg hd, hag]
          simp only [Bool.false_eq_true, if_false, Sem.run_bind, hl, Result.andThen_ok, Sem.run_pure]
    · cases hm
  · rename_i d cts j hd heq
    rw [heq] at hx
    obtain ⟨g, o', N, hpv, hK, ho1, ho2⟩ := hx
    obtain ⟨cs, t', h1, h2, h3, h4, h5⟩ := h.kinv.rows g cts N hK
    have cellAt : ∀ i, i < cts.length → ∃ c v, cts[i]? = some c ∧ cs[o' + i]? = some v ∧ hasCT c v := fun i hi => by
      obtain ⟨c, v, h6, h7, h8⟩ := h5 (o' + i) (by omega)
      rw [Nat.add_mod, ho1, Nat.zero_add, Nat.mod_mod, Nat.mod_eq_of_lt hi] at h6
      exact ⟨c, v, h6, h7, h8⟩
    split at hm
    · rename_i hag
      split at hm
      · rename_i hle
        cases hm
        have hlc := run_loadCells_at (P := X.P) h1 (show o' + j + d.size ≤ cs.size by omega)
        refine fin (.one (.agg (((cts.drop j).take d.size).map CT.sv))) (.agg ((cs.toList.drop (o' + j)).take d.size).toArray) ?_ ⟨_, rfl, ?_⟩ rfl
        · simp [execOp, ho, Instr.loadAt, hpv, Instr.sureAddr, loadVar, hT.isAgg hd, hag, hT.size hd, hlc]
        · have key : ∀ n j, j + n ≤ cts.length → hasL E (((cts.drop j).take n).map CT.sv) ((cs.toList.drop (o' + j)).take n) := by
            intro n
            induction n with
            | zero => intro j _; simp; trivial
            | succ n ih =>
              intro j hj
              obtain ⟨c, v, h6, h7, h8⟩ := cellAt j (by omega)
              have e1 : cts.drop j = c :: cts.drop (j + 1) := by
                have hlt := (List.getElem?_eq_some_iff.1 h6).1
                rw [List.drop_eq_getElem_cons hlt]
                rw [(List.getElem?_eq_some_iff.1 h6).2]
              have h7' : cs.toList[o' + j]? = some v := by simpa using h7
              have e2 : cs.toList.drop (o' + j) = v :: cs.toList.drop (o' + (j + 1)) := by
                have hlt := (List.getElem?_eq_some_iff.1 h7').1
                rw [List.drop_eq_getElem_cons hlt]
                rw [(List.getElem?_eq_some_iff.1 h7').2]
                rfl
              rw [e1, e2, List.take_succ_cons, List.take_succ_cons, List.map_cons]
              exact ⟨CT.sv_ok h8, ih (j + 1) (by omega)⟩
          simpa using key d.size j hle
      · cases hm
    · rename_i hag
      cases hc : cts[j]? with
      | none => rw [hc] at hm; cases hm
      | some c =>
        rw [hc] at hm
        cases hm
        obtain ⟨c', v, h6, h7, h8⟩ := cellAt j (List.getElem?_eq_some_iff.1 hc).1
        rw [hc] at h6
        cases h6
        refine fin (.one (.cell c.sv)) v ?_ (CT.sv_ok (E := E) h8) rfl
        have hl := run_load_at (P := X.P) h1 h7
        simp only [execOp, ho, Instr.loadAt, hpv, Instr.sureAddr, loadVar, Sem.run_bind, Sem.run_pure, Result.andThen_ok, hT.isAgg hd, hag]
        simp only [Bool.false_eq_true, if_false, Sem.run_bind, hl, Result.andThen_ok, Sem.run_pure]
  · cases hm
theorem wp_store (hH : X.hd = Γ.hd) {o : Oper} {t : TypeId} {x v : Operand} (ho : o.op = .store t x v) {L : List St} (hm : memOp Γ o S = some L) (hk : ∀ a' w', GoodL X E L a' w' → Kn a' w') : o.wp X.P a w Kn Q := by
  unfold memOp at hm
  simp only [ho, storeM] at hm
  have hx := h.eval x
  split at hm
  · rename_i d b off ns hd heq hcs
    have hns := cellsOf_ok hcs (h.eval v)
    rw [heq] at hx
    obtain ⟨hbl, hpv⟩ := hx
    split at hm
    · rename_i t' cs hb
      split at hm
      · rename_i hc
        obtain ⟨hc1, hc2, hc3, hc5⟩ := hc
        cases hm
        obtain ⟨h1, h2, vs, h3, h4⟩ := h.blks.at_ b t' cs hb
        have hsz : vs.size = cs.length := by rw [h4.length, Array.length_toList]
        have hlen := hns.length
        obtain ⟨w', vs', r1, r2, r3, r4⟩ := run_storeCells_at (P := X.P) (g := E.β b) (o := off) (t := t') (a.eval v).cells.toList 0 w vs h3 (by omega) (noAny_one hc3 hns)
        have hg := h.blkStore (o := off) hb r2 r3 h3 (by simpa using r4) hns (by rw [hH]; simpa using hc5)
        have hrun : (execOp a.eval o).run X.P w = .ok .skip w' := by
          have e : (a.eval v).cells.size = d.size := by rw [← Array.length_toList]; omega
          simp [execOp, ho, Instr.storeAt, hpv, Instr.sureAddr, storeVar, hT.size hd, e, r1]
        unfold Oper.wp
        rw [hrun, Oper.upon_skip]
        exact hk _ _ (GoodL.one (Rel.refl E) (hg.put o.dst (av := .any) (v := undef) trivial))
      · cases hm
    · cases hm
  · rename_i d cts j ns hd heq hcs
    have hns := cellsOf_ok hcs (h.eval v)
    rw [heq] at hx
    obtain ⟨g, o', N, hpv, hK, ho1, ho2⟩ := hx
    split at hm
    · rename_i hc
      obtain ⟨hc1, hc2, hc3, hc4⟩ := hc
      cases hm
      obtain ⟨cs, t', h1, h2, h3, h4, h5⟩ := h.kinv.rows g cts N hK
      have hlen := hns.length
      have hpat := leRow_ok hc3 rfl hc4 hns
      have hpat2 : Pat cts (o' + j) (a.eval v).cells.toList := fun i u hu => by
        obtain ⟨c, h6, h7⟩ := hpat i u hu
        refine ⟨c, ?_, h7⟩
        rw [Nat.add_assoc, Nat.add_mod, ho1, Nat.zero_add, Nat.mod_mod]
        exact h6
      obtain ⟨w', vs', r1, r2, r3, r4⟩ := run_storeCells_at (P := X.P) (g := g) (o := o' + j) (t := t') (a.eval v).cells.toList 0 w cs h1 (by omega) hpat2.one
      have hg := h.rowStore (o := o' + j) hK h1 r2 r3 (by simpa using r4) (by omega) hpat2
      have hrun : (execOp a.eval o).run X.P w = .ok .skip w' := by
        have e : (a.eval v).cells.size = d.size := by rw [← Array.length_toList]; omega
        simp [execOp, ho, Instr.storeAt, hpv, Instr.sureAddr, storeVar, hT.size hd, e, r1]
      unfold Oper.wp
      rw [hrun, Oper.upon_skip]
      exact hk _ _ (GoodL.one (Rel.refl E) (hg.put o.dst (av := .any) (v := undef) trivial))
    · cases hm
  · cases hm
end
end Go.Proofs.Ytnoelppkcbelcaa.Ty
