/-
Operations that only reckon: what they yield, whatever memory is.
-/
import Derived.Test.YtnoelppkcbelcaaTy5
set_option linter.unusedVariables false
set_option linter.unusedSimpArgs false
namespace Go.Proofs.Ytnoelppkcbelcaa.Ty
open Go

def partAbs (ρ : Operand → AV) : List (Nat × Operand) → Option (List (Nat × List SV))
  | [] => some []
  | (i, x) :: r => match cellsOf (ρ x), partAbs ρ r with
    | some cs, some r' => some ((i, cs) :: r')
    | _, _ => none
theorem partAbs_ok {E : Env} {ρ : Operand → AV} {e : Operand → Value} (h : ∀ x, hasAV E (ρ x) (e x)) : ∀ {ps : List (Nat × Operand)} {r : List (Nat × List SV)}, partAbs ρ ps = some r → partsL E r (ps.map fun (i, x) => (i, e x))
  | [], r, hr => by cases hr; trivial
  | (i, x) :: ps, r, hr => by
    unfold partAbs at hr
    cases h1 : cellsOf (ρ x) with
    | none => rw [h1] at hr; cases hr
    | some cs => cases h2 : partAbs ρ ps with
      | none => rw [h1, h2] at hr; cases hr
      | some r' =>
        rw [h1, h2] at hr
        cases hr
        exact ⟨rfl, cellsOf_ok h1 (h x), partAbs_ok h h2⟩
/-- Is the place within the row? -/
def inRow (lt : List (Nat × Nat)) (lo hi : Int) (sy : Option (Nat × Int)) (l : Nat) (ls : Option Nat) : Bool :=
  decide (0 ≤ lo) && (decide (hi < l) || match sy, ls with
    | some (s, d), some t => decide (d = 0) && memP s t lt
    | _, _ => false)
def pickP (tab : TypeId → Option TD) (lt : List (Nat × Nat)) (ρ : Operand → AV) (c x y : Operand) : Option AV := match ρ c with
    | .one (.cell (.bool (some b) _ _)) => some (if b then ρ x else ρ y)
    | _ => none
def nilP (tab : TypeId → Option TD) (lt : List (Nat × Nat)) (ρ : Operand → AV) (x : Operand) : Option AV := match ρ x with
    | .one (.cell (.ptr b o)) => some (.one (.cell (.ptr b o)))
    | .one (.cell (.eptr c j)) => some (.one (.cell (.eptr c j)))
    | .one (.cell .cur) => some (.one (.cell .cur))
    | _ => none
def binP (tab : TypeId → Option TD) (lt : List (Nat × Nat)) (ρ : Operand → AV) (op : BinOp) (t : TypeId) (x y : Operand) : Option AV := match ρ x, ρ y with
    | .one (.cell (.int k lx hx sx)), .one (.cell (.int k' ly hy sy)) => if k = k' then (intSV op k lx hx sx ly hy sy).map fun s => .one (.cell s) else none
    | .one (.cell .str), .one (.cell .str) => match op with
      | .eql => some (.one (.cell (.bool none [] [])))
      | .neq => some (.one (.cell (.bool none [] [])))
      | _ => none
    | .one (.cell (.bool _ _ _)), .one (.cell (.bool _ _ _)) => match tab t with
      | some d => if d.bool = true then (match op with
        | .eql => some (.one (.cell (.bool none [] [])))
        | .neq => some (.one (.cell (.bool none [] [])))
        | _ => none) else none
      | none => none
    | _, _ => none
def unP (tab : TypeId → Option TD) (lt : List (Nat × Nat)) (ρ : Operand → AV) (op : UnOp) (x : Operand) : Option AV := match op, ρ x with
    | .not, .one (.cell (.bool t ft ff)) => some (.one (.cell (.bool (t.map not) ff ft)))
    | .neg, .one (.cell (.int k lo hi sy)) => some (.one (.cell (fitSV k (0 - hi) (0 - lo) none)))
    | .xor, .one (.cell (.int k lo hi sy)) => some (.one (.cell (.int k k.min k.max none)))
    | _, _ => none
def convP (tab : TypeId → Option TD) (lt : List (Nat × Nat)) (ρ : Operand → AV) (s t : TypeId) (x : Operand) : Option AV := match tab s, tab t, ρ x with
    | some _, some d, .one (.cell (.int k lo hi sy)) => d.ik.map fun k' => .one (.cell (fitSV k' lo hi sy))
    | _, _, _ => none
def faddrP (tab : TypeId → Option TD) (lt : List (Nat × Nat)) (ρ : Operand → AV) (t : TypeId) (x : Operand) (f : Nat) : Option AV := match tab t with
    | some d => match d.fields with
      | some fs => match fs[f]?, ρ x with
        | some g, .one (.cell (.ptr b o)) => if g.2.1 = 0 then none else some (.one (.cell (.ptr b (o + g.1))))
        | some g, .one (.cell (.eptr c j)) => if g.2.1 = 0 then none else some (.one (.cell (.eptr c (j + g.1))))
        | _, _ => none
      | none => none
    | none => none
def fieldP (tab : TypeId → Option TD) (lt : List (Nat × Nat)) (ρ : Operand → AV) (t : TypeId) (x : Operand) (f : Nat) : Option AV := match tab t with
    | some d => match d.fields with
      | some fs => match fs[f]?, ρ x with
        | some g, .one (.agg cs) => if g.2.2 = true then some (.one (.agg ((cs.drop g.1).take g.2.1))) else (cs[g.1]?).map fun s => .one (.cell s)
        | _, _ => none
      | none => none
    | none => none
def iaddrP (tab : TypeId → Option TD) (lt : List (Nat × Nat)) (ρ : Operand → AV) (t : TypeId) (x i : Operand) : Option AV := match tab t, ρ x, ρ i with
    | some d, .one (.cell (.slice c l h sl)), .one (.cell (.int _ lo hi sy)) => match d.elem with
      | some e => match tab e with
        | some de => if de.size = c.length ∧ inRow lt lo hi sy l sl = true then some (.one (.cell (.eptr c 0))) else none
        | none => none
      | none => none
    | _, _, _ => none
def extrP (tab : TypeId → Option TD) (lt : List (Nat × Nat)) (ρ : Operand → AV) (x : Operand) (i : Nat) : Option AV := match ρ x with
    | .tup vs => (vs[i]?).map .one
    | _ => none
def buildP (tab : TypeId → Option TD) (lt : List (Nat × Nat)) (ρ : Operand → AV) (t : TypeId) (ps : Array (Nat × Operand)) : Option AV := match tab t with
    | some d => match d.fields, d.zero, partAbs ρ ps.toList with
      | some fs, some z, some r => (fillSV fs z r).map fun cs => .one (.agg cs)
      | _, _, _ => none
    | none => none
def lenP (tab : TypeId → Option TD) (lt : List (Nat × Nat)) (ρ : Operand → AV) (c : Call) : Option AV := match c.callee, c.args.toList, c.argTypes.toList with
    | .builtin .len, [x], [t] => match tab t, ρ x with
      | some d, .one (.cell (.slice _ lo hi sy)) => if d.elem.isSome then some (.one (.cell (.int .i64 lo hi (sy.map fun s => (s, 0))))) else none
      | some d, .one (.cell .nils) => if d.elem.isSome then some (.one (.cell (.int .i64 0 0 none))) else none
      | _, _ => none
    | _, _, _ => none
def pureOp (tab : TypeId → Option TD) (lt : List (Nat × Nat)) (ρ : Operand → AV) : Op → Option AV
  | .move x => some (ρ x)
  | .assign x => some (ρ x)
  | .pick c x y => pickP tab lt ρ c x y
  | .nilCheck x => nilP tab lt ρ x
  | .binOp op t x y _ => binP tab lt ρ op t x y
  | .unOp op _ x => unP tab lt ρ op x
  | .convert s t x => convP tab lt ρ s t x
  | .fieldAddr t x f => faddrP tab lt ρ t x f
  | .field t x f => fieldP tab lt ρ t x f
  | .indexAddr t x i => iaddrP tab lt ρ t x i
  | .extract x i => extrP tab lt ρ x i
  | .build t ps => buildP tab lt ρ t ps
  | .call c => lenP tab lt ρ c
  | _ => none
theorem lt_of {α : Type} {E : Env} {lt : List (Nat × Nat)} (hl : ∀ x y, (x, y) ∈ lt → x < E.nx ∧ y < E.nx ∧ E.σ x < E.σ y) {s t : Nat} (h : memP s t lt = true) : E.σ s < E.σ t := (hl s t (memP_mem h)).2.2
theorem addr_add (a : Addr) (n : Nat) (h : a.spot = none) : a.add n = ⟨a.block, a.off + n, none⟩ := by
  cases a with
  | mk b o s =>
    have hs : s = none := h
    subst hs
    exact Addr.add_lit b o n
set_option maxHeartbeats 1000000 in
theorem pureOp_ok {P : Program} {tab : TypeId → Option TD} (hT : TabOK P tab) {E : Env} {lt : List (Nat × Nat)} (hl : ∀ x y, (x, y) ∈ lt → x < E.nx ∧ y < E.nx ∧ E.σ x < E.σ y)
    {ρ : Operand → AV} {e : Operand → Value} (he : ∀ x, hasAV E (ρ x) (e x)) (o : Oper) {av : AV} (h : pureOp tab lt ρ o.op = some av) :
    ∃ v, (∀ w, (execOp e o).run P w = .ok (.value v) w) ∧ hasAV E av v := by
  obtain ⟨dst, op, ty, pos, after, guard⟩ := o
  simp only at h
  cases op <;> simp only [pureOp, pickP, nilP, binP, unP, convP, faddrP, fieldP, iaddrP, extrP, buildP, lenP] at h <;> (try (cases h; done))
  case move x => cases h; exact ⟨e x, fun w => by simp [execOp], he x⟩
  case assign x => cases h; exact ⟨e x, fun w => by simp [execOp], he x⟩
  case pick c x y =>
    have hc := he c
    split at h
    · rename_i b ft ff heq
      cases h
      rw [heq] at hc
      obtain ⟨b', hb, h1, _⟩ := hc
      obtain rfl := h1 b rfl
      refine ⟨if b' then e x else e y, fun w => by simp [execOp, hb, asBool], ?_⟩
      cases b'
      · exact he y
      · exact he x
    · cases h
  case nilCheck x =>
    have hx := he x
    split at h <;> first | cases h | skip
    · rename_i b o heq
      rw [heq] at hx
      obtain ⟨h1, h2⟩ := hx
      exact ⟨e x, fun w => by simp [execOp, h2], by exact ⟨h1, h2⟩⟩
    · rename_i c j heq
      rw [heq] at hx
      obtain ⟨g, o, n, h2, h3⟩ := hx
      exact ⟨e x, fun w => by simp [execOp, h2], by exact ⟨g, o, n, h2, h3⟩⟩
    · rename_i heq
      rw [heq] at hx
      obtain ⟨g, h2, h3⟩ := hx
      exact ⟨e x, fun w => by simp [execOp, h2], by exact ⟨g, h2, h3⟩⟩
  case binOp op t x y t2 =>
    have hx := he x
    have hy := he y
    split at h
    · rename_i k lx hx' sx k' ly hy' sy heq1 heq2
      split at h
      · rename_i hk
        subst hk
        rw [heq1] at hx
        rw [heq2] at hy
        obtain ⟨n, hn, n0, n1, n2⟩ := hx
        obtain ⟨m, hm, m0, m1, m2⟩ := hy
        cases hr : intSV op k lx hx' sx ly hy' sy with
        | none => rw [hr] at h; cases h
        | some r =>
          rw [hr] at h
          cases h
          obtain ⟨v, h1, h2⟩ := intSV_ok (P := P) hr n0 n1 n2 m0 m1 m2 t
          refine ⟨v, fun w => ?_, h2⟩
          simp only [execOp, hn, hm, eqGuard]
          have h3 := h1 w
          cases op <;> simp [h3]
      · cases h
    · rename_i heq1 heq2
      rw [heq1] at hx
      rw [heq2] at hy
      obtain ⟨n, hn⟩ := hx
      obtain ⟨m, hm⟩ := hy
      cases op <;> first | (cases h; done) | skip
      · cases h
        exact ⟨.bool (n.toList == m.toList), fun w => by simp [execOp, hn, hm, eqGuard, binOp, Op.stringOp], ⟨_, rfl, fun c hc => (by cases hc), fun _ f hf => absurd hf (by simp), fun _ f hf => absurd hf (by simp)⟩⟩
      · cases h
        exact ⟨.bool (!(n.toList == m.toList)), fun w => by simp [execOp, hn, hm, eqGuard, binOp, Op.stringOp], ⟨_, rfl, fun c hc => (by cases hc), fun _ f hf => absurd hf (by simp), fun _ f hf => absurd hf (by simp)⟩⟩
    · rename_i heq1 heq2
      rw [heq1] at hx
      rw [heq2] at hy
      obtain ⟨n, hn, _⟩ := hx
      obtain ⟨m, hm, _⟩ := hy
      split at h
      · rename_i d hd
        split at h
        · rename_i hb
          have hu := hT.bool hd hb
          have hq : ∀ w, (Op.equal t (.bool n) (.bool m)).run P w = .ok (n == m) w := fun w => by
            unfold Op.equal Op.maxDepth
            rw [Op.equalIn]
            simp [run_underlying hu]
          cases op <;> first | (cases h; done) | skip
          · cases h
            exact ⟨.bool (n == m), fun w => by simp [execOp, hn, hm, eqGuard, binOp, hq], ⟨_, rfl, fun c hc => (by cases hc), fun _ f hf => absurd hf (by simp), fun _ f hf => absurd hf (by simp)⟩⟩
          · cases h
            exact ⟨.bool (!(n == m)), fun w => by simp [execOp, hn, hm, eqGuard, binOp, hq], ⟨_, rfl, fun c hc => (by cases hc), fun _ f hf => absurd hf (by simp), fun _ f hf => absurd hf (by simp)⟩⟩
        · cases h
      · cases h
    · cases h
  case unOp op t x =>
    have hx := he x
    split at h <;> first | (cases h; done) | skip
    · rename_i t' ft ff heq
      cases h
      rw [heq] at hx
      obtain ⟨b, hb, h1, h2, h3⟩ := hx
      refine ⟨.bool (!b), fun w => by simp [execOp, hb, Op.unary], ⟨!b, rfl, fun c hc => ?_, fun hc => h3 (by simpa using hc), fun hc => h2 (by simpa using hc)⟩⟩
      cases t' with
      | none => cases hc
      | some t' => cases hc; rw [h1 t' rfl]
    · rename_i k lo hi sy heq
      cases h
      rw [heq] at hx
      obtain ⟨n, hn, n0, n1, _⟩ := hx
      exact ⟨.int k (k.wrap (0 - n)), fun w => by simp [execOp, hn, Op.unary, Op.intArith], fitSV_ok (by omega) (by omega) fun s d hs => (by cases hs)⟩
    · rename_i k lo hi sy heq
      cases h
      rw [heq] at hx
      obtain ⟨n, hn, n0, n1, _⟩ := hx
      exact ⟨_, fun w => by simp [execOp, hn, Op.unary, Op.intBits]; rfl, full_ok k _⟩
  case convert s t x =>
    have hx := he x
    split at h
    · rename_i ds d k lo hi sy hs ht heq
      rw [heq] at hx
      obtain ⟨n, hn, n0, n1, n2⟩ := hx
      cases hk : d.ik with
      | none => rw [hk] at h; cases h
      | some k' =>
        rw [hk] at h
        cases h
        obtain ⟨_, us, _, hus, _⟩ := hT.get hs
        have hut := hT.ik ht hk
        refine ⟨.int k' (k'.wrap n), fun w => ?_, fitSV_ok n0 n1 n2⟩
        simp only [execOp, hn, convert, Sem.run_bind, run_underlying hus, run_underlying hut, Result.andThen_ok]
        cases us <;> simp [Conv.intToInt]
    · cases h
  case fieldAddr t x f =>
    have hx := he x
    split at h
    · rename_i d hd
      split at h
      · rename_i fs hfs
        obtain ⟨fs', hu, hmk⟩ := hT.fields hd hfs
        have key : ∀ (g : Nat × Nat × Bool), fs[f]? = some g → g.2.1 ≠ 0 → ∀ (ad : Addr), ad.spot = none → e x = .pointer (some ad) → ∀ w, (execOp e ⟨dst, .fieldAddr t x f, ty, pos, after, guard⟩).run P w = .ok (.value (.pointer (some ⟨ad.block, ad.off + g.1, none⟩))) w := by
          intro g hg h0 ad had hex w
          obtain ⟨ff, h1, h2, h3, h4⟩ := mkFields_get hmk hg
          have h5 : fs'[f]? = some ff := by simpa using h1
          simp [execOp, Instr.fieldAt, run_underlying hu, h5, hex, Instr.sureAddr, fieldPlace, h3 w, h0, addr_add ad _ had, ← h2]
        split at h <;> first | (cases h; done) | skip
        · rename_i g b o hg heq
          rw [heq] at hx
          obtain ⟨h1, h2⟩ := hx
          split at h
          · cases h
          · rename_i h0
            cases h
            exact ⟨_, key g hg h0 _ rfl h2, h1, rfl⟩
        · rename_i g c j hg heq
          rw [heq] at hx
          obtain ⟨gg, o, n, h2, h3⟩ := hx
          split at h
          · cases h
          · rename_i h0
            cases h
            exact ⟨_, key g hg h0 _ rfl h2, gg, o, n, by simp only [Nat.add_assoc], h3⟩
      · cases h
    · cases h
  case field t x f =>
    have hx := he x
    split at h
    · rename_i d hd
      split at h
      · rename_i fs hfs
        obtain ⟨fs', hu, hmk⟩ := hT.fields hd hfs
        split at h <;> first | (cases h; done) | skip
        rename_i g cs hg heq
        rw [heq] at hx
        obtain ⟨vs, hv, hL⟩ := hx
        obtain ⟨ff, h1, h2, h3, h4⟩ := mkFields_get hmk hg
        have h5 : fs'[f]? = some ff := by simpa using h1
        split at h
        · rename_i hag
          cases h
          refine ⟨.agg (vs.extract g.1 (g.1 + g.2.1)), fun w => ?_, ⟨_, rfl, ?_⟩⟩
          · simp [execOp, Instr.field, run_underlying hu, h5, hv, asAgg, part, h4 w, hag, h3 w, ← h2]
          · rw [Array.toList_extract, List.extract_eq_take_drop, Nat.add_sub_cancel_left]
            exact (hL.drop _).take _
        · rename_i hag
          cases hc : cs[g.1]? with
          | none => rw [hc] at h; cases h
          | some s =>
            rw [hc] at h
            cases h
            obtain ⟨u, hu1, hu2⟩ := hL.get hc
            have hu3 : vs[g.1]? = some u := by simpa using hu1
            refine ⟨u, fun w => ?_, hu2⟩
            simp [execOp, Instr.field, run_underlying hu, h5, hv, asAgg, part, h4 w, hag, ← h2, hu3]
      · cases h
    · cases h
  case indexAddr t x i =>
    have hx := he x
    have hi := he i
    split at h
    · rename_i d c l hh sl k lo hi' sy hd heq1 heq2
      split at h
      · rename_i ee hee
        split at h
        · rename_i de hde
          split at h
          · rename_i hcond
            cases h
            rw [heq1] at hx
            rw [heq2] at hi
            obtain ⟨a, ll, cc, hv, l0, l1, l2, l3, l4, l5⟩ := hx
            obtain ⟨n, hn, n0, n1, n2⟩ := hi
            obtain ⟨hsz, hin⟩ := hcond
            unfold inRow at hin
            simp only [Bool.and_eq_true, Bool.or_eq_true, decide_eq_true_eq] at hin
            obtain ⟨z0, z1⟩ := hin
            have hlt : n < ll := by
              rcases z1 with z1 | z1
              · omega
              · cases sy with
                | none => simp at z1
                | some q => cases sl with
                  | none => simp at z1
                  | some u =>
                    obtain ⟨s, dd⟩ := q
                    simp only [Bool.and_eq_true, decide_eq_true_eq] at z1
                    have a1 := (n2 s dd rfl).2
                    have a2 := (l3 u rfl).2
                    have a3 := (hl s u (memP_mem z1.2)).2.2
                    omega
            have hu := hT.elem hd hee
            cases a with
            | none => have := l4 rfl; omega
            | some ad =>
              obtain ⟨b1, N, b2, b3, b4⟩ := l5 ad rfl
              refine ⟨.pointer (some ⟨ad.block, ad.off + n.toNat * de.size, none⟩), fun w => ?_, ad.block, ad.off + n.toNat * c.length, N, by rw [hsz]; rfl, b2, ?_, ?_⟩
              · have h0 : 0 ≤ n := by omega
                simp [execOp, Instr.indexAt, hv, hn, asIntOf, run_underlying hu, h0, hlt, hT.size hde w, addr_add ad _ b1]
              · rw [Nat.add_mul_mod_self_right]; exact b3
              · have h6 : n.toNat + 1 ≤ cc := by omega
                have h7 := Nat.mul_le_mul_right c.length h6
                rw [Nat.succ_mul] at h7
                omega
          · cases h
        · cases h
      · cases h
    · cases h
  case extract x i =>
    have hx := he x
    split at h
    · rename_i vs heq
      rw [heq] at hx
      obtain ⟨us, hv, hL⟩ := hx
      cases hc : vs[i]? with
      | none => rw [hc] at h; cases h
      | some s =>
        rw [hc] at h
        cases h
        obtain ⟨u, h1, h2⟩ := hL.get hc
        have h3 : us[i]? = some u := by simpa using h1
        exact ⟨u, fun w => by simp [execOp, hv, Instr.extract, h3], h2⟩
    · cases h
  case build t ps =>
    split at h
    · rename_i d hd
      split at h
      · rename_i fs z r hfs hz hr
        obtain ⟨fs', hu, hmk⟩ := hT.fields hd hfs
        obtain ⟨it, u, h1, _, _, _, _, h2, _⟩ := hT.get hd
        cases hf : fillSV fs z r with
        | none => rw [hf] at h; cases h
        | some cs =>
          rw [hf] at h
          cases h
          rw [h2] at hz
          cases hiz : it.zero with
          | none => rw [hiz] at hz; cases hz
          | some zv =>
            rw [hiz] at hz
            cases hz
            have hparts := partAbs_ok he hr
            have hpl := mkFields_places hmk
            obtain ⟨cells', h3, h4⟩ := fillSV_ok (place := ((fs.map fun x => (x.1, x.2.1)).toArray[·]?)) (fun i x hx => by simp [hx]) hf hparts (zeroL_ok E _)
            refine ⟨.agg cells', fun w => ?_, ⟨cells', rfl, h4⟩⟩
            have hb : P.built t (ps.map fun (i, x) => (i, e x)).toList = some cells' := by
              unfold Program.built
              simp only [h1, hu, hiz, hpl]
              simpa using h3
            simp only [execOp, Sem.run_bind, run_build w t _ cells' hb, Result.andThen_ok, Sem.run_pure]
      · cases h
    · cases h
  case call c =>
    obtain ⟨callee, args, argTypes⟩ := c
    simp only at h
    split at h
    · rename_i x t hargs htys
      have hx := he x
      have ea : args = #[x] := by rw [← Array.toArray_toList (xs := args), hargs]
      have et : argTypes = #[t] := by rw [← Array.toArray_toList (xs := argTypes), htys]
      subst ea et
      split at h <;> first | (cases h; done) | skip
      · rename_i d c lo hi sy hd heq
        split at h
        · rename_i hes
          cases h
          rw [heq] at hx
          obtain ⟨ee, hee⟩ := Option.isSome_iff_exists.1 hes
          have hu := hT.elem hd hee
          obtain ⟨a, l, cc, hv, l0, l1, l2, l3, _⟩ := hx
          refine ⟨.int .i64 l, fun w => ?_, ⟨(l : Int), rfl, by omega, by omega, fun s dd hs => ?_⟩⟩
          · simp [execOp, resolve, invoke, builtin, Builtin.len_, hv, run_underlying hu, goInt]
          · cases sy with
            | none => cases hs
            | some q =>
              obtain ⟨rfl, rfl⟩ : q = s ∧ 0 = dd := by simpa using hs
              obtain ⟨z1, z2⟩ := l3 q rfl
              exact ⟨z1, by omega⟩
        · cases h
      · rename_i d hd heq
        split at h
        · rename_i hes
          cases h
          rw [heq] at hx
          obtain ⟨ee, hee⟩ := Option.isSome_iff_exists.1 hes
          have hu := hT.elem hd hee
          have hv : e x = .slice none 0 0 := hx
          refine ⟨.int .i64 0, fun w => ?_, ⟨0, rfl, by omega, by omega, fun s dd hs => (by cases hs)⟩⟩
          simp [execOp, resolve, invoke, builtin, Builtin.len_, hv, run_underlying hu, goInt]
        · cases h
    · cases h
end Go.Proofs.Ytnoelppkcbelcaa.Ty
