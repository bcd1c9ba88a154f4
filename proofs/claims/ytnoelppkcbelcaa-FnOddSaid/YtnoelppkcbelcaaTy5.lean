/-
Types by a table; operations that only reckon.
-/
import Derived.Test.YtnoelppkcbelcaaTy4
import Derived.Laws.Tables
set_option linter.unusedVariables false
set_option linter.unusedSimpArgs false
namespace Go.Proofs.Ytnoelppkcbelcaa.Ty
open Go

structure TD where
  size : Nat
  bytes : Nat
  agg : Bool
  zero : Option (List SV)
  fields : Option (List (Nat × Nat × Bool))
  elem : Option TypeId
  ik : Option IntKind
  bool : Bool
def zeroSV : Value → SV
  | .bool b => .bool (some b) [] []
  | .int k n => .int k n n none
  | .string _ => .str
  | .slice none 0 0 => .nils
  | _ => .any
theorem zeroSV_ok (E : Env) (v : Value) : hasSV E (zeroSV v) v := by
  cases v with
  | bool b => exact bool_sure
  | int k n => exact ⟨n, rfl, Int.le_refl _, Int.le_refl _, fun s d h => by cases h⟩
  | string s => exact ⟨s, rfl⟩
  | slice a l c =>
    cases a with
    | some a => trivial
    | none => cases l with
      | succ l => trivial
      | zero => cases c with
        | succ c => trivial
        | zero => exact rfl
  | _ => trivial
theorem zeroL_ok (E : Env) : ∀ vs : List Value, hasL E (vs.map zeroSV) vs
  | [] => trivial
  | v :: vs => ⟨zeroSV_ok E v, zeroL_ok E vs⟩
def isRowD : TypeDesc → Bool
  | .struct _ => true
  | .array _ _ => true
  | _ => false
def mkFields (P : Program) : List Field → Option (List (Nat × Nat × Bool))
  | [] => some []
  | f :: fs => match P.info? f.type, P.underlying f.type, mkFields P fs with
    | some i, some u, some r => some ((f.offset, i.size, isRowD u) :: r)
    | _, _, _ => none
def mkTD (P : Program) (t : TypeId) : Option TD :=
  match P.info? t, P.underlying t with
  | some i, some u => some
    { size := i.size, bytes := i.bytes, agg := isRowD u, zero := i.zero.map fun z => z.cells.toList.map zeroSV,
      fields := match u with | .struct fs => mkFields P fs.toList | _ => none,
      elem := match u with | .slice e => some e | _ => none,
      ik := match u with | .int k => some k | _ => none,
      bool := match u with | .bool => true | _ => false }
  | _, _ => none
structure TabOK (P : Program) (tab : TypeId → Option TD) : Prop where
  ok : ∀ t d, tab t = some d → mkTD P t = some d
section
variable {P : Program} {tab : TypeId → Option TD}
theorem TabOK.get (h : TabOK P tab) {t : TypeId} {d : TD} (ht : tab t = some d) : ∃ i u, P.info? t = some i ∧ P.underlying t = some u ∧ d.size = i.size ∧ d.bytes = i.bytes ∧ d.agg = isRowD u ∧ d.zero = i.zero.map (fun z => z.cells.toList.map zeroSV) ∧
    d.fields = (match u with | .struct fs => mkFields P fs.toList | _ => none) ∧ d.elem = (match u with | .slice e => some e | _ => none) ∧ d.ik = (match u with | .int k => some k | _ => none) ∧ d.bool = (match u with | .bool => true | _ => false) := by
  have h1 := h.ok t d ht
  unfold mkTD at h1
  cases hi : P.info? t with
  | none => rw [hi] at h1; cases h1
  | some i => cases hu : P.underlying t with
    | none => rw [hi, hu] at h1; cases h1
    | some u =>
      rw [hi, hu] at h1
      cases h1
      exact ⟨i, u, rfl, rfl, rfl, rfl, rfl, rfl, rfl, rfl, rfl, rfl⟩
theorem TabOK.size (h : TabOK P tab) {t : TypeId} {d : TD} (ht : tab t = some d) (w : World) : (sizeOf t).run P w = .ok d.size w := by
  obtain ⟨i, u, h1, _, h2, _⟩ := h.get ht
  simp [sizeOf, typeInfo, h1, h2]
theorem TabOK.isAgg (h : TabOK P tab) {t : TypeId} {d : TD} (ht : tab t = some d) (w : World) : (isAgg t).run P w = .ok d.agg w := by
  obtain ⟨i, u, _, h1, _, _, h2, _⟩ := h.get ht
  unfold Go.isAgg
  simp only [Sem.run_bind, run_underlying h1, Result.andThen_ok]
  rw [h2]
  cases u <;> rfl
theorem TabOK.elem (h : TabOK P tab) {t e : TypeId} {d : TD} (ht : tab t = some d) (he : d.elem = some e) : P.underlying t = some (.slice e) := by
  obtain ⟨i, u, _, h1, _, _, _, _, _, h2, _⟩ := h.get ht
  rw [h2] at he
  cases u <;> first | (cases he; exact h1) | cases he
theorem TabOK.ik (h : TabOK P tab) {t : TypeId} {k : IntKind} {d : TD} (ht : tab t = some d) (he : d.ik = some k) : P.underlying t = some (.int k) := by
  obtain ⟨i, u, _, h1, _, _, _, _, _, _, h2, _⟩ := h.get ht
  rw [h2] at he
  cases u <;> first | (cases he; exact h1) | cases he
theorem TabOK.bool (h : TabOK P tab) {t : TypeId} {d : TD} (ht : tab t = some d) (he : d.bool = true) : P.underlying t = some .bool := by
  obtain ⟨i, u, _, h1, _, _, _, _, _, _, _, h2⟩ := h.get ht
  rw [h2] at he
  cases u <;> first | exact h1 | cases he
theorem mkFields_get : ∀ {fs : List Field} {r : List (Nat × Nat × Bool)}, mkFields P fs = some r → ∀ {i : Nat} {x : Nat × Nat × Bool}, r[i]? = some x → ∃ f, fs[i]? = some f ∧ x.1 = f.offset ∧ (∀ w, (sizeOf f.type).run P w = .ok x.2.1 w) ∧ ∀ w, (isAgg f.type).run P w = .ok x.2.2 w
  | [], r, h, i, x, hx => by
    cases h
    simp at hx
  | f :: fs, r, h, i, x, hx => by
    unfold mkFields at h
    cases hi : P.info? f.type with
    | none => rw [hi] at h; cases h
    | some ti => cases hu : P.underlying f.type with
      | none => rw [hi, hu] at h; cases h
      | some u => cases hr : mkFields P fs with
        | none => rw [hi, hu, hr] at h; cases h
        | some r' =>
          rw [hi, hu, hr] at h
          cases h
          cases i with
          | zero =>
            obtain rfl : (f.offset, ti.size, isRowD u) = x := by simpa using hx
            refine ⟨f, rfl, rfl, fun w => by simp [sizeOf, typeInfo, hi], fun w => ?_⟩
            unfold Go.isAgg
            simp only [Sem.run_bind, run_underlying hu, Result.andThen_ok]
            cases u <;> rfl
          | succ i =>
            obtain ⟨f', h1, h2⟩ := mkFields_get hr (i := i) (x := x) (by simpa using hx)
            exact ⟨f', by simpa using h1, h2⟩
theorem mkFields_places : ∀ {fs : List Field} {r : List (Nat × Nat × Bool)}, mkFields P fs = some r → fs.mapM (fun f => (P.info? f.type).map fun i => (f.offset, i.size)) = some (r.map fun x => (x.1, x.2.1))
  | [], r, h => by cases h; rfl
  | f :: fs, r, h => by
    unfold mkFields at h
    cases hi : P.info? f.type with
    | none => rw [hi] at h; cases h
    | some ti => cases hu : P.underlying f.type with
      | none => rw [hi, hu] at h; cases h
      | some u => cases hr : mkFields P fs with
        | none => rw [hi, hu, hr] at h; cases h
        | some r' =>
          rw [hi, hu, hr] at h
          cases h
          simp [List.mapM_cons, hi, mkFields_places hr]
theorem TabOK.fields (h : TabOK P tab) {t : TypeId} {d : TD} (ht : tab t = some d) {r : List (Nat × Nat × Bool)} (hr : d.fields = some r) : ∃ fs, P.underlying t = some (.struct fs) ∧ mkFields P fs.toList = some r := by
  obtain ⟨i, u, _, h1, _, _, _, _, h2, _⟩ := h.get ht
  rw [h2] at hr
  cases u <;> first | exact ⟨_, h1, hr⟩ | cases hr

def constAV : Value → AV
  | .agg cs => .one (.agg (cs.toList.map zeroSV))
  | v => .one (.cell (zeroSV v))
theorem constAV_ok (E : Env) (v : Value) : hasAV E (constAV v) v := by
  have h := zeroSV_ok E v
  cases v with
  | agg cs => exact ⟨cs, rfl, zeroL_ok E _⟩
  | _ => exact h
def St.eval (S : St) : Operand → AV
  | .tmp t => getT S.tmps t
  | .const v => constAV v
  | _ => .any
theorem Good.eval {X : Ctx} {E : Env} {S : St} {a : Act} {w : World} (h : Good X E S a w) (x : Operand) : hasAV E (S.eval x) (a.eval x) := by
  cases x with
  | tmp t => exact h.tmps t
  | const v => exact constAV_ok E v
  | _ => trivial
def setR : List SV → Nat → List SV → List SV
  | cs, _, [] => cs
  | cs, o, n :: ns => setR (cs.set o n) (o + 1) ns
def setV : List Value → Nat → List Value → List Value
  | vs, _, [] => vs
  | vs, o, n :: ns => setV (vs.set o n) (o + 1) ns
theorem setR_ok {E : Env} : ∀ {ns : List SV} {us : List Value} {cs : List SV} {vs : List Value} (o : Nat), hasL E cs vs → hasL E ns us → hasL E (setR cs o ns) (setV vs o us)
  | [], [], _, _, _, h, _ => h
  | [], _ :: _, _, _, _, _, h => h.elim
  | _ :: _, [], _, _, _, _, h => h.elim
  | n :: ns, u :: us, cs, vs, o, h, hn => setR_ok (ns := ns) (us := us) (o + 1) (h.set o hn.1) hn.2
theorem setR_length : ∀ (ns cs : List SV) (o : Nat), (setR cs o ns).length = cs.length
  | [], _, _ => rfl
  | n :: ns, cs, o => by rw [setR, setR_length ns, List.length_set]
theorem fold_setV : ∀ (us : List Value) (k off : Nat) (cells : Array Value), ((us.zipIdx k).foldl (fun (cs : Array Value) x => cs.setIfInBounds (off + x.2) x.1) cells).toList = setV cells.toList (off + k) us
  | [], _, _, _ => rfl
  | u :: us, k, off, cells => by
    rw [List.zipIdx_cons, List.foldl_cons, fold_setV us (k + 1) off, Array.toList_setIfInBounds]
    rfl
def fillSV (pl : List (Nat × Nat × Bool)) : List SV → List (Nat × List SV) → Option (List SV)
  | cs, [] => some cs
  | cs, (i, ns) :: r => match pl[i]? with
    | none => none
    | some x => if ns.length = x.2.1 ∧ x.1 + ns.length ≤ cs.length then fillSV pl (setR cs x.1 ns) r else none
def partsL (E : Env) : List (Nat × List SV) → List (Nat × Value) → Prop
  | [], [] => True
  | (i, ns) :: r, (j, v) :: s => i = j ∧ hasL E ns v.cells.toList ∧ partsL E r s
  | _, _ => False
theorem fillSV_ok {E : Env} {pl : List (Nat × Nat × Bool)} {place : Nat → Option (Nat × Nat)} (hp : ∀ i x, pl[i]? = some x → place i = some (x.1, x.2.1)) :
    ∀ {ps : List (Nat × List SV)} {vs : List (Nat × Value)} {cs : List SV} {cells : Array Value} {cs' : List SV}, fillSV pl cs ps = some cs' → partsL E ps vs → hasL E cs cells.toList → ∃ cells', Instr.fill place cells vs = some cells' ∧ hasL E cs' cells'.toList
  | [], [], cs, cells, cs', h, _, hc => by cases h; exact ⟨cells, rfl, hc⟩
  | [], _ :: _, _, _, _, _, h, _ => h.elim
  | (_, _) :: _, [], _, _, _, _, h, _ => h.elim
  | (i, ns) :: r, (j, v) :: s, cs, cells, cs', h, hps, hc => by
    obtain ⟨rfl, h1, h2⟩ := hps
    unfold fillSV at h
    cases hx : pl[i]? with
    | none => rw [hx] at h; cases h
    | some x =>
      rw [hx] at h
      simp only at h
      split at h
      · rename_i hl
        have e1 : v.cells.size = ns.length := by rw [h1.length, Array.length_toList]
        have e2 : cells.size = cs.length := by rw [hc.length, Array.length_toList]
        unfold Instr.fill
        rw [hp i x hx]
        simp only
        rw [if_neg (by simp; omega)]
        have e3 : (Array.foldl (fun (cs : Array Value) (x_1 : Value × Nat) => cs.setIfInBounds (x.1 + x_1.2) x_1.1) cells v.cells.zipIdx).toList = setV cells.toList x.1 v.cells.toList := by
          rw [← Array.foldl_toList, Array.toList_zipIdx]
          exact fold_setV _ 0 _ _
        exact fillSV_ok hp h h2 (by rw [e3]; exact setR_ok _ hc h1)
      · cases h
def cellsOf : AV → Option (List SV)
  | .one (.cell .any) => none
  | .one (.cell s) => some [s]
  | .one (.agg cs) => some cs
  | _ => none
theorem cellsOf_ok {E : Env} {av : AV} {cs : List SV} (h : cellsOf av = some cs) {v : Value} (hv : hasAV E av v) : hasL E cs v.cells.toList := by
  cases av with
  | any => cases h
  | tup vs => cases h
  | one x => cases x with
    | agg cs' => cases h; obtain ⟨vs, rfl, h1⟩ := hv; exact h1
    | cell s =>
      have : v.cells.toList = [v] := by
        cases s with
        | any => cases h
        | bool t ft ff => obtain ⟨b, rfl, _⟩ := hv; rfl
        | int k lo hi sy => obtain ⟨b, rfl, _⟩ := hv; rfl
        | str => obtain ⟨b, rfl⟩ := hv; rfl
        | ptr b o => obtain ⟨_, rfl⟩ := hv; rfl
        | eptr c j => obtain ⟨g, o, n, rfl, _⟩ := hv; rfl
        | cur => obtain ⟨g, rfl, _⟩ := hv; rfl
        | nils => have e : v = .slice none 0 0 := hv; rw [e]; rfl
        | slice c lo hi sy => obtain ⟨a, l, c, rfl, _⟩ := hv; rfl
      rw [this]
      cases s <;> first | (cases h; exact ⟨hv, trivial⟩) | cases h
theorem cellsOne (E : Env) {s : SV} {v : Value} (h : hasSV E s v) (hs : s ≠ .any) : v.oneCell' = true := by
  cases s with
  | any => exact absurd rfl hs
  | bool t ft ff => obtain ⟨b, rfl, _⟩ := h; rfl
  | int k lo hi sy => obtain ⟨b, rfl, _⟩ := h; rfl
  | str => obtain ⟨b, rfl⟩ := h; rfl
  | ptr b o => obtain ⟨_, rfl⟩ := h; rfl
  | eptr c j => obtain ⟨g, o, n, rfl, _⟩ := h; rfl
  | cur => obtain ⟨g, rfl, _⟩ := h; rfl
  | nils => have e : v = .slice none 0 0 := h; rw [e]; rfl
  | slice c lo hi sy => obtain ⟨a, l, c, rfl, _⟩ := h; rfl
end
end Go.Proofs.Ytnoelppkcbelcaa.Ty
