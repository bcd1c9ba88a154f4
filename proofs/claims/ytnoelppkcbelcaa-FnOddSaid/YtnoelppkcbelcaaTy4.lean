/-
Numbers and tests: what the operators give, by intervals.
-/
import Derived.Test.YtnoelppkcbelcaaTy3
set_option linter.unusedVariables false
set_option linter.unusedSimpArgs false
namespace Go.Proofs.Ytnoelppkcbelcaa.Ty
open Go

theorem wrap_range (k : IntKind) (n : Int) : k.min ≤ k.wrap n ∧ k.wrap n ≤ k.max := by
  cases k <;> simp only [IntKind.min, IntKind.max, IntKind.wrap, IntKind.bits, IntKind.signed] <;> simp <;> (try split) <;> omega
theorem wrap_same (k : IntKind) {n : Int} (h0 : k.min ≤ n) (h1 : n ≤ k.max) : k.wrap n = n := by
  cases k <;> simp only [IntKind.min, IntKind.max, IntKind.wrap, IntKind.bits, IntKind.signed] at * <;> simp at * <;> (try split) <;> omega
def fitSV (k : IntKind) (lo hi : Int) (sy : Option (Nat × Int)) : SV :=
  if k.min ≤ lo ∧ hi ≤ k.max then .int k lo hi sy else .int k k.min k.max none
theorem fitSV_ok {E : Env} {k : IntKind} {lo hi n : Int} {sy : Option (Nat × Int)} (h0 : lo ≤ n) (h1 : n ≤ hi) (hs : ∀ s d, sy = some (s, d) → s < E.nx ∧ n = E.σ s + d) : hasSV E (fitSV k lo hi sy) (.int k (k.wrap n)) := by
  unfold fitSV
  split
  · rename_i h
    rw [wrap_same k (by omega) (by omega)]
    exact ⟨n, rfl, h0, h1, hs⟩
  · exact ⟨_, rfl, (wrap_range k n).1, (wrap_range k n).2, fun s d h => by cases h⟩
theorem full_ok {E : Env} (k : IntKind) (n : Int) : hasSV E (.int k k.min k.max none) (.int k (k.wrap n)) :=
  ⟨_, rfl, (wrap_range k n).1, (wrap_range k n).2, fun s d h => by cases h⟩
def shiftSy : Option (Nat × Int) → Int → Option (Nat × Int)
  | some (s, d), c => some (s, d + c)
  | none, _ => none
def leF' : Option (Nat × Int) → Int → List Fact
  | some (s, d), c => [.le s (c - d)]
  | none, _ => []
def geF' : Option (Nat × Int) → Int → List Fact
  | some (s, d), c => [.ge s (c - d)]
  | none, _ => []
def ltF' : Option (Nat × Int) → Option (Nat × Int) → List Fact
  | some (s, d), some (t, e) => if d = 0 ∧ e = 0 then [.lt s t] else []
  | _, _ => []
theorem leF'_ok {E : Env} {sy : Option (Nat × Int)} {n c : Int} (hs : ∀ s d, sy = some (s, d) → s < E.nx ∧ n = E.σ s + d) (h : n ≤ c) : ∀ f ∈ leF' sy c, f.ok E := by
  intro f hf
  cases sy with
  | none => simp [leF'] at hf
  | some x =>
    obtain ⟨s, d⟩ := x
    obtain rfl : f = .le s (c - d) := by simpa [leF'] using hf
    obtain ⟨h1, h2⟩ := hs s d rfl
    exact ⟨h1, by omega⟩
theorem geF'_ok {E : Env} {sy : Option (Nat × Int)} {n c : Int} (hs : ∀ s d, sy = some (s, d) → s < E.nx ∧ n = E.σ s + d) (h : c ≤ n) : ∀ f ∈ geF' sy c, f.ok E := by
  intro f hf
  cases sy with
  | none => simp [geF'] at hf
  | some x =>
    obtain ⟨s, d⟩ := x
    obtain rfl : f = .ge s (c - d) := by simpa [geF'] using hf
    obtain ⟨h1, h2⟩ := hs s d rfl
    exact ⟨h1, by omega⟩
theorem ltF'_ok {E : Env} {sy ty : Option (Nat × Int)} {n m : Int} (hs : ∀ s d, sy = some (s, d) → s < E.nx ∧ n = E.σ s + d) (ht : ∀ s d, ty = some (s, d) → s < E.nx ∧ m = E.σ s + d) (h : n < m) : ∀ f ∈ ltF' sy ty, f.ok E := by
  intro f hf
  cases sy with
  | none => simp [ltF'] at hf
  | some x => cases ty with
    | none => simp [ltF'] at hf
    | some y =>
      obtain ⟨s, d⟩ := x
      obtain ⟨t, e⟩ := y
      simp only [ltF'] at hf
      split at hf
      · rename_i hde
        obtain rfl : f = .lt s t := by simpa using hf
        obtain ⟨h1, h2⟩ := hs s d rfl
        obtain ⟨h3, h4⟩ := ht t e rfl
        exact ⟨h1, h3, by omega⟩
      · simp at hf
def pairF (a b : List Fact) : List Fact := a ++ b
/-- x < y. -/
def lssSV (lx hx : Int) (sx : Option (Nat × Int)) (ly hy : Int) (sy : Option (Nat × Int)) : SV :=
  if hx < ly then .bool (some true) [] [] else if hy ≤ lx then .bool (some false) [] []
  else .bool none (leF' sx (hy - 1) ++ (geF' sy (lx + 1) ++ ltF' sx sy)) (geF' sx ly ++ leF' sy hx)
/-- x ≤ y. -/
def leqSV (lx hx : Int) (sx : Option (Nat × Int)) (ly hy : Int) (sy : Option (Nat × Int)) : SV :=
  if hx ≤ ly then .bool (some true) [] [] else if hy < lx then .bool (some false) [] []
  else .bool none (leF' sx hy ++ geF' sy lx) (geF' sx (ly + 1) ++ (leF' sy (hx - 1) ++ ltF' sy sx))
def neF (lx hx : Int) (sx : Option (Nat × Int)) (ly hy : Int) : List Fact :=
  if ly = hy then (if lx = ly then geF' sx (ly + 1) else []) ++ (if hx = ly then leF' sx (ly - 1) else []) else []
/-- x = y, or its contrary. -/
def eqlSV (eq : Bool) (lx hx : Int) (sx : Option (Nat × Int)) (ly hy : Int) (sy : Option (Nat × Int)) : SV :=
  if hx < ly then .bool (some (!eq)) [] [] else if hy < lx then .bool (some (!eq)) [] []
  else if lx = hx ∧ ly = hy ∧ lx = ly then .bool (some eq) [] []
  else
    let T := leF' sx hy ++ (geF' sx ly ++ (leF' sy hx ++ geF' sy lx))
    let F := neF lx hx sx ly hy ++ neF ly hy sy lx hx
    if eq then .bool none T F else .bool none F T
theorem all_app {E : Env} {a b : List Fact} (ha : ∀ f ∈ a, f.ok E) (hb : ∀ f ∈ b, f.ok E) : ∀ f ∈ a ++ b, f.ok E := by
  intro f hf
  rcases List.mem_append.1 hf with h | h
  · exact ha f h
  · exact hb f h
section
variable {E : Env} {lx hx ly hy x y : Int} {sx sy : Option (Nat × Int)} (x0 : lx ≤ x) (x1 : x ≤ hx) (xs : ∀ s d, sx = some (s, d) → s < E.nx ∧ x = E.σ s + d)
  (y0 : ly ≤ y) (y1 : y ≤ hy) (ys : ∀ s d, sy = some (s, d) → s < E.nx ∧ y = E.σ s + d)
include x0 x1 xs y0 y1 ys
theorem lssSV_ok : hasSV E (lssSV lx hx sx ly hy sy) (.bool (decide (x < y))) := by
  unfold lssSV
  split
  · exact ⟨_, rfl, fun c hc => by cases hc; exact decide_eq_true (by omega), fun _ f hf => absurd hf (by simp), fun _ f hf => absurd hf (by simp)⟩
  · split
    · exact ⟨_, rfl, fun c hc => by cases hc; exact decide_eq_false (by omega), fun _ f hf => absurd hf (by simp), fun _ f hf => absurd hf (by simp)⟩
    · refine ⟨_, rfl, fun c hc => (by cases hc), fun hb => ?_, fun hb => ?_⟩
      · have h := of_decide_eq_true hb
        exact all_app (leF'_ok xs (by omega)) (all_app (geF'_ok ys (by omega)) (ltF'_ok xs ys h))
      · have h := of_decide_eq_false hb
        exact all_app (geF'_ok xs (by omega)) (leF'_ok ys (by omega))
theorem leqSV_ok : hasSV E (leqSV lx hx sx ly hy sy) (.bool (decide (x ≤ y))) := by
  unfold leqSV
  split
  · exact ⟨_, rfl, fun c hc => by cases hc; exact decide_eq_true (by omega), fun _ f hf => absurd hf (by simp), fun _ f hf => absurd hf (by simp)⟩
  · split
    · exact ⟨_, rfl, fun c hc => by cases hc; exact decide_eq_false (by omega), fun _ f hf => absurd hf (by simp), fun _ f hf => absurd hf (by simp)⟩
    · refine ⟨_, rfl, fun c hc => (by cases hc), fun hb => ?_, fun hb => ?_⟩
      · have h := of_decide_eq_true hb
        exact all_app (leF'_ok xs (by omega)) (geF'_ok ys (by omega))
      · have h := of_decide_eq_false hb
        exact all_app (geF'_ok xs (by omega)) (all_app (leF'_ok ys (by omega)) (ltF'_ok ys xs (by omega)))
omit ys in
theorem neF_ok (h : x ≠ y) : ∀ f ∈ neF lx hx sx ly hy, f.ok E := by
  unfold neF
  split
  · refine all_app ?_ ?_
    · split
      · exact geF'_ok xs (by omega)
      · simp
    · split
      · exact leF'_ok xs (by omega)
      · simp
  · simp
omit x0 x1 xs y0 y1 ys in
theorem bool_sure {E : Env} {b : Bool} : hasSV E (.bool (some b) [] []) (.bool b) := ⟨b, rfl, fun c hc => by cases hc; rfl, fun _ f hf => absurd hf (by simp), fun _ f hf => absurd hf (by simp)⟩
theorem eqlSV_ok : hasSV E (eqlSV true lx hx sx ly hy sy) (.bool (x == y)) ∧ hasSV E (eqlSV false lx hx sx ly hy sy) (.bool (x != y)) := by
  have hT : x = y → ∀ f ∈ leF' sx hy ++ (geF' sx ly ++ (leF' sy hx ++ geF' sy lx)), f.ok E := fun h =>
    all_app (leF'_ok xs (by omega)) (all_app (geF'_ok xs (by omega)) (all_app (leF'_ok ys (by omega)) (geF'_ok ys (by omega))))
  have hF : x ≠ y → ∀ f ∈ neF lx hx sx ly hy ++ neF ly hy sy lx hx, f.ok E := fun h =>
    all_app (neF_ok x0 x1 xs y0 y1 h) (neF_ok y0 y1 ys x0 x1 (Ne.symm h))
  have hne : x ≠ y → (x == y) = false ∧ (x != y) = true := fun h => ⟨by simpa using h, by simpa using h⟩
  unfold eqlSV
  by_cases c1 : hx < ly
  · obtain ⟨e1, e2⟩ := hne (by omega)
    rw [if_pos c1, if_pos c1, e1, e2]
    exact ⟨bool_sure, bool_sure⟩
  rw [if_neg c1, if_neg c1]
  by_cases c2 : hy < lx
  · obtain ⟨e1, e2⟩ := hne (by omega)
    rw [if_pos c2, if_pos c2, e1, e2]
    exact ⟨bool_sure, bool_sure⟩
  rw [if_neg c2, if_neg c2]
  by_cases c3 : lx = hx ∧ ly = hy ∧ lx = ly
  · have e : x = y := by omega
    subst e
    rw [if_pos c3, if_pos c3]
    refine ⟨?_, ?_⟩
    · rw [show (x == x) = true by simp]; exact bool_sure
    · rw [show (x != x) = false by simp]; exact bool_sure
  rw [if_neg c3, if_neg c3]
  dsimp only
  rw [if_pos rfl, if_neg (by simp)]
  refine ⟨⟨_, rfl, fun c hc => (by cases hc), fun hb => hT (by simpa using hb), fun hb => hF (by simpa using hb)⟩, ⟨_, rfl, fun c hc => (by cases hc), fun hb => hF (by simpa using hb), fun hb => hT (by simpa using hb)⟩⟩
end
/-- An operator on two numbers of one kind. -/
def intSV (op : BinOp) (k : IntKind) (lx hx : Int) (sx : Option (Nat × Int)) (ly hy : Int) (sy : Option (Nat × Int)) : Option SV :=
  match op with
  | .add => some (fitSV k (lx + ly) (hx + hy) (if ly = hy then shiftSy sx ly else none))
  | .sub => some (fitSV k (lx - hy) (hx - ly) (if ly = hy then shiftSy sx (-ly) else none))
  | .mul => some (if 0 ≤ lx ∧ 0 ≤ ly then fitSV k (lx * ly) (hx * hy) none else .int k k.min k.max none)
  | .quo => if 0 < ly then some (if 0 ≤ lx then (if ly = hy then fitSV k (lx / ly) (hx / ly) none else fitSV k 0 hx none) else .int k k.min k.max none) else none
  | .rem => if 0 < ly then (if 0 ≤ lx then some (.int k 0 (if hx < hy - 1 then hx else hy - 1) none) else some (.int k (1 - hy) (hy - 1) none)) else none
  | .and => some (if 0 ≤ ly ∧ hy ≤ k.max then .int k 0 hy none else if 0 ≤ lx ∧ hx ≤ k.max then .int k 0 hx none else .int k k.min k.max none)
  | .or | .xor | .andNot => some (.int k k.min k.max none)
  | .lss => some (lssSV lx hx sx ly hy sy)
  | .leq => some (leqSV lx hx sx ly hy sy)
  | .gtr => some (lssSV ly hy sy lx hx sx)
  | .geq => some (leqSV ly hy sy lx hx sx)
  | .eql => some (eqlSV true lx hx sx ly hy sy)
  | .neq => some (eqlSV false lx hx sx ly hy sy)
  | _ => none
theorem emod_le {a : Int} (h : 0 ≤ a) {n : Int} (hn : 0 ≤ n) : a % n ≤ a := by
  obtain ⟨x, rfl⟩ := Int.eq_ofNat_of_zero_le h
  obtain ⟨y, rfl⟩ := Int.eq_ofNat_of_zero_le hn
  rw [← Int.natCast_emod]
  exact Int.ofNat_le.2 (Nat.mod_le x y)
theorem and_le (m : Nat) (a b : Int) (hb : 0 ≤ b) : ((BitVec.ofInt m a &&& BitVec.ofInt m b).toNat : Int) ≤ b := by
  rw [BitVec.toNat_and]
  have h1 : (BitVec.ofInt m a).toNat &&& (BitVec.ofInt m b).toNat ≤ (BitVec.ofInt m b).toNat := Nat.and_le_right
  have h2 : ((BitVec.ofInt m b).toNat : Int) ≤ b := by
    rw [BitVec.toNat_ofInt]
    have h3 : (0 : Int) ≤ b % ((2 ^ m : Nat) : Int) := Int.emod_nonneg _ (by have := Nat.two_pow_pos m; omega)
    rw [Int.toNat_of_nonneg h3]
    exact emod_le hb (by omega)
  omega
theorem and_le' (m : Nat) (a b : Int) (ha : 0 ≤ a) : ((BitVec.ofInt m a &&& BitVec.ofInt m b).toNat : Int) ≤ a := by
  rw [BitVec.and_comm]
  exact and_le m b a ha
theorem intSV_ok {P : Program} {E : Env} {op : BinOp} {k : IntKind} {lx hx ly hy x y : Int} {sx sy : Option (Nat × Int)} {r : SV} (h : intSV op k lx hx sx ly hy sy = some r)
    (x0 : lx ≤ x) (x1 : x ≤ hx) (xs : ∀ s d, sx = some (s, d) → s < E.nx ∧ x = E.σ s + d) (y0 : ly ≤ y) (y1 : y ≤ hy) (ys : ∀ s d, sy = some (s, d) → s < E.nx ∧ y = E.σ s + d) :
    ∀ t, ∃ v, (∀ w, (binOp op t (.int k x) (.int k y)).run P w = .ok v w) ∧ hasSV E r v := by
  intro tt
  have kk : ∀ (t : TypeId) (a b : Sem Value), (if k ≠ k then a else b) = b := fun _ _ _ => if_neg (by simp)
  cases op <;> simp only [intSV] at h <;> (try cases h)
  case add =>
    refine ⟨.int k (k.wrap (x + y)), fun w => by simp [binOp, Op.intArith], fitSV_ok (by omega) (by omega) fun s d hsd => ?_⟩
    split at hsd
    · cases sx with
      | none => simp [shiftSy] at hsd
      | some z =>
        obtain ⟨s', d'⟩ := z
        obtain ⟨rfl, rfl⟩ : s' = s ∧ d' + ly = d := by simpa [shiftSy] using hsd
        obtain ⟨h1, h2⟩ := xs s' d' rfl
        exact ⟨h1, by omega⟩
    · cases hsd
  case sub =>
    refine ⟨.int k (k.wrap (x - y)), fun w => by simp [binOp, Op.intArith], fitSV_ok (by omega) (by omega) fun s d hsd => ?_⟩
    split at hsd
    · cases sx with
      | none => simp [shiftSy] at hsd
      | some z =>
        obtain ⟨s', d'⟩ := z
        obtain ⟨rfl, rfl⟩ : s' = s ∧ d' + -ly = d := by simpa [shiftSy] using hsd
        obtain ⟨h1, h2⟩ := xs s' d' rfl
        exact ⟨h1, by omega⟩
    · cases hsd
  case mul =>
    refine ⟨.int k (k.wrap (x * y)), fun w => by simp [binOp, Op.intArith], ?_⟩
    split
    · rename_i hp
      exact fitSV_ok (Int.mul_le_mul x0 y0 hp.2 (by omega)) (Int.mul_le_mul x1 y1 (by omega) (by omega)) fun s d hsd => by cases hsd
    · exact full_ok k _
  case quo =>
    split at h
    · rename_i hp
      cases h
      refine ⟨.int k (k.wrap (x.tdiv y)), fun w => by simp [binOp, Op.intDiv, show y ≠ 0 by omega], ?_⟩
      split
      · rename_i hx0
        rw [Int.tdiv_eq_ediv_of_nonneg (by omega)]
        split
        · obtain rfl : ly = y := by omega
          exact fitSV_ok (Int.ediv_le_ediv hp x0) (Int.ediv_le_ediv hp x1) fun s d hsd => by cases hsd
        · refine fitSV_ok (Int.ediv_nonneg (by omega) (by omega)) ?_ fun s d hsd => by cases hsd
          exact Int.le_trans (Int.ediv_le_self y (by omega)) x1
      · exact full_ok k _
    · cases h
  case rem =>
    split at h
    · rename_i hp
      refine ⟨.int k (x.tmod y), fun w => by simp [binOp, Op.intDiv, show y ≠ 0 by omega], ?_⟩
      split at h
      · rename_i hx0
        cases h
        rw [Int.tmod_eq_emod_of_nonneg (by omega)]
        have h1 := Int.emod_nonneg x (show y ≠ 0 by omega)
        have h2 := Int.emod_lt_of_pos x (show 0 < y by omega)
        have h3 := emod_le (show 0 ≤ x by omega) (show 0 ≤ y by omega)
        refine ⟨_, rfl, h1, ?_, fun s d hsd => by cases hsd⟩
        split <;> omega
      · cases h
        have h1 := Int.tmod_lt_of_pos x (show 0 < y by omega)
        have h2 := Int.lt_tmod_of_pos x (show 0 < y by omega)
        exact ⟨_, rfl, by omega, by omega, fun s d hsd => by cases hsd⟩
    · cases h
  case and =>
    refine ⟨.int k (k.wrap ((BitVec.ofInt k.bits x &&& BitVec.ofInt k.bits y).toNat : Int)), fun w => by simp [binOp, Op.intBits], ?_⟩
    have hk : k.min ≤ 0 := by cases k <;> decide
    split
    · rename_i hp
      have h1 := and_le k.bits x y (by omega)
      rw [wrap_same k (by omega) (by omega)]
      exact ⟨_, rfl, by omega, by omega, fun s d hsd => by cases hsd⟩
    · split
      · rename_i hp
        have h1 := and_le' k.bits x y (by omega)
        rw [wrap_same k (by omega) (by omega)]
        exact ⟨_, rfl, by omega, by omega, fun s d hsd => by cases hsd⟩
      · exact full_ok k _
  case or => exact ⟨_, fun w => by simp [binOp, Op.intBits]; rfl, full_ok k _⟩
  case xor => exact ⟨_, fun w => by simp [binOp, Op.intBits]; rfl, full_ok k _⟩
  case andNot => exact ⟨_, fun w => by simp [binOp, Op.intBits]; rfl, full_ok k _⟩
  case lss => exact ⟨_, fun w => by simp [binOp, Op.intCmp], lssSV_ok x0 x1 xs y0 y1 ys⟩
  case leq => exact ⟨_, fun w => by simp [binOp, Op.intCmp], leqSV_ok x0 x1 xs y0 y1 ys⟩
  case gtr => exact ⟨_, fun w => by simp [binOp, Op.intCmp], lssSV_ok y0 y1 ys x0 x1 xs⟩
  case geq => exact ⟨_, fun w => by simp [binOp, Op.intCmp], leqSV_ok y0 y1 ys x0 x1 xs⟩
  case eql => exact ⟨_, fun w => by simp [binOp, Op.intCmp], (eqlSV_ok x0 x1 xs y0 y1 ys).1⟩
  case neq => exact ⟨_, fun w => by simp [binOp, Op.intCmp], (eqlSV_ok x0 x1 xs y0 y1 ys).2⟩
end Go.Proofs.Ytnoelppkcbelcaa.Ty
