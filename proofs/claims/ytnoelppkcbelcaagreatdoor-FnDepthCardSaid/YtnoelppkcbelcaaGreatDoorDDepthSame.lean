/-
Depths: the reference's depths and the program's depths are the same.
-/
import Derived.Test.YtnoelppkcbelcaaGreatDoorMDx0
import Derived.Test.YtnoelppkcbelcaaGreatDoorMDx1
import Derived.Test.YtnoelppkcbelcaaGreatDoorMDx2
import Derived.Test.YtnoelppkcbelcaaGreatDoorMDx3
import Derived.Test.YtnoelppkcbelcaaGreatDoorMDx5
import Derived.Test.YtnoelppkcbelcaaGreatDoorDOpName
import Derived.Test.YtnoelppkcbelcaaGreatDoorBit
import Derived.Test.YtnoelppkcbelcaaGreatDoorLst
set_option linter.unusedSimpArgs false
set_option linter.unusedVariables false
namespace Go.Proofs.YtnoelppkcbelcaaGreatDoor.MDS
open Go.RowKit Go.Proofs.YtnoelppkcbelcaaGreatDoor.MD Go.Proofs.YtnoelppkcbelcaaGreatDoorW.PrintWords Go.Proofs.YtnoelppkcbelcaaGreatDoorW.PrintLast Go.Proofs.YtnoelppkcbelcaaGreatDoor.Lst Go.Proofs.YtnoelppkcbelcaaGreatDoor.MDO

abbrev L := List S62
theorem in_spec (a hi : Int) : spec_l01In.f a 0 hi = some (decide (0 ≤ a) && decide (a ≤ hi)) := by
  unfold spec_l01In.f
  by_cases h : a ≥ 0
  · rw [if_pos h, decide_eq_true (show 0 ≤ a from h)]; rfl
  · rw [if_neg h, decide_eq_false (show ¬ 0 ≤ a from h)]; rfl
theorem in_impl (a hi : Int) : impl_within.f a 0 hi = some (decide (0 ≤ a) && decide (a ≤ hi)) := by
  unfold impl_within.f
  by_cases h : a ≥ 0
  · rw [if_pos h, decide_eq_true (show 0 ≤ a from h)]; rfl
  · rw [if_neg h, decide_eq_false (show ¬ 0 ≤ a from h)]; rfl
def inB (l : L) (s : List Int) (j : Nat) : Bool := decide (0 ≤ rd s (j : Int)) && decide (rd s (j : Int) ≤ (l.length : Int) - 1)
def riseB (l : L) (s : List Int) : Nat → Nat → Bool
  | 0, _ => true
  | d + 1, j => if inB l s j = true then (if j = 0 then riseB l s d (j + 1) else if rd s (j : Int) ≤ rd s ((j : Int) - 1) then false else riseB l s d (j + 1)) else false
theorem spec_rise (l : L) (s : List Int) (hl : l.length ≤ 1048576) (hs : s.length ≤ 1048576) : ∀ (d j : Nat), j + d = s.length → Ev (fun k => spec_l14Rise.l0 k l s (j : Int)) (riseB l s d j)
  | 0, j, h => by
    refine Ev.step (f := fun _ => some true) (fun k => ?_) (Ev.now _)
    simp only [spec_l14Rise.l0]
    rw [if_neg (by omega)]
  | d + 1, j, h => by
    have ih := spec_rise l s hl hs d (j + 1) (by omega)
    have w := w1 (i := j) (by omega)
    have wl : Go.RowKit.wrap64 ((l.length : Int) - 1) = (l.length : Int) - 1 := wrap_in (by omega) (by omega)
    have wj : Go.RowKit.wrap64 ((j : Int) - 1) = (j : Int) - 1 := wrap_in (by omega) (by omega)
    have e : ∀ k, spec_l14Rise.l0 (k + 1) l s (j : Int) = (if inB l s j = true then (if (j : Int) > 0 then (if 0 ≤ (j : Int) - 1 then (if (j : Int) - 1 < (s.length : Int) then (if rd s (j : Int) ≤ rd s ((j : Int) - 1) then some false else spec_l14Rise.l0 k l s ((j + 1 : Nat) : Int)) else none) else none) else spec_l14Rise.l0 k l s ((j + 1 : Nat) : Int)) else some false) := fun k => by
      simp only [spec_l14Rise.l0, w, wl, wj, in_spec, Option.bind_some]
      clear w wl wj
      rw [if_pos (by omega), if_pos (by omega)]
      rfl
    clear w wl wj
    by_cases c : inB l s j = true
    · by_cases z : j = 0
      · have r : riseB l s (d + 1) j = riseB l s d (j + 1) := by rw [riseB, if_pos c, if_pos z]
        rw [r]
        refine Ev.step (fun k => ?_) ih
        rw [e k, if_pos c, if_neg (by omega)]
      · by_cases g : rd s (j : Int) ≤ rd s ((j : Int) - 1)
        · have r : riseB l s (d + 1) j = false := by rw [riseB, if_pos c, if_neg z, if_pos g]
          rw [r]
          refine Ev.step (f := fun _ => some false) (fun k => ?_) (Ev.now _)
          rw [e k, if_pos c, if_pos (by omega), if_pos (by omega), if_pos (by omega), if_pos g]
        · have r : riseB l s (d + 1) j = riseB l s d (j + 1) := by rw [riseB, if_pos c, if_neg z, if_neg g]
          rw [r]
          refine Ev.step (fun k => ?_) ih
          rw [e k, if_pos c, if_pos (by omega), if_pos (by omega), if_pos (by omega), if_neg g]
    · have r : riseB l s (d + 1) j = false := by rw [riseB, if_neg c]
      rw [r]
      refine Ev.step (f := fun _ => some false) (fun k => ?_) (Ev.now _)
      rw [e k, if_neg c]
theorem impl_rise (l : L) (s : List Int) (hl : l.length ≤ 1048576) (hs : s.length ≤ 1048576) : ∀ (d j : Nat), j + d = s.length → Ev (fun k => impl_areStarts.l0 k l s s (s.length : Int) (j : Int)) (riseB l s d j)
  | 0, j, h => by
    refine Ev.step (f := fun _ => some true) (fun k => ?_) (Ev.now _)
    simp only [impl_areStarts.l0]
    rw [if_neg (by omega)]
  | d + 1, j, h => by
    have ih := impl_rise l s hl hs d (j + 1) (by omega)
    have w := w1 (i := j) (by omega)
    have wl : Go.RowKit.wrap64 ((l.length : Int) - 1) = (l.length : Int) - 1 := wrap_in (by omega) (by omega)
    have wj : Go.RowKit.wrap64 ((j : Int) - 1) = (j : Int) - 1 := wrap_in (by omega) (by omega)
    have e : ∀ k, impl_areStarts.l0 (k + 1) l s s (s.length : Int) (j : Int) = (if inB l s j = true then (if (j : Int) > 0 then (if 0 ≤ (j : Int) - 1 then (if (j : Int) - 1 < (s.length : Int) then (if rd s ((j : Int) - 1) ≥ rd s (j : Int) then some false else impl_areStarts.l0 k l s s (s.length : Int) ((j + 1 : Nat) : Int)) else none) else none) else impl_areStarts.l0 k l s s (s.length : Int) ((j + 1 : Nat) : Int)) else some false) := fun k => by
      simp only [impl_areStarts.l0, w, wl, wj, in_impl, Option.bind_some]
      clear w wl wj
      rw [if_pos (by omega), if_pos (by omega), if_pos (by omega)]
      rfl
    clear w wl wj
    by_cases c : inB l s j = true
    · by_cases z : j = 0
      · have r : riseB l s (d + 1) j = riseB l s d (j + 1) := by rw [riseB, if_pos c, if_pos z]
        rw [r]
        refine Ev.step (fun k => ?_) ih
        rw [e k, if_pos c, if_neg (by omega)]
      · by_cases g : rd s (j : Int) ≤ rd s ((j : Int) - 1)
        · have r : riseB l s (d + 1) j = false := by rw [riseB, if_pos c, if_neg z, if_pos g]
          rw [r]
          refine Ev.step (f := fun _ => some false) (fun k => ?_) (Ev.now _)
          rw [e k, if_pos c, if_pos (by omega), if_pos (by omega), if_pos (by omega), if_pos g]
        · have r : riseB l s (d + 1) j = riseB l s d (j + 1) := by rw [riseB, if_pos c, if_neg z, if_neg g]
          rw [r]
          refine Ev.step (fun k => ?_) ih
          rw [e k, if_pos c, if_pos (by omega), if_pos (by omega), if_pos (by omega), if_neg g]
    · have r : riseB l s (d + 1) j = false := by rw [riseB, if_neg c]
      rw [r]
      refine Ev.step (f := fun _ => some false) (fun k => ?_) (Ev.now _)
      rw [e k, if_neg c]
theorem rise_in (l : L) (s : List Int) : ∀ d j, riseB l s d j = true → ∀ j', j ≤ j' → j' < j + d → inB l s j' = true
  | 0, j, h, j', a, b => by omega
  | d + 1, j, h, j', a, b => by
    rw [riseB] at h
    by_cases c : inB l s j = true
    · by_cases e : j' = j
      · rw [e]; exact c
      · rw [if_pos c] at h
        have h2 : riseB l s d (j + 1) = true := by
          by_cases z : j = 0
          · rw [if_pos z] at h; exact h
          · rw [if_neg z] at h
            by_cases g : rd s (j : Int) ≤ rd s ((j : Int) - 1)
            · rw [if_pos g] at h; exact absurd h (by simp)
            · rw [if_neg g] at h; exact h
        exact rise_in l s d (j + 1) h2 j' (by omega) (by omega)
    · rw [if_neg c] at h; exact absurd h (by simp)
def serveB (l : L) (i : Nat) : Bool := if i + 1 < l.length then ((rd_T62 l ((i + 1 : Nat) : Int)).f0 == (rd_T62 l (i : Int)).f0) else false
theorem serve_spec (l : L) (hl : l.length ≤ 1048576) (i : Nat) (h : i < l.length) : spec_l14Serve.f l (i : Int) = some (serveB l i) := by
  have w := w1 (i := i) (by omega)
  unfold spec_l14Serve.f serveB
  rw [w]
  clear w
  by_cases c : i + 1 < l.length
  · rw [if_pos (by omega), if_pos (by omega), if_pos (by omega), if_pos (by omega), if_pos c]
  · rw [if_neg (by omega), if_neg c]
theorem serve_impl (l : L) (hl : l.length ≤ 1048576) (i : Nat) (h : i < l.length) : impl_isServe.f l (i : Int) (l.length : Int) = some (serveB l i) := by
  have w := w1 (i := i) (by omega)
  unfold impl_isServe.f serveB
  rw [w]
  clear w
  by_cases c : i + 1 < l.length
  · rw [if_pos (by omega), if_pos (by omega), if_pos (by omega), if_pos (by omega), if_pos (by omega), if_pos c]
  · rw [if_neg (by omega), if_neg c]
def deepN (j : Nat) : Int := if (nm j).toList = [74, 83, 82] then 1 else if (nm j).toList = [66, 82, 75] then 1 else if (nm j).toList = [82, 84, 83] then -1 else if (nm j).toList = [82, 84, 73] then -1 else 0
set_option maxRecDepth 100000 in
theorem kind_all : ∀ i : Fin 256, (impl_KindOf.f 20 (i.val : Int)).any (fun t => (if t = 7 then (1 : Int) else if t = 10 then 1 else if t = 8 then -1 else if t = 9 then -1 else 0) == deepN i.val) = true := by decide +kernel
theorem deepN_range (j : Nat) : -1 ≤ deepN j ∧ deepN j ≤ 1 := by
  unfold deepN
  by_cases a : (nm j).toList = [74, 83, 82]
  · rw [if_pos a]; omega
  rw [if_neg a]
  by_cases a : (nm j).toList = [66, 82, 75]
  · rw [if_pos a]; omega
  rw [if_neg a]
  by_cases a : (nm j).toList = [82, 84, 83]
  · rw [if_pos a]; omega
  rw [if_neg a]
  by_cases a : (nm j).toList = [82, 84, 73]
  · rw [if_pos a]; omega
  rw [if_neg a]; omega
/-- By how much what is behind a unit stands deeper. -/
def deep (l : L) (i : Nat) : Int := if serveB l i = true then 1 else deepN (rd_T62 l (i : Int)).f1.toNat
theorem deep_range (l : L) (i : Nat) : -1 ≤ deep l i ∧ deep l i ≤ 1 := by
  unfold deep
  by_cases h : serveB l i = true
  · rw [if_pos h]; omega
  · rw [if_neg h]; exact deepN_range _
def Bytes (l : L) : Prop := ∀ i, i < l.length → ∃ b : Nat, b < 256 ∧ (rd_T62 l (i : Int)).f1 = (b : Int)
theorem impl_deep (l : L) (hl : l.length ≤ 1048576) (hb : Bytes l) (i : Nat) (h : i < l.length) : Ev (fun k => impl_deeper.f k l (i : Int)) (deep l i) := by
  obtain ⟨b, hb1, hb2⟩ := hb i h
  unfold impl_deeper.f
  simp only [serve_impl l hl i h, Option.bind_some]
  unfold deep
  by_cases c : serveB l i = true
  · simp only [c, if_true]
    exact Ev.now _
  · have g1 : 0 ≤ (i : Int) := by omega
    have g2 : (i : Int) < (l.length : Int) := by omega
    simp only [c, if_false, g1, g2, if_true, hb2, Int.toNat_natCast]
    have hk := kind_all ⟨b, hb1⟩
    simp only at hk
    cases ho : impl_KindOf.f 20 (b : Int) with
    | none => rw [ho] at hk; simp at hk
    | some t =>
      rw [ho] at hk
      have ht : (if t = 7 then (1 : Int) else if t = 10 then 1 else if t = 8 then -1 else if t = 9 then -1 else 0) = deepN b := by simpa using hk
      refine Ev.bind (Ev.of (fun k => impl_KindOf.mono _ k) ho) ?_
      rw [← ht]
      by_cases c7 : t = 7
      · subst c7
        simp only [if_true]
        refine Ev.step (f := fun _ => some 1) (fun k => ?_) (Ev.now _)
        simp [impl_deeper.j0]
      · simp only [c7, if_false]
        by_cases c10 : t = 10
        · subst c10
          refine Ev.step (f := fun _ => some 1) (fun k => ?_) (by simpa using Ev.now (1 : Int))
          simp [impl_deeper.j0]
        · have cb : (t == 10) = false := by simpa using c10
          simp only [c10, cb, if_false]
          by_cases c8 : t = 8
          · refine Ev.step (f := fun _ => some (-1)) (fun k => ?_) (by simp only [c8, if_true]; exact Ev.now _)
            simp [impl_deeper.j0, c8]
          · by_cases c9 : t = 9
            · refine Ev.step (f := fun _ => some (-1)) (fun k => ?_) (by simp only [c8, c9, if_false, if_true]; exact Ev.now _)
              simp [impl_deeper.j0, c8, c9]
            · refine Ev.step (f := fun _ => some 0) (fun k => ?_) (by simp only [c8, c9, if_false]; exact Ev.now _)
              simp [impl_deeper.j0, c8, c9]
/-- The depths from a unit on. -/
def depL (l : L) (s : List Int) : Nat → Nat → Int → List Int
  | 0, _, _ => []
  | d + 1, j, x => x :: depL l s d (j + 1) (x + deep l (rd s (j : Int)).toNat)
theorem depL_length (l : L) (s : List Int) : ∀ d j x, (depL l s d j x).length = d
  | 0, _, _ => rfl
  | d + 1, j, x => by rw [depL, List.length_cons, depL_length l s d]
theorem in_nat {l : L} {s : List Int} {j : Nat} (h : inB l s j = true) : rd s (j : Int) = (((rd s (j : Int)).toNat : Nat) : Int) ∧ (rd s (j : Int)).toNat < l.length := by
  unfold inB at h
  rw [Bool.and_eq_true, decide_eq_true_eq, decide_eq_true_eq] at h
  omega
theorem impl_dep (l : L) (s : List Int) (hl : l.length ≤ 1048576) (hs : s.length ≤ 1048576) (hb : Bytes l) (hin : ∀ j, j < s.length → inB l s j = true) : ∀ (d j : Nat) (x : Int) (acc : List Int), j + d = s.length → acc.length = j → -(j : Int) ≤ x → x ≤ (j : Int) →
    Ev (fun k => impl_Depths.l0 k l acc x s (s.length : Int) (j : Int)) (acc ++ depL l s d j x)
  | 0, j, x, acc, h, ha, x0, x1 => by
    refine Ev.step (f := fun _ => some acc) (fun k => ?_) (by simpa [depL] using Ev.now acc)
    simp only [impl_Depths.l0]
    rw [if_neg (by omega)]
  | d + 1, j, x, acc, h, ha, x0, x1 => by
    obtain ⟨e1, e2⟩ := in_nat (hin j (by omega))
    have hr := deep_range l (rd s (j : Int)).toNat
    have ih := impl_dep l s hl hs hb hin d (j + 1) (x + deep l (rd s (j : Int)).toNat) (acc ++ [x]) (by omega) (by simp [ha]) (by omega) (by omega)
    have e : acc ++ depL l s (d + 1) j x = (acc ++ [x]) ++ depL l s d (j + 1) (x + deep l (rd s (j : Int)).toNat) := by rw [depL]; simp
    rw [e]
    have w := w1 (i := j) (by omega)
    refine Ev.step (f := fun k => (impl_deeper.f k l (((rd s (j : Int)).toNat : Nat) : Int)).bind fun t => impl_Depths.l0 k l (acc ++ [x]) (Go.RowKit.wrap64 (x + t)) s (s.length : Int) ((j + 1 : Nat) : Int)) (fun k => ?_) (Ev.bind (impl_deep l hl hb _ e2) ?_)
    · simp only [impl_Depths.l0, w]
      clear w
      rw [if_pos (by omega), if_pos (by omega), if_pos (by omega), if_pos (by omega), ← e1]
    · have w2 : Go.RowKit.wrap64 (x + deep l (rd s (j : Int)).toNat) = x + deep l (rd s (j : Int)).toNat := wrap_in (by clear w; omega) (by clear w; omega)
      rw [w2]
      exact ih
end Go.Proofs.YtnoelppkcbelcaaGreatDoor.MDS
