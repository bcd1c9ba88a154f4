/-
Starts told ascending and in range; what is a served interrupt.
-/
import Derived.Test.YtfahgmdnmceleaaDoorMDx0
import Derived.Test.YtfahgmdnmceleaaDoorMDx1
import Derived.Test.YtfahgmdnmceleaaDoorMDx4
import Derived.Test.YtfahgmdnmceleaaDoorMDx5
import Derived.Test.YtfahgmdnmceleaaDoorDOpName
import Derived.Test.YtfahgmdnmceleaaDoorBit
import Derived.Test.YtfahgmdnmceleaaDoorLst
set_option linter.unusedSimpArgs false
set_option linter.unusedVariables false
namespace Go.Proofs.YtfahgmdnmceleaaDoor.MDS
open Go.RowKit Go.Proofs.YtfahgmdnmceleaaDoor.MD Go.Proofs.YtfahgmdnmceleaaDoorW.PrintWords Go.Proofs.YtfahgmdnmceleaaDoorW.PrintLast Go.Proofs.YtfahgmdnmceleaaDoor.Lst Go.Proofs.YtfahgmdnmceleaaDoor.MDO

abbrev L := List S44
theorem in_spec (a hi : Int) : spec_l01In.f a 0 hi = some (decide (0 ≤ a) && decide (a ≤ hi)) := by
  unfold spec_l01In.f
  by_cases h : a ≥ 0
  · rw [if_pos h, decide_eq_true (show 0 ≤ a from h)]; rfl
  · rw [if_neg h, decide_eq_false (show ¬ 0 ≤ a from h)]; rfl
theorem in_impl (a hi : Int) : impl_within.f a 0 hi = some (decide (0 ≤ a) && decide (a ≤ hi)) := by
  unfold impl_within.f
  by_cases h : a ≥ 0
  · rw [if_pos h, decide_eq_true (show 0 ≤ a from h)]; rfl
  · rw [if_neg h, decide_eq_false (show ¬ 0 ≤ a from h)]; rfl
def inB (l : L) (s : List Int) (j : Nat) : Bool := decide (0 ≤ rd s (j : Int)) && decide (rd s (j : Int) ≤ (l.length : Int) - 1)
def riseB (l : L) (s : List Int) : Nat → Nat → Bool
  | 0, _ => true
  | d + 1, j => if inB l s j = true then (if j = 0 then riseB l s d (j + 1) else if rd s (j : Int) ≤ rd s ((j : Int) - 1) then false else riseB l s d (j + 1)) else false
theorem spec_rise (l : L) (s : List Int) (hl : l.length ≤ 1048576) (hs : s.length ≤ 1048576) : ∀ (d j : Nat), j + d = s.length → Ev (fun k => spec_l14Rise.l0 k l s (j : Int)) (riseB l s d j)
  | 0, j, h => by
    refine Ev.step (f := fun _ => some true) (fun k => ?_) (Ev.now _)
    simp only [spec_l14Rise.l0]
    rw [if_neg (by omega)]
  | d + 1, j, h => by
    have ih := spec_rise l s hl hs d (j + 1) (by omega)
    have w := w1 (i := j) (by omega)
    have wl : Go.RowKit.wrap64 ((l.length : Int) - 1) = (l.length : Int) - 1 := wrap_in (by omega) (by omega)
    have wj : Go.RowKit.wrap64 ((j : Int) - 1) = (j : Int) - 1 := wrap_in (by omega) (by omega)
    have e : ∀ k, spec_l14Rise.l0 (k + 1) l s (j : Int) = (if inB l s j = true then (if (j : Int) > 0 then (if 0 ≤ (j : Int) - 1 then (if (j : Int) - 1 < (s.length : Int) then spec_l14Rise.j1 k l s (j : Int) (decide (rd s (j : Int) ≤ rd s ((j : Int) - 1))) else none) else none) else spec_l14Rise.j1 k l s (j : Int) false) else spec_l14Rise.j1 k l s (j : Int) true) := fun k => by
      simp only [spec_l14Rise.l0, w, wl, wj, in_spec, Option.bind_some]
      clear w wl wj
      rw [if_pos (by omega), if_pos (by omega)]
      rfl
    have e1 : ∀ k b, spec_l14Rise.j1 (k + 1) l s (j : Int) b = (if b = true then some false else spec_l14Rise.l0 k l s ((j + 1 : Nat) : Int)) := fun k b => by
      simp only [spec_l14Rise.j1, w]
    clear w wl wj
    by_cases c : inB l s j = true
    · by_cases z : j = 0
      · have r : riseB l s (d + 1) j = riseB l s d (j + 1) := by rw [riseB, if_pos c, if_pos z]
        rw [r]
        refine Ev.step (f := fun k => spec_l14Rise.j1 k l s (j : Int) false) (fun k => ?_) (Ev.step (fun k => ?_) ih)
        · rw [e k, if_pos c, if_neg (by omega)]
        · rw [e1 k, if_neg (by simp)]
      · by_cases g : rd s (j : Int) ≤ rd s ((j : Int) - 1)
        · have r : riseB l s (d + 1) j = false := by rw [riseB, if_pos c, if_neg z, if_pos g]
          rw [r]
          refine Ev.step (f := fun k => spec_l14Rise.j1 k l s (j : Int) true) (fun k => ?_) (Ev.step (f := fun _ => some false) (fun k => ?_) (Ev.now _))
          · rw [e k, if_pos c, if_pos (by omega), if_pos (by omega), if_pos (by omega), decide_eq_true (by exact g)]
          · rw [e1 k, if_pos rfl]
        · have r : riseB l s (d + 1) j = riseB l s d (j + 1) := by rw [riseB, if_pos c, if_neg z, if_neg g]
          rw [r]
          refine Ev.step (f := fun k => spec_l14Rise.j1 k l s (j : Int) false) (fun k => ?_) (Ev.step (fun k => ?_) ih)
          · rw [e k, if_pos c, if_pos (by omega), if_pos (by omega), if_pos (by omega), decide_eq_false (by exact g)]
          · rw [e1 k, if_neg (by simp)]
    · have r : riseB l s (d + 1) j = false := by rw [riseB, if_neg c]
      rw [r]
      refine Ev.step (f := fun k => spec_l14Rise.j1 k l s (j : Int) true) (fun k => ?_) (Ev.step (f := fun _ => some false) (fun k => ?_) (Ev.now _))
      · rw [e k, if_neg c]
      · rw [e1 k, if_pos rfl]
theorem impl_rise (l : L) (s : List Int) (hl : l.length ≤ 1048576) (hs : s.length ≤ 1048576) : ∀ (d j : Nat), j + d = s.length → Ev (fun k => impl_areStarts.l0 k l s s (s.length : Int) (j : Int)) (riseB l s d j)
  | 0, j, h => by
    refine Ev.step (f := fun _ => some true) (fun k => ?_) (Ev.now _)
    simp only [impl_areStarts.l0]
    rw [if_neg (by omega)]
  | d + 1, j, h => by
    have ih := impl_rise l s hl hs d (j + 1) (by omega)
    have w := w1 (i := j) (by omega)
    have wl : Go.RowKit.wrap64 ((l.length : Int) - 1) = (l.length : Int) - 1 := wrap_in (by omega) (by omega)
    have wj : Go.RowKit.wrap64 ((j : Int) - 1) = (j : Int) - 1 := wrap_in (by omega) (by omega)
    have e : ∀ k, impl_areStarts.l0 (k + 1) l s s (s.length : Int) (j : Int) = (if inB l s j = true then (if (j : Int) > 0 then (if 0 ≤ (j : Int) - 1 then (if (j : Int) - 1 < (s.length : Int) then impl_areStarts.j1 k l s s (s.length : Int) (j : Int) (decide (rd s ((j : Int) - 1) ≥ rd s (j : Int))) else none) else none) else impl_areStarts.j1 k l s s (s.length : Int) (j : Int) false) else impl_areStarts.j1 k l s s (s.length : Int) (j : Int) true) := fun k => by
      simp only [impl_areStarts.l0, w, wl, wj, in_impl, Option.bind_some]
      clear w wl wj
      rw [if_pos (by omega), if_pos (by omega), if_pos (by omega)]
      rfl
    have e1 : ∀ k b, impl_areStarts.j1 (k + 1) l s s (s.length : Int) (j : Int) b = (if b = true then some false else impl_areStarts.l0 k l s s (s.length : Int) ((j + 1 : Nat) : Int)) := fun k b => by
      simp only [impl_areStarts.j1, w]
    clear w wl wj
    by_cases c : inB l s j = true
    · by_cases z : j = 0
      · have r : riseB l s (d + 1) j = riseB l s d (j + 1) := by rw [riseB, if_pos c, if_pos z]
        rw [r]
        refine Ev.step (f := fun k => impl_areStarts.j1 k l s s (s.length : Int) (j : Int) false) (fun k => ?_) (Ev.step (fun k => ?_) ih)
        · rw [e k, if_pos c, if_neg (by omega)]
        · rw [e1 k, if_neg (by simp)]
      · by_cases g : rd s (j : Int) ≤ rd s ((j : Int) - 1)
        · have r : riseB l s (d + 1) j = false := by rw [riseB, if_pos c, if_neg z, if_pos g]
          rw [r]
          refine Ev.step (f := fun k => impl_areStarts.j1 k l s s (s.length : Int) (j : Int) true) (fun k => ?_) (Ev.step (f := fun _ => some false) (fun k => ?_) (Ev.now _))
          · rw [e k, if_pos c, if_pos (by omega), if_pos (by omega), if_pos (by omega), decide_eq_true (by exact g)]
          · rw [e1 k, if_pos rfl]
        · have r : riseB l s (d + 1) j = riseB l s d (j + 1) := by rw [riseB, if_pos c, if_neg z, if_neg g]
          rw [r]
          refine Ev.step (f := fun k => impl_areStarts.j1 k l s s (s.length : Int) (j : Int) false) (fun k => ?_) (Ev.step (fun k => ?_) ih)
          · rw [e k, if_pos c, if_pos (by omega), if_pos (by omega), if_pos (by omega), decide_eq_false (by exact g)]
          · rw [e1 k, if_neg (by simp)]
    · have r : riseB l s (d + 1) j = false := by rw [riseB, if_neg c]
      rw [r]
      refine Ev.step (f := fun k => impl_areStarts.j1 k l s s (s.length : Int) (j : Int) true) (fun k => ?_) (Ev.step (f := fun _ => some false) (fun k => ?_) (Ev.now _))
      · rw [e k, if_neg c]
      · rw [e1 k, if_pos rfl]
theorem rise_in (l : L) (s : List Int) : ∀ d j, riseB l s d j = true → ∀ j', j ≤ j' → j' < j + d → inB l s j' = true
  | 0, j, h, j', a, b => by omega
  | d + 1, j, h, j', a, b => by
    rw [riseB] at h
    by_cases c : inB l s j = true
    · by_cases e : j' = j
      · rw [e]; exact c
      · rw [if_pos c] at h
        have h2 : riseB l s d (j + 1) = true := by
          by_cases z : j = 0
          · rw [if_pos z] at h; exact h
          · rw [if_neg z] at h
            by_cases g : rd s (j : Int) ≤ rd s ((j : Int) - 1)
            · rw [if_pos g] at h; exact absurd h (by simp)
            · rw [if_neg g] at h; exact h
        exact rise_in l s d (j + 1) h2 j' (by omega) (by omega)
    · rw [if_neg c] at h; exact absurd h (by simp)
def serveB (l : L) (i : Nat) : Bool := if i + 1 < l.length then ((rd_T44 l ((i + 1 : Nat) : Int)).f0 == (rd_T44 l (i : Int)).f0) else false
theorem serve_spec (l : L) (hl : l.length ≤ 1048576) (i : Nat) (h : i < l.length) : spec_l14Serve.f l (i : Int) = some (serveB l i) := by
  have w := w1 (i := i) (by omega)
  unfold spec_l14Serve.f serveB
  rw [w]
  clear w
  by_cases c : i + 1 < l.length
  · rw [if_pos (by omega), if_pos (by omega), if_pos (by omega), if_pos (by omega), if_pos c]
  · rw [if_neg (by omega), if_neg c]
theorem serve_impl (l : L) (hl : l.length ≤ 1048576) (i : Nat) (h : i < l.length) : impl_isServe.f l (i : Int) (l.length : Int) = some (serveB l i) := by
  have w := w1 (i := i) (by omega)
  unfold impl_isServe.f serveB
  rw [w]
  clear w
  by_cases c : i + 1 < l.length
  · rw [if_pos (by omega), if_pos (by omega), if_pos (by omega), if_pos (by omega), if_pos (by omega), if_pos c]
  · rw [if_neg (by omega), if_neg c]
end Go.Proofs.YtfahgmdnmceleaaDoor.MDS
