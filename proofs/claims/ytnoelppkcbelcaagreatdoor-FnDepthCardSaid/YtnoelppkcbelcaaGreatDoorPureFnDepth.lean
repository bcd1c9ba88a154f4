/-
FnDepth behind its draw: from unit to unit a run goes one deeper, one less deep, or neither.
-/
import Derived.Test.YtnoelppkcbelcaaGreatDoorMDx0
import Derived.Test.YtnoelppkcbelcaaGreatDoorMDx3
import Derived.Test.YtnoelppkcbelcaaGreatDoorMDx6
import Derived.Test.YtnoelppkcbelcaaGreatDoorMDx7
import Derived.Test.YtnoelppkcbelcaaGreatDoorDDepthSpec
set_option linter.unusedSimpArgs false
set_option linter.unusedVariables false
namespace Go.Proofs.YtnoelppkcbelcaaGreatDoor.Pure
open Go.RowKit Go.Proofs.YtnoelppkcbelcaaGreatDoor.MD Go.Proofs.YtnoelppkcbelcaaGreatDoor.MDO Go.Proofs.YtnoelppkcbelcaaGreatDoor.MDS Go.Proofs.YtnoelppkcbelcaaGreatDoorW.PrintWords Go.Proofs.YtnoelppkcbelcaaGreatDoorW.PrintLast Go.Proofs.YtnoelppkcbelcaaGreatDoor.Bit Go.Proofs.YtnoelppkcbelcaaGreatDoor.Lst
def depths (l : List S62) (s : List Int) : List Int := if riseB l s s.length 0 = true then depL l s s.length 0 0 else []
theorem depths_len (l : List S62) (s : List Int) : (depths l s).length ≤ s.length := by
  unfold depths
  by_cases c : riseB l s s.length 0 = true
  · rw [if_pos c, depL_length]; exact Nat.le_refl _
  · rw [if_neg c]; exact Nat.zero_le _
theorem spec_f_ev (l : List S62) (s : List Int) (hl : l.length ≤ 1048576) (hs : s.length ≤ 1048576) (hb : Bytes l) : Ev (fun k => spec_Depths.f k l s) (depths l s) := by
  unfold spec_Depths.f
  simp only [Option.bind_some]
  refine Ev.bind (spec_rise l s hl hs s.length 0 (by omega)) ?_
  unfold depths
  by_cases c : riseB l s s.length 0 = true
  · have h := spec_dep l s hl hs hb (fun j hj => rise_in l s s.length 0 c j (by omega) (by omega)) s.length 0 0 [] (by omega) rfl (by omega) (by omega)
    rw [List.nil_append] at h
    simp only [c, if_true]
    exact h
  · simp only [c, if_false]
    exact Ev.now _
theorem impl_f_ev (l : List S62) (s : List Int) (hl : l.length ≤ 1048576) (hs : s.length ≤ 1048576) (hb : Bytes l) : Ev (fun k => impl_Depths.f k l s) (depths l s) := by
  unfold impl_Depths.f
  refine Ev.bind (impl_rise l s hl hs s.length 0 (by omega)) ?_
  unfold depths
  by_cases c : riseB l s s.length 0 = true
  · have h := impl_dep l s hl hs hb (fun j hj => rise_in l s s.length 0 c j (by omega) (by omega)) s.length 0 0 [] (by omega) rfl (by omega) (by omega)
    rw [List.nil_append] at h
    simp only [c, if_true]
    exact h
  · simp only [c, if_false]
    exact Ev.now _
theorem bytes_of (l : List S62) (hw : ∀ x ∈ l, (Lit.int .u16 x.f0).wf = true ∧ (Lit.int .u8 x.f1).wf = true) : Bytes l := by
  intro i hi
  have hm : rd_T62 l (i : Int) ∈ l := by
    unfold rd_T62
    rw [Int.toNat_natCast, List.getD_eq_getElem?_getD, List.getElem?_eq_getElem hi]
    exact List.getElem_mem hi
  obtain ⟨a, b⟩ := Bit.wf_u8 (hw _ hm).2
  exact ⟨(rd_T62 l (i : Int)).f1.toNat, by omega, by omega⟩
theorem rd_succ (x : Int) (L : List Int) (i : Nat) : rd (x :: L) ((i + 1 : Nat) : Int) = rd L (i : Int) := by
  unfold rd
  rw [Int.toNat_natCast, Int.toNat_natCast]
  rfl
theorem rd_zero (x : Int) (L : List Int) : rd (x :: L) ((0 : Nat) : Int) = x := rfl
theorem depL_step (l : L) (s : List Int) : ∀ (d j : Nat) (x : Int) (i : Nat), i + 1 < d → -1 ≤ rd (depL l s d j x) ((i + 1 : Nat) : Int) - rd (depL l s d j x) (i : Int) ∧ rd (depL l s d j x) ((i + 1 : Nat) : Int) - rd (depL l s d j x) (i : Int) ≤ 1
  | 0, _, _, _, h => by omega
  | 1, _, _, _, h => by omega
  | d + 2, j, x, 0, h => by
    have hd := deep_range l (rd s (j : Int)).toNat
    rw [depL, depL, rd_succ, rd_zero, rd_zero]
    omega
  | d + 2, j, x, i + 1, h => by
    have ih := depL_step l s (d + 1) (j + 1) (x + deep l (rd s (j : Int)).toNat) i (by omega)
    rw [depL, rd_succ, rd_succ]
    exact ih
theorem depL_bound (l : L) (s : List Int) : ∀ (d j : Nat) (x : Int) (i : Nat), i < d → x - (i : Int) ≤ rd (depL l s d j x) (i : Int) ∧ rd (depL l s d j x) (i : Int) ≤ x + (i : Int)
  | 0, _, _, _, h => by omega
  | d + 1, j, x, 0, h => by
    rw [depL, rd_zero]
    omega
  | d + 1, j, x, i + 1, h => by
    have hd := deep_range l (rd s (j : Int)).toNat
    have ih := depL_bound l s d (j + 1) (x + deep l (rd s (j : Int)).toNat) i (by omega)
    rw [depL, rd_succ]
    omega
theorem depL_zero (l : L) (s : List Int) (d j : Nat) (x : Int) (h : 0 < d) : rd (depL l s d j x) ((0 : Nat) : Int) = x := by
  cases d with
  | zero => omega
  | succ d => rw [depL, rd_zero]
theorem steps_ev (D : List Int) (hl : D.length ≤ 1048576) (h0 : 0 < D.length → rd D ((0 : Nat) : Int) = 0) (hs : ∀ i : Nat, i + 1 < D.length → -1 ≤ rd D ((i + 1 : Nat) : Int) - rd D (i : Int) ∧ rd D ((i + 1 : Nat) : Int) - rd D (i : Int) ≤ 1) (hb : ∀ i : Nat, i < D.length → -1048576 ≤ rd D (i : Int) ∧ rd D (i : Int) ≤ 1048576) : Ev (fun k => laws_FnDepth.l0 k D 0) true := by
  refine ev_for (r := true) D.length (fun k i => laws_FnDepth.l0 k D (i : Int)) (fun k => ?_) (fun i hi k => ?_)
  · simp only [laws_FnDepth.l0]
    rw [if_neg (by omega)]
  · cases i with
    | zero =>
      have e := h0 (by omega)
      have e' : rd D 0 = 0 := e
      simp only [laws_FnDepth.l0]
      rw [if_pos (by omega), if_pos (show ((0 : Nat) : Int) = 0 from rfl), if_pos (by omega), if_pos e, if_neg (by omega), w1 (by omega)]
    | succ i =>
      have e1 := hs i (by omega)
      have e2 := hb i (by omega)
      have e3 := hb (i + 1) (by omega)
      have ew : wrap64 (((i + 1 : Nat) : Int) - 1) = (i : Int) := by
        unfold wrap64
        omega
      simp only [laws_FnDepth.l0, ew]
      generalize rd D ((i + 1 : Nat) : Int) = p at e1 e3 ⊢
      generalize rd D (i : Int) = q at e1 e2 ⊢
      have d1 : wrap64 (p - q) = p - q := wrap_in (by omega) (by omega)
      have d2 : wrap64 (q - p) = q - p := wrap_in (by omega) (by omega)
      rw [if_pos (by omega), if_neg (by omega), if_pos (by omega), if_pos (by omega), if_pos (by omega), if_pos (by omega), d1, if_neg (by omega), d2, if_neg (by omega), w1 (by omega)]
theorem sameInts_ev (l : List Int) (hl : l.length < 9223372036854775807) : Ev (fun k => laws_sameInts.f k l l) true := by
  have h := ev_for (r := true) l.length (fun k i => laws_sameInts.l0 k l l i)
    (fun k => by
      simp only [laws_sameInts.l0]
      rw [if_neg (by omega)])
    (fun i hi k => by
      simp only [laws_sameInts.l0, if_true]
      rw [if_pos (by omega), if_pos (by omega), if_pos (by omega), w1 (by omega)])
  refine Ev.congr (fun k => ?_) h
  unfold laws_sameInts.f
  rw [if_pos rfl]
  rfl
theorem FnDepth (l : List S62) (s : List Int) (hl : l.length ≤ 160) (hg : ∀ x ∈ l, (Lit.int .u16 x.f0).wf = true ∧ (Lit.int .u8 x.f1).wf = true) (hs : s.length ≤ 20) : ∃ k, laws_FnDepth.f k l s = some true := by
  refine Ev.rounds (g := fun k => laws_FnDepth.f k l s) ?_
  have hb := bytes_of l hg
  have h1 := spec_f_ev l s (by omega) (by omega) hb
  have h2 := impl_f_ev l s (by omega) (by omega) hb
  have hlen := depths_len l s
  have h3 : Ev (fun k => laws_FnDepth.l0 k (depths l s) 0) true := by
    refine steps_ev (depths l s) (by omega) (fun h => ?_) (fun i hi => ?_) (fun i hi => ?_)
    all_goals (
      unfold depths at *
      by_cases c : riseB l s s.length 0 = true)
    · rw [if_pos c] at h ⊢
      rw [depL_length] at h
      exact depL_zero l s s.length 0 0 h
    · rw [if_neg c] at h
      simp at h
    · rw [if_pos c] at hi ⊢
      rw [depL_length] at hi
      exact depL_step l s s.length 0 0 i hi
    · rw [if_neg c] at hi
      simp at hi
    · rw [if_pos c] at hi ⊢
      rw [depL_length] at hi
      have := depL_bound l s s.length 0 0 i hi
      omega
    · rw [if_neg c] at hi
      simp at hi
  generalize depths l s = D at h1 h2 h3 hlen
  simp only [laws_FnDepth.f]
  refine Ev.bind h2 (Ev.bind h1 (Ev.bind (sameInts_ev D (by omega)) ?_))
  simp only [if_true]
  exact h3
end Go.Proofs.YtnoelppkcbelcaaGreatDoor.Pure
