/-
FnFire behind its draw: what fires is taken, one behind the other, and nothing ahead of it that would have been; once fired it is counted.
-/
import Derived.Test.YtnoelppkcbelcaaMFx0
import Derived.Test.YtnoelppkcbelcaaMFx2
import Derived.Test.YtnoelppkcbelcaaMFx3
import Derived.Test.YtnoelppkcbelcaaMFx4
import Derived.Test.YtnoelppkcbelcaaMFx5
import Derived.Test.YtnoelppkcbelcaaMFx6
import Derived.Test.YtnoelppkcbelcaaFTimesWhat
set_option linter.unusedSimpArgs false
set_option linter.unusedVariables false
namespace Go.Proofs.Ytnoelppkcbelcaa.Pure
open Go.RowKit Go.Proofs.Ytnoelppkcbelcaa.MF Go.Proofs.Ytnoelppkcbelcaa.MFH Go.Proofs.YtnoelppkcbelcaaW.PrintWords Go.Proofs.YtnoelppkcbelcaaW.PrintLast Go.Proofs.Ytnoelppkcbelcaa.Bit Go.Proofs.Ytnoelppkcbelcaa.Lst
theorem takes_ev {r : Rl} (h : RuIn r) (hb : ruleB r = true) (c : Cl) : impl_Takes.f r.f0 r.f1 r.f2 r.f3 r.f4 c.f0 c.f1 c.f2 = some (tk r c) := by
  unfold impl_Takes.f
  rw [ruleB_impl h, hb]
  simp only [Option.bind_some, if_true, tk_impl]
section
variable {R : List Rl} {L : List Cl} {O : List Int} {b : Bool} (hR : R.length ≤ 8) (hL : L.length ≤ 1048576) (hg : ∀ x ∈ R, RuIn x) (hok : ∀ j, j < R.length → ruleB (rd_T51 R (j : Nat)) = true) (hO : O.length ≤ R.length)
include hR hL hg hok hO
theorem scan_ev {i j n : Nat} (hj : j < O.length) (hn : rd O (j : Nat) = (n : Int)) (hi : i ≤ n) (hnL : n < L.length) (ht : tk (rd_T51 R (j : Nat)) (rd_T32 L (n : Nat)) = true) (hf : ∀ m : Nat, i ≤ m → m < n → tk (rd_T51 R (j : Nat)) (rd_T32 L (m : Nat)) = false)
    {v : Bool} (h : Ev (fun k => laws_FnFire.l0 k R L O b ((n + 1 : Nat) : Int) ((j + 1 : Nat) : Int)) v) : ∀ (d m : Nat), m + d = n → i ≤ m → Ev (fun k => laws_FnFire.l1 k R L O b (i : Int) (j : Int) (m : Int)) v
  | 0, m, e, him => by
    obtain rfl : m = n := by omega
    refine Ev.step (fun k => ?_) h
    have e1 := takes_ev (rdR hg (i := j) (by omega)) (hok j (by omega)) (rd_T32 L (m : Nat))
    simp only [laws_FnFire.l1]
    rw [if_pos (by omega), if_pos (by omega), hn, if_neg (by omega), if_neg (by omega), if_pos (by omega), if_pos (by omega), if_pos (by omega), e1, ht]
    simp only [Option.bind_some, if_true]
    rw [w1 (by omega), w1 (by omega)]
  | d + 1, m, e, him => by
    refine Ev.step (fun k => ?_) (scan_ev hj hn hi hnL ht hf h d (m + 1) (by omega) (by omega))
    have e1 := takes_ev (rdR hg (i := j) (by omega)) (hok j (by omega)) (rd_T32 L (m : Nat))
    simp only [laws_FnFire.l1]
    rw [if_pos (by omega), if_pos (by omega), hn, if_pos (by omega), if_pos (by omega), if_pos (by omega), if_pos (by omega), e1, hf m him (by omega)]
    simp only [Option.bind_some, Bool.false_eq_true, if_false]
    rw [w1 (by omega)]
theorem all_ev : ∀ (xs : List Int) (i j : Nat), O.drop j = xs → j + xs.length = O.length → Fits R L i j xs → Ev (fun k => laws_FnFire.l0 k R L O b (i : Int) (j : Int)) (b == decide ((O.length : Int) > 0))
  | [], i, j, hd, hl, _ => by
    refine Ev.step (f := fun _ => some (b == decide ((O.length : Int) > 0))) (fun k => ?_) (Ev.now _)
    simp only [laws_FnFire.l0]
    rw [if_neg (by simp at hl; omega)]
  | x :: xs, i, j, hd, hl, hf => by
    obtain ⟨n, rfl, h1, h2, h3, h4, h5⟩ := hf
    have hj : j < O.length := by simp at hl; omega
    have hr : rd O (j : Nat) = (n : Int) := by
      unfold rd
      rw [Int.toNat_natCast, List.getD_eq_getElem?_getD]
      have : (O.drop j)[0]? = O[j + 0]? := List.getElem?_drop
      rw [hd] at this
      rw [show O[j]? = some (n : Int) from this.symm]
      rfl
    have hd' : O.drop (j + 1) = xs := by
      have : (O.drop j).drop 1 = O.drop (j + 1) := List.drop_drop
      rw [← this, hd]
      rfl
    have ih := all_ev xs (n + 1) (j + 1) hd' (by simp at hl; omega) h5
    refine Ev.step (fun k => ?_) (scan_ev hR hL hg hok hO hj hr h1 h2 h3 h4 ih (n - i) i (by omega) (Nat.le_refl _))
    simp only [laws_FnFire.l0]
    rw [if_pos (by omega)]
end
theorem FnFire (R : List Rl) (L : List Cl) (hRl : R.length ≤ 1048576) (hL : L.length ≤ 1048576) (hg : ∀ x ∈ R, RuIn x) : ∃ k, laws_FnFire.f k R L = some true := by
  refine Ev.rounds (g := fun k => laws_FnFire.f k R L) ?_
  have s := spec_right_ev R hg hRl
  have m := impl_right_ev R hg hRl
  obtain ⟨t, t0, t1, t2, t3, t4⟩ := times_what R L hRl hL hg
  have key : ∃ (O : List Int) (ok : Bool), Ev (fun k => impl_Fire.f k R L) (O, ok) ∧ Ev (fun k => spec_Fire.f k R L) (O, ok) ∧ (ok = true ↔ 0 < t) ∧ Ev (fun k => laws_FnFire.l0 k R L O ok 0 0) true := by
    by_cases h : allOk R = true
    · obtain ⟨h1, h2, h3⟩ := allOk_at h
      obtain ⟨r, ok, r1, r2, r3, r4, r5, r6, r7, rest, r8, r9⟩ := fire_from R L h2 hL hg h3 L.length 0 [] (by omega) (by simp)
      have hi := t4 h r ok r1
      refine ⟨if ok then r else [], ok, ?_, ?_, hi, ?_⟩
      · simp only [impl_Fire.f, impl_fire.f]
        refine Ev.bind m ?_
        simp only [h, if_true]
        exact Ev.bind r2 (Ev.now _)
      · simp only [spec_Fire.f, spec_l15From.f]
        refine Ev.bind s ?_
        simp only [h, if_true]
        refine Ev.bind r1 ?_
        cases ok with
        | true => exact Ev.now _
        | false => exact Ev.now _
      · cases ok with
        | true =>
          simp only [if_true]
          rw [List.nil_append] at r8
          subst r8
          have hlen := r7.1 rfl
          have e := all_ev (b := true) h2 hL hg h3 r3 r 0 0 (by simp) (by simp) r9
          rw [show (true == decide ((r.length : Int) > 0)) = true by rw [decide_eq_true (by omega)]; rfl] at e
          exact e
        | false =>
          simp only [Bool.false_eq_true, if_false]
          exact all_ev (b := false) (O := []) h2 hL hg h3 (by simp) [] 0 0 rfl rfl trivial
    · have hz := t3 (Bool.eq_false_iff.2 h)
      refine ⟨[], false, ?_, ?_, by simp [hz], ?_⟩
      · simp only [impl_Fire.f]
        refine Ev.bind m ?_
        simp only [h]
        exact Ev.now _
      · simp only [spec_Fire.f]
        refine Ev.bind s ?_
        simp only [h]
        exact Ev.now _
      · refine Ev.step (f := fun _ => some true) (fun k => ?_) (Ev.now _)
        simp only [laws_FnFire.l0]
        rfl
  obtain ⟨O, ok, k1, k2, k3, k4⟩ := key
  simp only [laws_FnFire.f]
  refine Ev.bind k1 (Ev.bind k2 (Ev.bind t2 ?_))
  simp only [bne_self_eq_false, Bool.false_eq_true, if_false]
  refine Ev.bind t1 ?_
  simp only [if_true]
  have e : (ok != decide ((t : Int) > 0)) = false := by
    rw [bne_eq_false_iff_eq]
    by_cases h : 0 < t
    · rw [k3.2 h, decide_eq_true (by omega)]
    · have : ok = false := Bool.eq_false_iff.2 fun hh => h (k3.1 hh)
      rw [this, decide_eq_false (by omega)]
  simp only [e]
  refine Ev.step (f := fun k => laws_FnFire.l0 k R L O ok 0 0) (fun k => ?_) k4
  simp only [laws_FnFire.j0, Bool.false_eq_true, if_false]
end Go.Proofs.Ytnoelppkcbelcaa.Pure
