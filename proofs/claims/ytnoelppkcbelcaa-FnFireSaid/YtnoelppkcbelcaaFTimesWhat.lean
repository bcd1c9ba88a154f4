/-
How often the rules fire: the same on both sides.
-/
import Derived.Test.YtnoelppkcbelcaaMFx0
import Derived.Test.YtnoelppkcbelcaaMFx2
import Derived.Test.YtnoelppkcbelcaaMFx4
import Derived.Test.YtnoelppkcbelcaaFFireWhat
import Derived.Test.YtnoelppkcbelcaaLst
set_option linter.unusedSimpArgs false
set_option linter.unusedVariables false
namespace Go.Proofs.Ytnoelppkcbelcaa.MFH
open Go.RowKit Go.Proofs.Ytnoelppkcbelcaa.MF Go.Proofs.YtnoelppkcbelcaaW.PrintWords Go.Proofs.YtnoelppkcbelcaaW.PrintLast Go.Proofs.Ytnoelppkcbelcaa.Bit Go.Proofs.Ytnoelppkcbelcaa.Lst

/-- How often: one round, when all fired and when not. -/
theorem times_s_no {R : List Rl} {L : List Cl} {n i : Int} {r : List Int} (h : i < (L.length : Int)) (e : Ev (fun k => spec_l15From.l0 k R L i []) (r, false)) : Ev (fun k => spec_Times.l0 k R L n i) n :=
  Ev.thru e (f := fun _ => some n) (fun k hk => by
    simp only [spec_Times.l0, spec_l15From.f]
    rw [if_pos h, hk]
    rfl) (Ev.now n)
theorem times_i_no {R : List Rl} {L : List Cl} {n i : Int} {r : List Int} (e : Ev (fun k => impl_fire.l0 k L i [] R R.length 0) (r, false)) : Ev (fun k => impl_Times.l0 k R L n i) n :=
  Ev.thru e (f := fun _ => some n) (fun k hk => by
    simp only [impl_Times.l0, impl_fire.f]
    rw [hk]
    rfl) (Ev.now n)
theorem times_s_yes {R : List Rl} {L : List Cl} {n i t v : Int} {r : List Int} (h : i < (L.length : Int)) (h1 : 0 ≤ wrap64 ((r.length : Int) - 1)) (h2 : wrap64 ((r.length : Int) - 1) < (r.length : Int)) (hv : wrap64 ((rd r (wrap64 ((r.length : Int) - 1))) + 1) = v)
    (e : Ev (fun k => spec_l15From.l0 k R L i []) (r, true)) (e2 : Ev (fun k => spec_Times.l0 k R L (wrap64 (n + 1)) v) t) : Ev (fun k => spec_Times.l0 k R L n i) t :=
  Ev.thru e (fun k hk => by
    simp only [spec_Times.l0, spec_l15From.f]
    rw [if_pos h, hk, Option.bind_some, if_pos rfl, if_pos h1, if_pos h2, hv]) e2
theorem times_i_yes {R : List Rl} {L : List Cl} {n i t v : Int} {r : List Int} (h1 : 0 ≤ wrap64 ((r.length : Int) - 1)) (h2 : wrap64 ((r.length : Int) - 1) < (r.length : Int)) (hv : wrap64 ((rd r (wrap64 ((r.length : Int) - 1))) + 1) = v)
    (e : Ev (fun k => impl_fire.l0 k L i [] R R.length 0) (r, true)) (e2 : Ev (fun k => impl_Times.l0 k R L (wrap64 (n + 1)) v) t) : Ev (fun k => impl_Times.l0 k R L n i) t :=
  Ev.thru e (fun k hk => by
    simp only [impl_Times.l0, impl_fire.f]
    rw [hk, Option.bind_some, if_pos rfl, if_pos h1, if_pos h2, hv]) e2

theorem Ev.uniq {α : Type} {g : Nat → Option α} {a b : α} (h : Ev g a) (k : Ev g b) : a = b := by
  obtain ⟨K, hK⟩ := h
  obtain ⟨J, hJ⟩ := k
  have h1 := hK (K + J) (by omega)
  rw [hJ (K + J) (by omega)] at h1
  exact (Option.some.inj h1).symm
/-- How often: from a place on. -/
theorem times_from (R : List Rl) (L : List Cl) (hR1 : 1 ≤ R.length) (hR : R.length ≤ 8) (hL : L.length ≤ 1048576) (hg : ∀ x ∈ R, RuIn x) (hok : ∀ j, j < R.length → ruleB (rd_T51 R j) = true) :
    ∀ (d i n : Nat), L.length - i ≤ d → i ≤ L.length → n ≤ i → ∃ t : Nat, t ≤ L.length ∧ Ev (fun k => spec_Times.l0 k R L n i) (t : Int) ∧ Ev (fun k => impl_Times.l0 k R L n i) (t : Int) ∧ n ≤ t ∧ ∀ r ok, Ev (fun k => spec_l15From.l0 k R L i []) (r, ok) → (ok = true ↔ n < t) := by
  intro d
  induction d with
  | zero =>
    intro i n hd hi hn
    obtain ⟨r, ok, r1, r2, r3, r4, r5, r6, r7, _⟩ := fire_from R L hR hL hg hok 0 i [] (by omega) (by simp)
    have hno : ok = false := by
      cases ok
      · rfl
      · have hl := r7.1 rfl
        have := r6 0 (by simp) (by omega)
        omega
    subst hno
    refine ⟨n, by omega, Ev.step (f := fun _ => some (n : Int)) (fun k => ?_) (Ev.now _), times_i_no r2, Nat.le_refl _, fun r' ok' h => by
      have e := Ev.uniq r1 h
      cases e
      simp⟩
    simp only [spec_Times.l0]
    rw [if_neg (by omega)]
  | succ d ih =>
    intro i n hd hi hn
    by_cases hlt : i < L.length
    · obtain ⟨r, ok, r1, r2, r3, r4, r5, r6, r7, _⟩ := fire_from R L hR hL hg hok (L.length - i) i [] (by omega) (by simp)
      cases ok
      · exact ⟨n, by omega, times_s_no (Int.ofNat_lt.mpr hlt) r1, times_i_no r2, Nat.le_refl _, fun r' ok' h => by
          have e := congrArg Prod.snd (Ev.uniq r1 h)
          cases e
          exact ⟨fun x => absurd x (by decide), fun x => absurd x (Nat.lt_irrefl n)⟩⟩
      · have hl := r7.1 rfl
        obtain ⟨b1, b2⟩ := r6 (r.length - 1) (by simp) (by omega)
        obtain ⟨v, hv⟩ := Int.eq_ofNat_of_zero_le (show 0 ≤ r.getD (r.length - 1) 0 by omega)
        rw [hv] at b1 b2
        have q1 : L.length - (v + 1) ≤ d := by clear r1 r2 r5 r6 r7 hv ih hok hg; omega
        have q2 : v + 1 ≤ L.length := by clear r1 r2 r5 r6 r7 hv ih hok hg; omega
        have q3 : n + 1 ≤ v + 1 := by clear r1 r2 r5 r6 r7 hv ih hok hg; omega
        have q6 : (i : Int) < (L.length : Int) := by clear r1 r2 r5 r6 r7 hv ih hok hg; omega
        have q4 : n < 9223372036854775807 := by clear r1 r2 r5 r6 r7 hv ih hok hg; omega
        have q5 : v < 9223372036854775807 := by clear r1 r2 r5 r6 r7 hv ih hok hg; omega
        have e1 : wrap64 ((r.length : Int) - 1) = ((r.length - 1 : Nat) : Int) := by unfold wrap64; omega
        have e2 : rd r ((r.length - 1 : Nat) : Int) = (v : Int) := by unfold rd; rw [Int.toNat_natCast]; exact hv
        have e3 : wrap64 ((rd r (wrap64 ((r.length : Int) - 1))) + 1) = ((v + 1 : Nat) : Int) := by rw [e1, e2]; exact w1 q5
        have e4 : wrap64 ((n : Int) + 1) = ((n + 1 : Nat) : Int) := w1 q4
        obtain ⟨t, t0, t1, t2, t3, _⟩ := ih (v + 1) (n + 1) q1 q2 q3
        rw [← e4] at t1 t2
        have p1 : 0 ≤ wrap64 ((r.length : Int) - 1) := by rw [e1]; omega
        have p2 : wrap64 ((r.length : Int) - 1) < (r.length : Int) := by rw [e1]; omega
        exact ⟨t, t0, times_s_yes q6 p1 p2 e3 r1 t1, times_i_yes p1 p2 e3 r2 t2, Nat.le_of_succ_le t3, fun r' ok' h => by
          have e := congrArg Prod.snd (Ev.uniq r1 h)
          cases e
          exact ⟨fun _ => t3, fun _ => rfl⟩⟩
    · exact ih i n (by omega) hi hn
theorem times_what (R : List Rl) (L : List Cl) (hRl : R.length ≤ 1048576) (hL : L.length ≤ 1048576) (hg : ∀ x ∈ R, RuIn x) : ∃ t : Nat, t ≤ L.length ∧ Ev (fun k => spec_Times.f k R L) (t : Int) ∧ Ev (fun k => impl_Times.f k R L) (t : Int) ∧ (allOk R = false → t = 0) ∧ (allOk R = true → ∀ r ok, Ev (fun k => spec_l15From.l0 k R L 0 []) (r, ok) → (ok = true ↔ 0 < t)) := by
  have s := spec_right_ev R hg hRl
  have m := impl_right_ev R hg hRl
  by_cases h : allOk R = true
  · obtain ⟨h1, h2, h3⟩ := allOk_at h
    obtain ⟨t, t0, t1, t2, _, t4⟩ := times_from R L h1 h2 hL hg h3 L.length 0 0 (by omega) (by omega) (by omega)
    refine ⟨t, t0, ?_, ?_, fun e => (by rw [h] at e; cases e), fun _ => t4⟩
    · simp only [spec_Times.f]
      refine Ev.bind s ?_
      simp only [h, if_true]
      exact t1
    · simp only [impl_Times.f]
      refine Ev.bind m ?_
      simp only [h, if_true]
      exact t2
  · refine ⟨0, by omega, ?_, ?_, fun _ => rfl, fun e => absurd e h⟩
    · simp only [spec_Times.f]
      refine Ev.bind s ?_
      simp only [h]
      exact Ev.now _
    · simp only [impl_Times.f]
      refine Ev.bind m ?_
      simp only [h]
      exact Ev.now _
end Go.Proofs.Ytnoelppkcbelcaa.MFH
