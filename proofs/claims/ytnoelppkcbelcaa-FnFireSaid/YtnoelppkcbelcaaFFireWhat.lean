/-
Rules one behind the other: what fires is the same on both sides, and how often.
-/
import Derived.Test.YtnoelppkcbelcaaMFx0
import Derived.Test.YtnoelppkcbelcaaMFx1
import Derived.Test.YtnoelppkcbelcaaMFx2
import Derived.Test.YtnoelppkcbelcaaMFx3
import Derived.Test.YtnoelppkcbelcaaMFx4
import Derived.Test.YtnoelppkcbelcaaFRuleSame
import Derived.Test.YtnoelppkcbelcaaLst
set_option linter.unusedSimpArgs false
set_option linter.unusedVariables false
namespace Go.Proofs.Ytnoelppkcbelcaa.MFH
open Go.RowKit Go.Proofs.Ytnoelppkcbelcaa.MF Go.Proofs.YtnoelppkcbelcaaW.PrintWords Go.Proofs.YtnoelppkcbelcaaW.PrintLast Go.Proofs.Ytnoelppkcbelcaa.Bit Go.Proofs.Ytnoelppkcbelcaa.Lst

abbrev Rl := S51
abbrev Cl := S32
def RuIn (r : Rl) : Prop := (0 ≤ r.f2 ∧ r.f2 < 256) ∧ (0 ≤ r.f3 ∧ r.f3 < 256)
def ruleB (r : Rl) : Bool := (spec_RuleOk.f r.f0 r.f1 r.f2 r.f3 r.f4).getD false
theorem ruleB_spec {r : Rl} (h : RuIn r) : spec_RuleOk.f r.f0 r.f1 r.f2 r.f3 r.f4 = some (ruleB r) := by
  obtain ⟨b, h1, h2⟩ := ruleOk_same r.f0 r.f1 r.f2 r.f3 r.f4 h.1 h.2
  unfold ruleB
  rw [h1]
  rfl
theorem ruleB_impl {r : Rl} (h : RuIn r) : impl_RuleOk.f r.f0 r.f1 r.f2 r.f3 r.f4 = some (ruleB r) := by
  obtain ⟨b, h1, h2⟩ := ruleOk_same r.f0 r.f1 r.f2 r.f3 r.f4 h.1 h.2
  unfold ruleB
  rw [h1, h2]
  rfl
def tk (r : Rl) (c : Cl) : Bool := takesB r.f0 r.f1 r.f2 r.f3 r.f4 c.f0 c.f1 c.f2
theorem tk_impl (r : Rl) (c : Cl) : impl_Rule_takes.f r.f0 r.f1 r.f2 r.f3 r.f4 c.f0 c.f1 c.f2 = some (tk r c) := rule_takes_eq _ _ _ _ _ _ _ _
theorem tk_spec {r : Rl} (h : RuIn r) (hb : ruleB r = true) (c : Cl) : spec_Takes.f r.f0 r.f1 r.f2 r.f3 r.f4 c.f0 c.f1 c.f2 = some (tk r c) := by
  unfold spec_Takes.f
  rw [ruleB_spec h, hb]
  simp only [Option.bind_some, if_true]
  have := tk_impl r c
  unfold impl_Rule_takes.f at this
  exact this
theorem rdR {l : List Rl} {P : Rl → Prop} (h : ∀ x ∈ l, P x) {i : Nat} (hi : i < l.length) : P (rd_T51 l i) := by
  unfold rd_T51
  rw [Int.toNat_natCast, List.getD_eq_getElem?_getD, List.getElem?_eq_getElem hi]
  exact h _ (List.getElem_mem hi)

/-- Are all rules right from i on? -/
def okFrom (l : List Rl) : Nat → Nat → Bool
  | 0, _ => true
  | d + 1, i => ruleB (rd_T51 l i) && okFrom l d (i + 1)
theorem okFrom_all (l : List Rl) : ∀ d i, i + d = l.length → okFrom l d i = true → ∀ j, i ≤ j → j < l.length → ruleB (rd_T51 l j) = true
  | 0, i, hi, h, j, h1, h2 => by omega
  | d + 1, i, hi, h, j, h1, h2 => by
    simp only [okFrom, Bool.and_eq_true] at h
    by_cases e : i = j
    · subst e
      exact h.1
    · exact okFrom_all l d (i + 1) (by omega) h.2 j (by omega) h2
def allOk (l : List Rl) : Bool := decide (1 ≤ l.length) && decide (l.length ≤ 8) && okFrom l l.length 0
theorem spec_right_loop (l : List Rl) (hl : l.length ≤ 8) (hg : ∀ x ∈ l, RuIn x) : ∀ d i, i + d = l.length → Ev (fun k => spec_l15Right.l0 k l i) (okFrom l d i)
  | 0, i, hi => Ev.step (f := fun _ => some true) (fun k => by simp only [spec_l15Right.l0]; rw [if_neg (by omega)]) (Ev.now _)
  | d + 1, i, hi => by
    have hr := ruleB_spec (rdR hg (i := i) (by omega))
    have ih := spec_right_loop l hl hg d (i + 1) (by omega)
    have e : ∀ k, spec_l15Right.l0 (k + 1) l i = if ruleB (rd_T51 l i) = true then spec_l15Right.l0 k l ((i + 1 : Nat) : Int) else some false := fun k => by
      simp only [spec_l15Right.l0]
      rw [if_pos (by omega), if_pos (by omega), hr, w1 (by omega)]
      rfl
    by_cases hb : ruleB (rd_T51 l i) = true
    · simp only [okFrom, hb, Bool.true_and]
      exact Ev.step (fun k => by rw [e, if_pos hb]) ih
    · simp only [okFrom, hb, Bool.false_and]
      exact Ev.step (f := fun _ => some false) (fun k => by rw [e, if_neg hb]) (Ev.now _)
theorem spec_right_ev (l : List Rl) (hg : ∀ x ∈ l, RuIn x) (hl : l.length ≤ 1048576) : Ev (fun k => spec_l15Right.f k l) (allOk l) := by
  unfold allOk
  by_cases h0 : l.length = 0
  · have e : ∀ k, spec_l15Right.f k l = spec_l15Right.j0 k l true := fun k => by
      simp only [spec_l15Right.f]
      rw [if_pos (by omega)]
    refine Ev.congr e (Ev.step (f := fun _ => some false) (fun k => by simp only [spec_l15Right.j0, if_true]) ?_)
    rw [decide_eq_false (by omega)]
    exact Ev.now _
  · have e : ∀ k, spec_l15Right.f k l = spec_l15Right.j0 k l (decide ((l.length : Int) > 8)) := fun k => by
      simp only [spec_l15Right.f]
      rw [if_neg (by omega)]
    refine Ev.congr e ?_
    by_cases h8 : l.length ≤ 8
    · rw [decide_eq_false (show ¬ (l.length : Int) > 8 by omega)]
      have := spec_right_loop l h8 hg l.length 0 (by omega)
      rw [decide_eq_true (show 1 ≤ l.length by omega), decide_eq_true h8]
      exact Ev.step (f := fun k => spec_l15Right.l0 k l 0) (fun k => by simp only [spec_l15Right.j0, Bool.false_eq_true, if_false]) this
    · rw [decide_eq_true (show (l.length : Int) > 8 by omega)]
      refine Ev.step (f := fun _ => some false) (fun k => by simp only [spec_l15Right.j0, if_true]) ?_
      rw [decide_eq_false h8]
      simp only [Bool.and_false, Bool.false_and]
      exact Ev.now _
theorem impl_index_loop (l : List Rl) (hl : l.length ≤ 8) (hg : ∀ x ∈ l, RuIn x) : ∀ d i, i + d = l.length → ∃ v : Int, Ev (fun k => impl_Rule_87.l0 k l l.length i) v ∧ (okFrom l d i = decide (v < 0))
  | 0, i, hi => ⟨-1, Ev.step (f := fun _ => some (-1)) (fun k => by simp only [impl_Rule_87.l0]; rw [if_neg (by omega)]) (Ev.now _), by simp [okFrom]⟩
  | d + 1, i, hi => by
    have hr := ruleB_impl (rdR hg (i := i) (by omega))
    obtain ⟨v, ih, hv⟩ := impl_index_loop l hl hg d (i + 1) (by omega)
    have e : ∀ k, impl_Rule_87.l0 (k + 1) l l.length i = if (!ruleB (rd_T51 l i)) = true then some (i : Int) else impl_Rule_87.l0 k l l.length ((i + 1 : Nat) : Int) := fun k => by
      simp only [impl_Rule_87.l0, impl_areRules_1.f]
      rw [if_pos (by omega), if_pos (by omega), if_pos (by omega), hr, w1 (by omega)]
      rfl
    by_cases hb : ruleB (rd_T51 l i) = true
    · exact ⟨v, Ev.step (fun k => by rw [e, if_neg (by simp [hb])]) ih, by simp only [okFrom, hb, Bool.true_and]; exact hv⟩
    · exact ⟨i, Ev.step (f := fun _ => some (i : Int)) (fun k => by rw [e, if_pos (by simp [hb])]) (Ev.now _), by simp only [okFrom, hb, Bool.false_and]; rw [decide_eq_false (by omega)]⟩
theorem impl_right_ev (l : List Rl) (hg : ∀ x ∈ l, RuIn x) (hl : l.length ≤ 1048576) : Ev (fun k => impl_areRules.f k l) (allOk l) := by
  simp only [impl_areRules.f, impl_within.f]
  unfold allOk
  by_cases h0 : l.length = 0
  · rw [if_neg (by omega)]
    simp only [Option.bind_some, Bool.false_eq_true, if_false]
    rw [decide_eq_false (by omega)]
    exact Ev.now _
  · rw [if_pos (by omega)]
    by_cases h8 : l.length ≤ 8
    · rw [decide_eq_true (show (l.length : Int) ≤ 8 by omega), decide_eq_true (show 1 ≤ l.length by omega), decide_eq_true h8]
      simp only [Option.bind_some, if_true, Bool.true_and]
      obtain ⟨v, h1, h2⟩ := impl_index_loop l h8 hg l.length 0 (by omega)
      refine Ev.bind (a := decide (v ≥ 0)) ?_ ?_
      · simp only [impl_Rule_68.f, impl_Rule_87.f]
        exact Ev.bind h1 (Ev.now _)
      · rw [h2]
        have : (!decide (v ≥ 0)) = decide (v < 0) := by
          by_cases hv : v < 0
          · rw [decide_eq_true hv, decide_eq_false (by omega)]; rfl
          · rw [decide_eq_false hv, decide_eq_true (by omega)]; rfl
        rw [this]
        exact Ev.now _
    · rw [decide_eq_false (show ¬ (l.length : Int) ≤ 8 by omega), decide_eq_false h8]
      simp only [Option.bind_some, Bool.false_eq_true, if_false, Bool.and_false, Bool.false_and]
      exact Ev.now _

theorem Ev.thru {α β : Type} {g : Nat → Option α} {a : α} {F f : Nat → Option β} {r : β} (h : Ev g a) (e : ∀ k, g k = some a → F (k + 1) = f k) (hf : Ev f r) : Ev F r := by
  obtain ⟨K, hK⟩ := h
  obtain ⟨K2, hK2⟩ := hf
  refine ⟨K + K2 + 1, fun k hk => ?_⟩
  obtain ⟨j, rfl⟩ : ∃ j, k = j + 1 := ⟨k - 1, by omega⟩
  rw [e j (hK j (by omega))]
  exact hK2 j (by omega)
theorem Ev.unstep {α : Type} {g f : Nat → Option α} {r : α} (h : ∀ k, g (k + 1) = f k) (e : Ev g r) : Ev f r := by
  obtain ⟨K, hK⟩ := e
  exact ⟨K, fun k hk => by rw [← h]; exact hK (k + 1) (by omega)⟩

/-- Places one behind the other, each the first that is taken. -/
def Fits (R : List Rl) (L : List Cl) : Nat → Nat → List Int → Prop
  | _, _, [] => True
  | i, j, x :: xs => ∃ n : Nat, x = (n : Int) ∧ i ≤ n ∧ n < L.length ∧ tk (rd_T51 R (j : Nat)) (rd_T32 L (n : Nat)) = true ∧ (∀ m : Nat, i ≤ m → m < n → tk (rd_T51 R (j : Nat)) (rd_T32 L (m : Nat)) = false) ∧ Fits R L (n + 1) (j + 1) xs
theorem Fits.back {R : List Rl} {L : List Cl} {i j : Nat} (h : tk (rd_T51 R (j : Nat)) (rd_T32 L (i : Nat)) = false) : ∀ {xs : List Int}, Fits R L (i + 1) j xs → Fits R L i j xs
  | [], _ => trivial
  | _ :: _, ⟨n, h1, h2, h3, h4, h5, h6⟩ => ⟨n, h1, by omega, h3, h4, fun m q1 q2 => by
      rcases Nat.eq_or_lt_of_le q1 with e | e
      · rw [← e]
        exact h
      · exact h5 m e q2, h6⟩
/-- From a place on, with some places found already. -/
theorem fire_from (R : List Rl) (L : List Cl) (hR : R.length ≤ 8) (hL : L.length ≤ 1048576) (hg : ∀ x ∈ R, RuIn x) (hok : ∀ j, j < R.length → ruleB (rd_T51 R j) = true) :
    ∀ (d i : Nat) (out : List Int), i + d = L.length → out.length ≤ R.length → ∃ (r : List Int) (ok : Bool), Ev (fun k => spec_l15From.l0 k R L i out) (r, ok) ∧
      Ev (fun k => impl_fire.l0 k L i out R R.length (out.length : Int)) (if ok then r else [], ok) ∧ (r.length ≤ R.length) ∧ (out.length ≤ r.length) ∧ (∀ j, j < out.length → r.getD j 0 = out.getD j 0) ∧
      (∀ j, out.length ≤ j → j < r.length → (i : Int) ≤ r.getD j 0 ∧ r.getD j 0 < L.length) ∧ (ok = true ↔ r.length = R.length) ∧ ∃ rest, r = out ++ rest ∧ Fits R L i out.length rest
  | d, i, out, hi, ho => by
    have hout : (out.length : Int) = ((out.length : Nat) : Int) := rfl
    by_cases hfull : out.length = R.length
    · -- all rules have fired
      refine ⟨out, true, ?_, ?_, by omega, by omega, fun _ _ => rfl, fun j h1 h2 => by omega, by simp [hfull], [], by simp, trivial⟩
      · refine Ev.step (f := fun k => spec_l15From.j1 k R L i out false) (fun k => ?_) (Ev.step (f := fun _ => some (out, true)) (fun k => ?_) (Ev.now _))
        · simp only [spec_l15From.l0]
          by_cases h : (i : Int) < (L.length : Int)
          · rw [if_pos h, decide_eq_false (by omega)]
          · rw [if_neg h]
        · simp only [spec_l15From.j1, Bool.false_eq_true, if_false]
          rw [hfull]
          simp
      · refine Ev.step (f := fun _ => some (out, true)) (fun k => ?_) (Ev.now _)
        simp only [impl_fire.l0]
        rw [if_neg (by omega)]
    · have hlt : out.length < R.length := by omega
      have himpl : ∀ k (i : Int), impl_fire.l0 (k + 1) L i out R R.length (out.length : Int) = impl_fire.l1 k L i out R R.length (out.length : Int) (rd_T51 R (out.length : Int)).f0 (rd_T51 R (out.length : Int)).f1 (rd_T51 R (out.length : Int)).f2 (rd_T51 R (out.length : Int)).f3 (rd_T51 R (out.length : Int)).f4 := fun k i => by
        simp only [impl_fire.l0]
        rw [if_pos (by omega), if_pos (by omega), if_pos (by omega)]
      match d, hi with
      | 0, hi =>
        refine ⟨out, false, ?_, ?_, by omega, by omega, fun _ _ => rfl, fun j h1 h2 => by omega, by simp [hfull], [], by simp, trivial⟩
        · refine Ev.step (f := fun k => spec_l15From.j1 k R L i out false) (fun k => ?_) (Ev.step (f := fun _ => some (out, false)) (fun k => ?_) (Ev.now _))
          · simp only [spec_l15From.l0]
            rw [if_neg (by omega)]
          · simp only [spec_l15From.j1, Bool.false_eq_true, if_false]
            have : ((out.length : Int) == (R.length : Int)) = false := by simp; omega
            rw [this]
        · refine Ev.step (fun k => himpl k i) (Ev.step (f := fun _ => some ([], false)) (fun k => ?_) (Ev.now _))
          simp only [impl_fire.l1]
          rw [if_neg (by omega), if_pos (by omega)]
      | d + 1, hi =>
        have hrule := rdR hg (i := out.length) hlt
        have ht := tk_spec hrule (hok _ hlt) (rd_T32 L i)
        have ht2 := tk_impl (rd_T51 R out.length) (rd_T32 L i)
        have hspec : ∀ k, spec_l15From.l0 (k + 1) R L i out = spec_l15From.j1 k R L i out true := fun k => by
          simp only [spec_l15From.l0]
          rw [if_pos (by omega), decide_eq_true (by omega)]
        have hspec2 : ∀ k, spec_l15From.j1 (k + 1) R L i out true = if tk (rd_T51 R out.length) (rd_T32 L i) = true then spec_l15From.l0 k R L ((i + 1 : Nat) : Int) (out ++ [(i : Int)]) else spec_l15From.l0 k R L ((i + 1 : Nat) : Int) out := fun k => by
          simp only [spec_l15From.j1, if_true]
          rw [if_pos (by omega), if_pos (by omega), if_pos (by omega), if_pos (by omega), ht, w1 (by omega)]
          simp only [Option.bind_some]
          rw [if_pos (show out.length < 17592186044416 by omega)]
        have himpl2 : ∀ k, impl_fire.l1 (k + 1) L i out R R.length (out.length : Int) (rd_T51 R (out.length : Int)).f0 (rd_T51 R (out.length : Int)).f1 (rd_T51 R (out.length : Int)).f2 (rd_T51 R (out.length : Int)).f3 (rd_T51 R (out.length : Int)).f4 =
            if tk (rd_T51 R out.length) (rd_T32 L i) = true then impl_fire.l0 k L ((i + 1 : Nat) : Int) (out ++ [(i : Int)]) R R.length ((out.length + 1 : Nat) : Int) else impl_fire.l1 k L ((i + 1 : Nat) : Int) out R R.length (out.length : Int) (rd_T51 R (out.length : Int)).f0 (rd_T51 R (out.length : Int)).f1 (rd_T51 R (out.length : Int)).f2 (rd_T51 R (out.length : Int)).f3 (rd_T51 R (out.length : Int)).f4 := fun k => by
          simp only [impl_fire.l1]
          rw [if_pos (by omega), if_pos (by omega), ht2, w1 (by omega)]
          simp only [Option.bind_some]
          rw [if_neg (show ¬ (i : Int) = (L.length : Int) by omega), if_pos (show out.length < 17592186044416 by omega), w1 (i := out.length) (by omega)]
        by_cases hb : tk (rd_T51 R out.length) (rd_T32 L i) = true
        · obtain ⟨r, ok, r1, r2, r3, r4, r5, r6, r7, rest, r8, r9⟩ := fire_from R L hR hL hg hok d (i + 1) (out ++ [(i : Int)]) (by omega) (by simp; omega)
          have hlen : (out ++ [(i : Int)]).length = out.length + 1 := by simp
          rw [hlen] at r2 r4 r9
          refine ⟨r, ok, Ev.step hspec (Ev.step (fun k => by rw [hspec2, if_pos hb]) r1), Ev.step (fun k => himpl k i) (Ev.step (fun k => by rw [himpl2, if_pos hb]) r2), r3, by omega, fun j hj => ?_, fun j h1 h2 => ?_, r7, (i : Int) :: rest, by rw [r8, List.append_assoc]; rfl, i, rfl, Nat.le_refl _, by omega, hb, fun m q1 q2 => by omega, r9⟩
          · rw [r5 j (by omega)]
            simp [List.getD_eq_getElem?_getD, List.getElem?_append_left hj]
          · by_cases e : j = out.length
            · subst e
              rw [r5 _ (by omega)]
              simp [List.getD_eq_getElem?_getD]
              omega
            · have := r6 j (by omega) h2
              omega
        · obtain ⟨r, ok, r1, r2, r3, r4, r5, r6, r7, rest, r8, r9⟩ := fire_from R L hR hL hg hok d (i + 1) out (by omega) ho
          have r2' := Ev.unstep (fun k => himpl k ((i + 1 : Nat) : Int)) r2
          refine ⟨r, ok, Ev.step hspec (Ev.step (fun k => by rw [hspec2, if_neg hb]) r1), Ev.step (fun k => himpl k i) (Ev.step (fun k => by rw [himpl2, if_neg hb]) r2'), r3, r4, r5, fun j h1 h2 => ?_, r7, rest, r8, r9.back (Bool.eq_false_iff.2 hb)⟩
          have := r6 j h1 h2
          omega

theorem allOk_at {R : List Rl} (h : allOk R = true) : 1 ≤ R.length ∧ R.length ≤ 8 ∧ ∀ j, j < R.length → ruleB (rd_T51 R j) = true := by
  unfold allOk at h
  simp only [Bool.and_eq_true, decide_eq_true_eq] at h
  exact ⟨h.1.1, h.1.2, fun j hj => okFrom_all R R.length 0 (by omega) h.2 j (by omega) hj⟩
end Go.Proofs.Ytnoelppkcbelcaa.MFH
