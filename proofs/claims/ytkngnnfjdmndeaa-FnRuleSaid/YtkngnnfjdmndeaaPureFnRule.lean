/-
FnRule: whatever the bytes, a rule comes back from its text, and the rule for any cycle takes each.
-/
import Derived.Test.YtkngnnfjdmndeaaMQx0
import Derived.Test.YtkngnnfjdmndeaaMQx2
import Derived.Test.YtkngnnfjdmndeaaMQx4
import Derived.Test.YtkngnnfjdmndeaaMQx5
import Derived.Test.YtkngnnfjdmndeaaMQx7
import Derived.Test.YtkngnnfjdmndeaaMQx8
import Derived.Test.YtkngnnfjdmndeaaMQx9
import Derived.Test.YtkngnnfjdmndeaaQRuleBack
import Derived.Test.YtkngnnfjdmndeaaQDrawRule
set_option linter.unusedSimpArgs false
set_option linter.unusedVariables false
namespace Go.Proofs.Ytkngnnfjdmndeaa.Pure
open Go.RowKit Go.Proofs.Ytkngnnfjdmndeaa.MQ Go.Proofs.Ytkngnnfjdmndeaa.MQR Go.Proofs.Ytkngnnfjdmndeaa.MQD Go.Proofs.YtkngnnfjdmndeaaW.PrintWords Go.Proofs.YtkngnnfjdmndeaaW.PrintLast Go.Proofs.Ytkngnnfjdmndeaa.Bit Go.Proofs.Ytkngnnfjdmndeaa.Lst

abbrev eachL : List U := [(⟨0, 65535, 0, 0, 2⟩ : U)]
theorem rd_each : rd_T24 eachL 0 = (⟨0, 65535, 0, 0, 2⟩ : U) := rfl
theorem fire_hit (l : List C) (i : Nat) (hi : i < l.length) (hl : l.length = 2) (h : 0 ≤ (rd_T34 l (i : Int)).f0 ∧ (rd_T34 l (i : Int)).f0 < 65536) : Ev (fun k => impl_fire.f k eachL l (i : Int)) ([(i : Int)], true) := by
  have w : wrap64 ((i : Int) + 1) = ((i + 1 : Nat) : Int) := w1 (by omega)
  have t := each_takes (rd_T34 l (i : Int)).f0 (rd_T34 l (i : Int)).f1 (rd_T34 l (i : Int)).f2 h
  have w2 : wrap64 (0 + 1) = 1 := wrap_in (by decide) (by decide)
  unfold impl_fire.f
  refine Ev.step (f := fun k => impl_fire.l1 k l (i : Int) [] eachL ((eachL.length : Nat) : Int) 0 0 65535 0 0 2) (fun k => ?_) ?_
  · simp only [impl_fire.l0]
    rw [if_pos (by decide), if_pos (by decide), if_pos (by decide), rd_each]
  refine Ev.step (f := fun k => impl_fire.j2 k l (i : Int) [] eachL ((eachL.length : Nat) : Int) 0) (fun k => ?_) ?_
  · simp only [impl_fire.l1]
    rw [if_pos (by omega), if_pos (by omega), t]
    rfl
  refine Ev.step (f := fun k => impl_fire.l0 k l ((i + 1 : Nat) : Int) [(i : Int)] eachL ((eachL.length : Nat) : Int) 1) (fun k => ?_) ?_
  · simp only [impl_fire.j2, w, w2]
    clear w w2
    rw [if_neg (by omega), if_pos (by simp)]
    rfl
  refine Ev.step (f := fun _ => some ([(i : Int)], true)) (fun k => ?_) (Ev.now _)
  simp only [impl_fire.l0]
  rw [if_neg (by decide)]
theorem fire_miss (l : List C) (hl : l.length = 2) : Ev (fun k => impl_fire.f k eachL l 2) (([] : List Int), false) := by
  unfold impl_fire.f
  refine Ev.step (f := fun k => impl_fire.l1 k l 2 [] eachL ((eachL.length : Nat) : Int) 0 0 65535 0 0 2) (fun k => ?_) ?_
  · simp only [impl_fire.l0]
    rw [if_pos (by decide), if_pos (by decide), if_pos (by decide), rd_each]
  refine Ev.step (f := fun k => impl_fire.j2 k l 2 [] eachL ((eachL.length : Nat) : Int) 0) (fun k => ?_) ?_
  · simp only [impl_fire.l1]
    rw [if_neg (by omega)]
  refine Ev.step (f := fun _ => some (([] : List Int), false)) (fun k => ?_) (Ev.now _)
  simp only [impl_fire.j2]
  rw [if_pos (by omega)]
theorem times_two (x0 x1 : Int) (x2 : Bool) (h : 0 ≤ x0 ∧ x0 < 65536) : Ev (fun k => impl_Times.f k eachL ([(⟨x0, x1, x2⟩ : C), (⟨x0, x1, x2⟩ : C)] : List C)) 2 := by
  obtain ⟨l, hl⟩ : ∃ l, ([(⟨x0, x1, x2⟩ : C), (⟨x0, x1, x2⟩ : C)] : List C) = l := ⟨_, rfl⟩
  have n2 : l.length = 2 := by rw [← hl]; rfl
  have r0 : rd_T34 l ((0 : Nat) : Int) = (⟨x0, x1, x2⟩ : C) := by rw [← hl]; rfl
  have r1 : rd_T34 l ((1 : Nat) : Int) = (⟨x0, x1, x2⟩ : C) := by rw [← hl]; rfl
  rw [hl]
  have f0 := fire_hit l 0 (by omega) n2 (by rw [r0]; exact h)
  have f1 := fire_hit l 1 (by omega) n2 (by rw [r1]; exact h)
  have f2 := fire_miss l n2
  unfold impl_Times.f
  refine Ev.bind each_right ?_
  simp only [if_true]
  refine Ev.step (f := fun k => (impl_fire.f k eachL l ((0 : Nat) : Int)).bind fun bt => if bt.2 = true then (if 0 ≤ (wrap64 ((bt.1.length : Int) - 1)) then (if (wrap64 ((bt.1.length : Int) - 1)) < (bt.1.length : Int) then (impl_Times.l0 k eachL l (wrap64 (0 + 1)) (wrap64 ((rd bt.1 (wrap64 ((bt.1.length : Int) - 1))) + 1))) else (none)) else (none)) else (some 0)) (fun k => by simp only [impl_Times.l0]; rfl) ?_
  refine Ev.bind f0 ?_
  have a0 : wrap64 (((([((0 : Nat) : Int)] : List Int).length : Nat) : Int) - 1) = 0 := wrap_in (i := (((([((0 : Nat) : Int)] : List Int).length : Nat) : Int) - 1)) (by decide) (by decide)
  have a1 : wrap64 (0 + 1) = 1 := wrap_in (by decide) (by decide)
  have a2 : wrap64 (rd [((0 : Nat) : Int)] 0 + 1) = ((1 : Nat) : Int) := wrap_in (i := rd [((0 : Nat) : Int)] 0 + 1) (by decide) (by decide)
  simp only [if_true, a0, a1, a2, if_pos (show (0 : Int) ≤ 0 by decide), if_pos (show (0 : Int) < ((([((0 : Nat) : Int)] : List Int).length : Nat) : Int) by decide)]
  refine Ev.step (f := fun k => (impl_fire.f k eachL l ((1 : Nat) : Int)).bind fun bt => if bt.2 = true then (if 0 ≤ (wrap64 ((bt.1.length : Int) - 1)) then (if (wrap64 ((bt.1.length : Int) - 1)) < (bt.1.length : Int) then (impl_Times.l0 k eachL l (wrap64 (1 + 1)) (wrap64 ((rd bt.1 (wrap64 ((bt.1.length : Int) - 1))) + 1))) else (none)) else (none)) else (some 1)) (fun k => by simp only [impl_Times.l0]) ?_
  refine Ev.bind f1 ?_
  have b0 : wrap64 (((([((1 : Nat) : Int)] : List Int).length : Nat) : Int) - 1) = 0 := wrap_in (i := (((([((1 : Nat) : Int)] : List Int).length : Nat) : Int) - 1)) (by decide) (by decide)
  have b1 : wrap64 (1 + 1) = 2 := wrap_in (by decide) (by decide)
  have b2 : wrap64 (rd [((1 : Nat) : Int)] 0 + 1) = 2 := wrap_in (i := rd [((1 : Nat) : Int)] 0 + 1) (by decide) (by decide)
  simp only [if_true, b0, b1, b2, if_pos (show (0 : Int) ≤ 0 by decide), if_pos (show (0 : Int) < ((([((1 : Nat) : Int)] : List Int).length : Nat) : Int) by decide)]
  refine Ev.step (f := fun k => (impl_fire.f k eachL l 2).bind fun bt => if bt.2 = true then (if 0 ≤ (wrap64 ((bt.1.length : Int) - 1)) then (if (wrap64 ((bt.1.length : Int) - 1)) < (bt.1.length : Int) then (impl_Times.l0 k eachL l (wrap64 (2 + 1)) (wrap64 ((rd bt.1 (wrap64 ((bt.1.length : Int) - 1))) + 1))) else (none)) else (none)) else (some 2)) (fun k => by simp only [impl_Times.l0]) ?_
  refine Ev.bind f2 ?_
  simp only [Bool.false_eq_true, if_false]
  exact Ev.now _
theorem FnRule : laws_FnRule.Pure := by
  intro l0 hlen _ hb
  refine Ev.rounds (g := fun k => laws_FnRule.f k l0) ?_
  unfold laws_FnRule.f laws_big.f
  simp only [Option.bind_some]
  by_cases c : (l0.length : Int) > 1048576
  · simp only [decide_eq_true c, if_true]
    exact Ev.now _
  · simp only [decide_eq_false c, Bool.false_eq_true, if_false]
    have hL : (l0.length : Int) < 4611686018427387904 := by omega
    obtain ⟨a0, a1, a2, a3, a4, hd, r0, r1, r2, r3⟩ := draw_text l0 hL
    obtain ⟨_, _, _, _, _, x0, x1, x2, hx, p0, p1⟩ := draw_takes l0 hL
    obtain ⟨u0, rfl⟩ : ∃ u : Nat, a0 = (u : Int) := ⟨a0.toNat, by omega⟩
    obtain ⟨u1, rfl⟩ : ∃ u : Nat, a1 = (u : Int) := ⟨a1.toNat, by omega⟩
    obtain ⟨u3, rfl⟩ : ∃ u : Nat, a3 = (u : Int) := ⟨a3.toNat, by omega⟩
    obtain ⟨b, hb1, hb2⟩ := ruleOk_same (u0 : Int) (u1 : Int) a2 (u3 : Int) a4 r2 r3
    have tt := times_two x0 x1 x2 p0
    refine Ev.bind hd ?_
    have rest : ∀ t : ByteArray, Ev (fun k => impl_RuleText.f k (u0 : Int) (u1 : Int) a2 (u3 : Int) a4) t → Ev (fun k => laws_FnRule.j0 k t false (u0 : Int) (u1 : Int) a2 (u3 : Int) a4 x0 x1 x2) true → Ev (fun k => (impl_RuleText.f k (u0 : Int) (u1 : Int) a2 (u3 : Int) a4).bind fun t306 => ((spec_DrawTakes.f k l0).bind fun bt307 => ((impl_Takes.f 0 65535 0 0 2 bt307.2.2.2.2.2.1 bt307.2.2.2.2.2.2.1 bt307.2.2.2.2.2.2.2).bind fun t318 => (if t318 = true then ((impl_Times.f k (([(⟨0, 65535, 0, 0, 2⟩ : U)] : List U)) (([(⟨bt307.2.2.2.2.2.1, bt307.2.2.2.2.2.2.1, bt307.2.2.2.2.2.2.2⟩ : C), (⟨bt307.2.2.2.2.2.1, bt307.2.2.2.2.2.2.1, bt307.2.2.2.2.2.2.2⟩ : C)] : List C))).bind fun t325 => (laws_FnRule.j0 k t306 (t325 != 2) (u0 : Int) (u1 : Int) a2 (u3 : Int) a4 bt307.2.2.2.2.2.1 bt307.2.2.2.2.2.2.1 bt307.2.2.2.2.2.2.2)) else (laws_FnRule.j0 k t306 true (u0 : Int) (u1 : Int) a2 (u3 : Int) a4 bt307.2.2.2.2.2.1 bt307.2.2.2.2.2.2.1 bt307.2.2.2.2.2.2.2))))) true := fun t ht hj => by
      refine Ev.bind ht (Ev.bind hx ?_)
      simp only [takes_each x0 x1 x2 p0, Option.bind_some, if_true]
      exact Ev.bind tt hj
    by_cases cb : b = true
    · subst cb
      refine rest _ (text_right u0 u1 u3 a2 a4 (by omega) (by omega) (by omega) hb2) ?_
      have hr := read_back u0 u1 u3 a2 a4 (by omega) (by omega) r2 (by omega) hb2
      refine Ev.step (f := fun k => (impl_ReadRule.f k (ruleB u0 u1 a2 u3 a4)).bind fun bt327 => (if bt327.2.2.2.2.2 = true then (some (bt327.1 == (u0 : Int) && (bt327.2.1 == (u1 : Int) && (bt327.2.2.1 == a2 && (bt327.2.2.2.1 == (u3 : Int) && (bt327.2.2.2.2.1 == a4)))))) else (some false))) (fun k => ?_) ?_
      · simp only [laws_FnRule.j0, hb1, Option.bind_some, if_true, Bool.false_eq_true, if_false]
      · refine Ev.bind hr ?_
        simp only [if_true, beq_self_eq_true, Bool.and_self]
        exact Ev.now _
    · have cb' : b = false := by simpa using cb
      subst cb'
      refine rest _ (text_wrong _ _ _ _ _ hb2) ?_
      refine Ev.step (f := fun _ => some true) (fun k => ?_) (Ev.now _)
      have e : (⟨#[]⟩ : ByteArray).toList = ([] : List UInt8) := by rw [toList_data]
      simp only [laws_FnRule.j0, hb1, Option.bind_some, Bool.false_eq_true, if_false]
      rw [if_pos e]
      unfold impl_Takes.f
      rw [hb2]
      rfl
end Go.Proofs.Ytkngnnfjdmndeaa.Pure
