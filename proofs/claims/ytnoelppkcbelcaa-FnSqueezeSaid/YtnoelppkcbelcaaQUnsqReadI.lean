/-
A cycle out of its small form: what both sides read.
-/
import Derived.Test.YtnoelppkcbelcaaMQx2
import Derived.Test.YtnoelppkcbelcaaMQx3
import Derived.Test.YtnoelppkcbelcaaQUnsqPlainI
set_option linter.unusedSimpArgs false
set_option linter.unusedVariables false
namespace Go.Proofs.Ytnoelppkcbelcaa.MQH
open Go.RowKit Go.Proofs.Ytnoelppkcbelcaa.MQ Go.Proofs.YtnoelppkcbelcaaW.PrintWords Go.Proofs.YtnoelppkcbelcaaW.PrintLast Go.Proofs.Ytnoelppkcbelcaa.Bit Go.Proofs.Ytnoelppkcbelcaa.Lst

set_option maxRecDepth 100000 in
theorem u8_bits : ∀ m : Fin 256, (Go.bits .and .u8 (m.val : Int) 1 = if tb m.val 1 = true then 1 else 0) ∧ (Go.bits .and .u8 (m.val : Int) 2 = if tb m.val 2 = true then 2 else 0) ∧ (Go.bits .and .u8 (m.val : Int) 4 = if tb m.val 4 = true then 4 else 0) ∧ (Go.bits .and .u8 (m.val : Int) 8 = if tb m.val 8 = true then 8 else 0) := by decide +kernel
set_option maxRecDepth 100000 in
theorem u8_shifts : ∀ m : Fin 256, (Go.bits .and .u8 (shr .u8 (m.val : Int) 0) 1 == 1) = tb m.val 1 ∧ (Go.bits .and .u8 (shr .u8 (m.val : Int) 1) 1 == 1) = tb m.val 2 ∧ (Go.bits .and .u8 (shr .u8 (m.val : Int) 2) 1 == 1) = tb m.val 4 ∧ (Go.bits .and .u8 (shr .u8 (m.val : Int) 3) 1 == 1) = tb m.val 8 := by decide +kernel
theorem bits_at {m : Int} (h : 0 ≤ m ∧ m < 256) : (Go.bits .and .u8 m 1 = if tb m 1 = true then 1 else 0) ∧ (Go.bits .and .u8 m 2 = if tb m 2 = true then 2 else 0) ∧ (Go.bits .and .u8 m 4 = if tb m 4 = true then 4 else 0) ∧ (Go.bits .and .u8 m 8 = if tb m 8 = true then 8 else 0) := by
  obtain ⟨n, rfl⟩ := Int.eq_ofNat_of_zero_le h.1
  exact u8_bits ⟨n, by omega⟩
theorem has_at {m : Int} (h : 0 ≤ m ∧ m < 256) : impl_has.f m 0 = some (tb m 1) ∧ impl_has.f m 1 = some (tb m 2) ∧ impl_has.f m 2 = some (tb m 4) ∧ impl_has.f m 3 = some (tb m 8) := by
  obtain ⟨n, rfl⟩ := Int.eq_ofNat_of_zero_le h.1
  obtain ⟨h0, h1, h2, h3⟩ := u8_shifts ⟨n, by omega⟩
  simp only [impl_has.f]
  refine ⟨?_, ?_, ?_, ?_⟩ <;> rw [if_pos (by omega)] <;> congr 1
/-- The upper byte of a word. -/
theorem nat_hi {a : Nat} (h : a < 65536) : a &&& 65280 = a / 256 * 256 := by
  apply Nat.eq_of_testBit_eq
  intro i
  rw [Nat.testBit_and, show a / 256 * 256 = (a >>> 8) <<< 8 by rw [Nat.shiftRight_eq_div_pow, Nat.shiftLeft_eq], show (65280 : Nat) = (2 ^ 8 - 1) <<< 8 from rfl]
  rw [Nat.testBit_shiftLeft, Nat.testBit_shiftLeft, Nat.testBit_shiftRight, Nat.testBit_two_pow_sub_one]
  by_cases h8 : 8 ≤ i
  · rw [show 8 + (i - 8) = i by omega]
    by_cases h16 : i < 16
    · simp [h8, show i - 8 < 8 by omega]
    · have : a.testBit i = false := Nat.testBit_lt_two_pow (Nat.lt_of_lt_of_le h (by
        have := Nat.pow_le_pow_right (show 0 < 2 by decide) (show 16 ≤ i by omega)
        simpa using this))
      simp [this]
  · simp [h8]
theorem u16_hi {x : Int} (h₀ : 0 ≤ x) (h₁ : x < 65536) : Go.bits .and .u16 x 65280 = x / 256 * 256 := by
  obtain ⟨a, rfl⟩ := Int.eq_ofNat_of_zero_le h₀
  have ha : a < 65536 := by omega
  rw [show (65280 : Int) = ((65280 : Nat) : Int) from rfl, (bits_nat .u16 16 (by decide) wraps_u16 a 65280 (by simpa using ha) (by decide)).1, nat_hi ha]
  simp
theorem u16_join {x y : Int} (hx₀ : 0 ≤ x) (hx : x % 256 = 0) (hx₁ : x < 65536) (h₀ : 0 ≤ y) (h₁ : y < 256) : Go.bits .or .u16 x y = x + y :=
  bits_join .u16 16 (by decide) wraps_u16 8 x y hx₀ hx hx₁ h₀ h₁ (by omega)

theorem D_short {a : Cy} {s : List Int} (h : s.length < dLen s) : D a s = (zc, 0) := if_pos h
theorem D_long {a : Cy} {s : List Int} (h : ¬ s.length < dLen s) : D a s = (⟨dAddr a s, dData a s, tb (at_ s 0) 1⟩, dLen s) := if_neg h
theorem impl_unsq {a : Cy} {s : List Int} (ha : CyOk a) (h : ∀ x ∈ s, 0 ≤ x ∧ x < 256) (h0 : 0 < s.length) (hl : s.length ≤ 4800) (k : Nat) :
    impl_unsqueeze.f (k + 2) a.f0 a.f1 a.f2 s = some ((D a s).1.f0, (D a s).1.f1, (D a s).1.f2, ((D a s).2 : Int)) := by
  obtain ⟨⟨a1, a2⟩, a3, a4⟩ := ha
  have b0 := at_in h 0
  have b1 := at_in h 1
  have b2 := at_in h 2
  have e0 : rd s 0 = at_ s 0 := rfl
  have e1 : rd s 1 = at_ s 1 := rfl
  have e2 : rd s 2 = at_ s 2 := rfl
  have e3 : rd s 3 = at_ s 3 := rfl
  obtain ⟨t0, t1, t2, t3⟩ := has_at b0
  have p0 : (0 : Int) < (s.length : Int) := by omega
  have w11 : wrap64 (1 + 1) = 2 := by unfold wrap64; omega
  have w20 : wrap64 (2 + 0) = 2 := by unfold wrap64; omega
  have w21 : wrap64 (2 + 1) = 3 := by unfold wrap64; omega
  have w22 : wrap64 (2 + 2) = 4 := by unfold wrap64; omega
  have w10 : wrap64 (1 + 0) = 1 := by unfold wrap64; omega
  have w12 : wrap64 (1 + 2) = 3 := by unfold wrap64; omega
  have x1 : IntKind.u16.wrap (at_ s 1) = at_ s 1 := by rw [u16_wrap]; omega
  have x2 : IntKind.u16.wrap (IntKind.u16.wrap (at_ s 2) * 256) = at_ s 2 * 256 := by rw [u16_wrap, u16_wrap]; omega
  have j1 : Go.bits .or .u16 (Go.bits .and .u16 a.f0 65280) (at_ s 1) = a.f0 / 256 * 256 + at_ s 1 := by
    rw [u16_hi a1 a2]
    exact u16_join (by omega) (by omega) (by omega) b1.1 b1.2
  have j2 : Go.bits .or .u16 (at_ s 2 * 256) (at_ s 1) = at_ s 1 + 256 * at_ s 2 := by
    rw [u16_join (by omega) (by omega) (by omega) b1.1 b1.2]
    omega
  simp only [impl_unsqueeze.f, if_pos p0, e0, t0, t1, t2, Option.bind_some, u16_wrap]
  cases c1 : tb (at_ s 0) 2
  · cases c2 : tb (at_ s 0) 4
    · cases c3 : tb (at_ s 0) 8
      · have hn : dLen s = 4 := by simp [dLen, ka, kd, c1, c2, c3]
        simp only [c1, c2, c3, t3, e0, e1, e2, e3, Bool.false_eq_true, if_false, if_true, impl_unsqueeze.j0, impl_unsqueeze.j1, impl_wordOf.f, if_pos p0, Option.bind_some, w11, w22, w12, x1, x2, j2]
        clear x1 x2 j1 j2 e0 e1 e2 e3 t0 t1 t2 t3 b0 b1 b2 w11 w20 w21 w22 w10 w12 a1 a2 a3 a4 h
        by_cases hs : s.length < 4
        · rw [D_short (by omega)]
          repeat (first | rw [if_pos (by omega)] | rw [if_neg (by omega)])
          all_goals rfl
        · rw [D_long (by omega), hn]
          simp only [dAddr, dData, ka, c1, c2, c3, Bool.false_eq_true, if_false, if_true]
          repeat (first | rw [if_neg (by omega)] | rw [if_pos (by omega)])
          all_goals rfl
      · have hn : dLen s = 3 := by simp [dLen, ka, kd, c1, c2, c3]
        simp only [c1, c2, c3, t3, e0, e1, e2, e3, Bool.false_eq_true, if_false, if_true, impl_unsqueeze.j0, impl_unsqueeze.j1, impl_wordOf.f, if_pos p0, Option.bind_some, w11, w12, x1, x2, j2]
        clear x1 x2 j1 j2 e0 e1 e2 e3 t0 t1 t2 t3 b0 b1 b2 w11 w20 w21 w22 w10 w12 a1 a2 a3 a4 h
        by_cases hs : s.length < 3
        · rw [D_short (by omega)]
          repeat (first | rw [if_pos (by omega)] | rw [if_neg (by omega)])
          all_goals rfl
        · rw [D_long (by omega), hn]
          simp only [dAddr, dData, ka, c1, c2, c3, Bool.false_eq_true, if_false, if_true]
          repeat (first | rw [if_neg (by omega)] | rw [if_pos (by omega)])
          all_goals rfl
    · cases c3 : tb (at_ s 0) 8
      · have hn : dLen s = 3 := by simp [dLen, ka, kd, c1, c2, c3]
        simp only [c1, c2, c3, t3, e0, e1, e2, e3, Bool.false_eq_true, if_false, if_true, impl_unsqueeze.j0, impl_unsqueeze.j1, impl_wordOf.f, if_pos p0, Option.bind_some, w11, w21, x1, j1]
        clear x1 x2 j1 j2 e0 e1 e2 e3 t0 t1 t2 t3 b0 b1 b2 w11 w20 w21 w22 w10 w12 a1 a2 a3 a4 h
        by_cases hs : s.length < 3
        · rw [D_short (by omega)]
          repeat (first | rw [if_pos (by omega)] | rw [if_neg (by omega)])
          all_goals rfl
        · rw [D_long (by omega), hn]
          simp only [dAddr, dData, ka, c1, c2, c3, Bool.false_eq_true, if_false, if_true]
          repeat (first | rw [if_neg (by omega)] | rw [if_pos (by omega)])
          all_goals rfl
      · have hn : dLen s = 2 := by simp [dLen, ka, kd, c1, c2, c3]
        simp only [c1, c2, c3, t3, e0, e1, e2, e3, Bool.false_eq_true, if_false, if_true, impl_unsqueeze.j0, impl_unsqueeze.j1, impl_wordOf.f, if_pos p0, Option.bind_some, w11, w21, x1, j1]
        clear x1 x2 j1 j2 e0 e1 e2 e3 t0 t1 t2 t3 b0 b1 b2 w11 w20 w21 w22 w10 w12 a1 a2 a3 a4 h
        by_cases hs : s.length < 2
        · rw [D_short (by omega)]
          repeat (first | rw [if_pos (by omega)] | rw [if_neg (by omega)])
          all_goals rfl
        · rw [D_long (by omega), hn]
          simp only [dAddr, dData, ka, c1, c2, c3, Bool.false_eq_true, if_false, if_true]
          repeat (first | rw [if_neg (by omega)] | rw [if_pos (by omega)])
          all_goals rfl
  · cases c3 : tb (at_ s 0) 8
    · have hn : dLen s = 2 := by simp [dLen, ka, kd, c1, c3]
      simp only [c1, c3, t3, e0, e1, e2, e3, Bool.false_eq_true, if_false, if_true, impl_unsqueeze.j0, impl_unsqueeze.j1, impl_wordOf.f, if_pos p0, Option.bind_some, w11, w20, w10]
      clear x1 x2 j1 j2 e0 e1 e2 e3 t0 t1 t2 t3 b0 b1 b2 w11 w20 w21 w22 w10 w12 a1 a2 a3 a4 h
      by_cases hs : s.length < 2
      · rw [D_short (by omega)]
        repeat (first | rw [if_pos (by omega)] | rw [if_neg (by omega)])
        all_goals rfl
      · rw [D_long (by omega), hn]
        simp only [dAddr, dData, ka, c1, c3, Bool.false_eq_true, if_false, if_true]
        repeat (first | rw [if_neg (by omega)] | rw [if_pos (by omega)])
        all_goals rfl
    · have hn : dLen s = 1 := by simp [dLen, ka, kd, c1, c3]
      simp only [c1, c3, t3, e0, e1, e2, e3, Bool.false_eq_true, if_false, if_true, impl_unsqueeze.j0, impl_unsqueeze.j1, impl_wordOf.f, if_pos p0, Option.bind_some, w11, w20, w10]
      clear x1 x2 j1 j2 e0 e1 e2 e3 t0 t1 t2 t3 b0 b1 b2 w11 w20 w21 w22 w10 w12 a1 a2 a3 a4 h
      rw [D_long (by omega), hn]
      simp only [dAddr, dData, ka, c1, c3, Bool.false_eq_true, if_false, if_true]
      repeat (first | rw [if_neg (by omega)] | rw [if_pos (by omega)])
      all_goals rfl
end Go.Proofs.Ytnoelppkcbelcaa.MQH
