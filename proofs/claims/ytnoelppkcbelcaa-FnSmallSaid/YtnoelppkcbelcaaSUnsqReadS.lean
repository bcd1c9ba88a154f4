/-
A cycle out of its small form: what both sides read.
-/
import Derived.Test.YtnoelppkcbelcaaMSx1
import Derived.Test.YtnoelppkcbelcaaMSx2
import Derived.Test.YtnoelppkcbelcaaMSx5
import Derived.Test.YtnoelppkcbelcaaMSx6
import Derived.Test.YtnoelppkcbelcaaSUnsqPlainS
set_option linter.unusedSimpArgs false
set_option linter.unusedVariables false
namespace Go.Proofs.Ytnoelppkcbelcaa.MSH
open Go.RowKit Go.Proofs.Ytnoelppkcbelcaa.MS Go.Proofs.YtnoelppkcbelcaaW.PrintWords Go.Proofs.YtnoelppkcbelcaaW.PrintLast Go.Proofs.Ytnoelppkcbelcaa.Bit Go.Proofs.Ytnoelppkcbelcaa.Lst
set_option maxRecDepth 100000 in
theorem u8_bits : ∀ m : Fin 256, (Go.bits .and .u8 (m.val : Int) 1 = if tb m.val 1 = true then 1 else 0) ∧ (Go.bits .and .u8 (m.val : Int) 2 = if tb m.val 2 = true then 2 else 0) ∧ (Go.bits .and .u8 (m.val : Int) 4 = if tb m.val 4 = true then 4 else 0) ∧ (Go.bits .and .u8 (m.val : Int) 8 = if tb m.val 8 = true then 8 else 0) := by decide +kernel
set_option maxRecDepth 100000 in
theorem u8_shifts : ∀ m : Fin 256, (Go.bits .and .u8 (shr .u8 (m.val : Int) 0) 1 == 1) = tb m.val 1 ∧ (Go.bits .and .u8 (shr .u8 (m.val : Int) 1) 1 == 1) = tb m.val 2 ∧ (Go.bits .and .u8 (shr .u8 (m.val : Int) 2) 1 == 1) = tb m.val 4 ∧ (Go.bits .and .u8 (shr .u8 (m.val : Int) 3) 1 == 1) = tb m.val 8 := by decide +kernel
theorem bits_at {m : Int} (h : 0 ≤ m ∧ m < 256) : (Go.bits .and .u8 m 1 = if tb m 1 = true then 1 else 0) ∧ (Go.bits .and .u8 m 2 = if tb m 2 = true then 2 else 0) ∧ (Go.bits .and .u8 m 4 = if tb m 4 = true then 4 else 0) ∧ (Go.bits .and .u8 m 8 = if tb m 8 = true then 8 else 0) := by
 obtain ⟨n, rfl⟩ := Int.eq_ofNat_of_zero_le h.1
 exact u8_bits ⟨n, by omega⟩
theorem has_at {m : Int} (h : 0 ≤ m ∧ m < 256) : impl_has.f m 0 = some (tb m 1) ∧ impl_has.f m 1 = some (tb m 2) ∧ impl_has.f m 2 = some (tb m 4) ∧ impl_has.f m 3 = some (tb m 8) := by
 obtain ⟨n, rfl⟩ := Int.eq_ofNat_of_zero_le h.1
 obtain ⟨h0, h1, h2, h3⟩ := u8_shifts ⟨n, by omega⟩
 simp only [impl_has.f]
 refine ⟨?_, ?_, ?_, ?_⟩ <;> rw [if_pos (by omega)] <;> congr 1
theorem nat_hi {a : Nat} (h : a < 65536) : a &&& 65280 = a / 256 * 256 := by
 apply Nat.eq_of_testBit_eq
 intro i
 rw [Nat.testBit_and, show a / 256 * 256 = (a >>> 8) <<< 8 by rw [Nat.shiftRight_eq_div_pow, Nat.shiftLeft_eq], show (65280 : Nat) = (2 ^ 8 - 1) <<< 8 from rfl]
 rw [Nat.testBit_shiftLeft, Nat.testBit_shiftLeft, Nat.testBit_shiftRight, Nat.testBit_two_pow_sub_one]
 by_cases h8 : 8 ≤ i
 ·rw [show 8 + (i - 8) = i by omega]
  by_cases h16 : i < 16
  ·simp [h8, show i - 8 < 8 by omega]
  ·have : a.testBit i = false := Nat.testBit_lt_two_pow (Nat.lt_of_lt_of_le h (by
    have := Nat.pow_le_pow_right (show 0 < 2 by decide) (show 16 ≤ i by omega)
    simpa using this))
   simp [this]
 ·simp [h8]
theorem u16_hi {x : Int} (h₀ : 0 ≤ x) (h₁ : x < 65536) : Go.bits .and .u16 x 65280 = x / 256 * 256 := by
 obtain ⟨a, rfl⟩ := Int.eq_ofNat_of_zero_le h₀
 have ha : a < 65536 := by omega
 rw [show (65280 : Int) = ((65280 : Nat) : Int) from rfl, (bits_nat .u16 16 (by decide) wraps_u16 a 65280 (by simpa using ha) (by decide)).1, nat_hi ha]
 simp
theorem u16_join {x y : Int} (hx₀ : 0 ≤ x) (hx : x % 256 = 0) (hx₁ : x < 65536) (h₀ : 0 ≤ y) (h₁ : y < 256) : Go.bits .or .u16 x y = x + y :=
 bits_join .u16 16 (by decide) wraps_u16 8 x y hx₀ hx hx₁ h₀ h₁ (by omega)
theorem D_short {a : Cy} {s : List Int} (h : s.length < dLen s) : D a s = (zc, 0) := if_pos h
theorem D_long {a : Cy} {s : List Int} (h : ¬ s.length < dLen s) : D a s = (⟨dAddr a s, dData a s, tb (at_ s 0) 1⟩, dLen s) := if_neg h
theorem impl_unsq {a : Cy} {s : List Int} (ha : CyOk a) (h : ∀ x ∈ s, 0 ≤ x ∧ x < 256) (h0 : 0 < s.length) (hl : s.length ≤ 4800) (k : Nat) :
  impl_unsqueeze.f (k + 2) a.f0 a.f1 a.f2 s = some ((D a s).1.f0, (D a s).1.f1, (D a s).1.f2, ((D a s).2 : Int)) := by
 obtain ⟨⟨a1, a2⟩, a3, a4⟩ := ha
 have b0 := at_in h 0
 have b1 := at_in h 1
 have b2 := at_in h 2
 have e0 : rd s 0 = at_ s 0 := rfl
 have e1 : rd s 1 = at_ s 1 := rfl
 have e2 : rd s 2 = at_ s 2 := rfl
 have e3 : rd s 3 = at_ s 3 := rfl
 obtain ⟨t0, t1, t2, t3⟩ := has_at b0
 have p0 : (0 : Int) < (s.length : Int) := by omega
 have w11 : wrap64 (1 + 1) = 2 := by unfold wrap64; omega
 have w20 : wrap64 (2 + 0) = 2 := by unfold wrap64; omega
 have w21 : wrap64 (2 + 1) = 3 := by unfold wrap64; omega
 have w22 : wrap64 (2 + 2) = 4 := by unfold wrap64; omega
 have w10 : wrap64 (1 + 0) = 1 := by unfold wrap64; omega
 have w12 : wrap64 (1 + 2) = 3 := by unfold wrap64; omega
 have x1 : IntKind.u16.wrap (at_ s 1) = at_ s 1 := by rw [u16_wrap]; omega
 have x2 : IntKind.u16.wrap (IntKind.u16.wrap (at_ s 2) * 256) = at_ s 2 * 256 := by rw [u16_wrap, u16_wrap]; omega
 have j1 : Go.bits .or .u16 (Go.bits .and .u16 a.f0 65280) (at_ s 1) = a.f0 / 256 * 256 + at_ s 1 := by
  rw [u16_hi a1 a2]
  exact u16_join (by omega) (by omega) (by omega) b1.1 b1.2
 have j2 : Go.bits .or .u16 (at_ s 2 * 256) (at_ s 1) = at_ s 1 + 256 * at_ s 2 := by
  rw [u16_join (by omega) (by omega) (by omega) b1.1 b1.2]
  omega
 simp only [impl_unsqueeze.f, if_pos p0, e0, t0, t1, t2, Option.bind_some, u16_wrap]
 cases c1 : tb (at_ s 0) 2
 ·cases c2 : tb (at_ s 0) 4
  ·cases c3 : tb (at_ s 0) 8
   ·have hn : dLen s = 4 := by simp [dLen, ka, kd, c1, c2, c3]
    simp only [c1, c2, c3, t3, e0, e1, e2, e3, Bool.false_eq_true, if_false, if_true, impl_unsqueeze.j0, impl_unsqueeze.j1, impl_wordOf.f, if_pos p0, Option.bind_some, w11, w22, w12, x1, x2, j2]
    clear x1 x2 j1 j2 e0 e1 e2 e3 t0 t1 t2 t3 b0 b1 b2 w11 w20 w21 w22 w10 w12 a1 a2 a3 a4 h
    by_cases hs : s.length < 4
    ·rw [D_short (by omega)]
     repeat (first | rw [if_pos (by omega)] | rw [if_neg (by omega)])
     all_goals rfl
    ·rw [D_long (by omega), hn]
     simp only [dAddr, dData, ka, c1, c2, c3, Bool.false_eq_true, if_false, if_true]
     repeat (first | rw [if_neg (by omega)] | rw [if_pos (by omega)])
     all_goals rfl
   ·have hn : dLen s = 3 := by simp [dLen, ka, kd, c1, c2, c3]
    simp only [c1, c2, c3, t3, e0, e1, e2, e3, Bool.false_eq_true, if_false, if_true, impl_unsqueeze.j0, impl_unsqueeze.j1, impl_wordOf.f, if_pos p0, Option.bind_some, w11, w12, x1, x2, j2]
    clear x1 x2 j1 j2 e0 e1 e2 e3 t0 t1 t2 t3 b0 b1 b2 w11 w20 w21 w22 w10 w12 a1 a2 a3 a4 h
    by_cases hs : s.length < 3
    ·rw [D_short (by omega)]
     repeat (first | rw [if_pos (by omega)] | rw [if_neg (by omega)])
     all_goals rfl
    ·rw [D_long (by omega), hn]
     simp only [dAddr, dData, ka, c1, c2, c3, Bool.false_eq_true, if_false, if_true]
     repeat (first | rw [if_neg (by omega)] | rw [if_pos (by omega)])
     all_goals rfl
  ·cases c3 : tb (at_ s 0) 8
   ·have hn : dLen s = 3 := by simp [dLen, ka, kd, c1, c2, c3]
    simp only [c1, c2, c3, t3, e0, e1, e2, e3, Bool.false_eq_true, if_false, if_true, impl_unsqueeze.j0, impl_unsqueeze.j1, impl_wordOf.f, if_pos p0, Option.bind_some, w11, w21, x1, j1]
    clear x1 x2 j1 j2 e0 e1 e2 e3 t0 t1 t2 t3 b0 b1 b2 w11 w20 w21 w22 w10 w12 a1 a2 a3 a4 h
    by_cases hs : s.length < 3
    ·rw [D_short (by omega)]
     repeat (first | rw [if_pos (by omega)] | rw [if_neg (by omega)])
     all_goals rfl
    ·rw [D_long (by omega), hn]
     simp only [dAddr, dData, ka, c1, c2, c3, Bool.false_eq_true, if_false, if_true]
     repeat (first | rw [if_neg (by omega)] | rw [if_pos (by omega)])
     all_goals rfl
   ·have hn : dLen s = 2 := by simp [dLen, ka, kd, c1, c2, c3]
    simp only [c1, c2, c3, t3, e0, e1, e2, e3, Bool.false_eq_true, if_false, if_true, impl_unsqueeze.j0, impl_unsqueeze.j1, impl_wordOf.f, if_pos p0, Option.bind_some, w11, w21, x1, j1]
    clear x1 x2 j1 j2 e0 e1 e2 e3 t0 t1 t2 t3 b0 b1 b2 w11 w20 w21 w22 w10 w12 a1 a2 a3 a4 h
    by_cases hs : s.length < 2
    ·rw [D_short (by omega)]
     repeat (first | rw [if_pos (by omega)] | rw [if_neg (by omega)])
     all_goals rfl
    ·rw [D_long (by omega), hn]
     simp only [dAddr, dData, ka, c1, c2, c3, Bool.false_eq_true, if_false, if_true]
     repeat (first | rw [if_neg (by omega)] | rw [if_pos (by omega)])
     all_goals rfl
 ·cases c3 : tb (at_ s 0) 8
  ·have hn : dLen s = 2 := by simp [dLen, ka, kd, c1, c3]
   simp only [c1, c3, t3, e0, e1, e2, e3, Bool.false_eq_true, if_false, if_true, impl_unsqueeze.j0, impl_unsqueeze.j1, impl_wordOf.f, if_pos p0, Option.bind_some, w11, w20, w10]
   clear x1 x2 j1 j2 e0 e1 e2 e3 t0 t1 t2 t3 b0 b1 b2 w11 w20 w21 w22 w10 w12 a1 a2 a3 a4 h
   by_cases hs : s.length < 2
   ·rw [D_short (by omega)]
    repeat (first | rw [if_pos (by omega)] | rw [if_neg (by omega)])
    all_goals rfl
   ·rw [D_long (by omega), hn]
    simp only [dAddr, dData, ka, c1, c3, Bool.false_eq_true, if_false, if_true]
    repeat (first | rw [if_neg (by omega)] | rw [if_pos (by omega)])
    all_goals rfl
  ·have hn : dLen s = 1 := by simp [dLen, ka, kd, c1, c3]
   simp only [c1, c3, t3, e0, e1, e2, e3, Bool.false_eq_true, if_false, if_true, impl_unsqueeze.j0, impl_unsqueeze.j1, impl_wordOf.f, if_pos p0, Option.bind_some, w11, w20, w10]
   clear x1 x2 j1 j2 e0 e1 e2 e3 t0 t1 t2 t3 b0 b1 b2 w11 w20 w21 w22 w10 w12 a1 a2 a3 a4 h
   rw [D_long (by omega), hn]
   simp only [dAddr, dData, ka, c1, c3, Bool.false_eq_true, if_false, if_true]
   repeat (first | rw [if_neg (by omega)] | rw [if_pos (by omega)])
   all_goals rfl
theorem wi1 {i : Nat} (h : i ≤ 4800) : wrap64 ((i : Int) + 1) = (i : Int) + 1 := wrap_in (by omega) (by omega)
theorem wi2 {i : Nat} (h : i ≤ 4800) : wrap64 ((i : Int) + 2) = (i : Int) + 2 := wrap_in (by omega) (by omega)
theorem wi3 {i : Nat} (h : i ≤ 4800) : wrap64 ((i : Int) + 3) = (i : Int) + 3 := wrap_in (by omega) (by omega)
theorem wi4 {i : Nat} (h : i ≤ 4800) : wrap64 ((i : Int) + 4) = (i : Int) + 4 := wrap_in (by omega) (by omega)
theorem w11_ : wrap64 (1 + 1) = 2 := by unfold wrap64; omega
theorem w21_ : wrap64 (2 + 1) = 3 := by unfold wrap64; omega
theorem w31_ : wrap64 (3 + 1) = 4 := by unfold wrap64; omega
theorem rd_drop {b : List Int} {i j : Nat} : rd b ((i : Int) + (j : Int)) = at_ (b.drop i) j := by
 unfold rd at_
 rw [show ((i : Int) + (j : Int)).toNat = i + j by omega]
 simp [List.getD_eq_getElem?_getD]
theorem ei0 (b : List Int) (i : Nat) : rd b (i : Int) = at_ (b.drop i) 0 := by
 rw [← rd_drop]
 simp
theorem ei1 (b : List Int) (i : Nat) : rd b ((i : Int) + 1) = at_ (b.drop i) 1 := rd_drop (j := 1)
theorem ei2 (b : List Int) (i : Nat) : rd b ((i : Int) + 2) = at_ (b.drop i) 2 := rd_drop (j := 2)
theorem ei3 (b : List Int) (i : Nat) : rd b ((i : Int) + 3) = at_ (b.drop i) 3 := rd_drop (j := 3)
theorem word_is {x y : Int} (hx : 0 ≤ x ∧ x < 256) (hy : 0 ≤ y ∧ y < 256) : spec_l04Word.f x y = some (x + 256 * y) := by
 unfold spec_l04Word.f
 congr 1
 rw [wrap_in (i := y) (by omega) (by omega), wrap_in (i := x) (by omega) (by omega), wrap_in (i := 256 * y) (by omega) (by omega), wrap_in (i := x + 256 * y) (by omega) (by omega)]
theorem word_wrap {x y : Int} (hx : 0 ≤ x ∧ x < 256) (hy : 0 ≤ y ∧ y < 256) : IntKind.u16.wrap (x + 256 * y) = x + 256 * y := by
 rw [u16_wrap]
 omega
theorem page_is {a x : Int} (ha : 0 ≤ a) (ha2 : a < 65536) (hx : 0 ≤ x ∧ x < 256) : IntKind.u16.wrap (IntKind.u16.wrap (IntKind.u16.wrap (Int.tdiv a 256) * 256) + IntKind.u16.wrap x) = a / 256 * 256 + x := by
 rw [tdiv256 ha]
 simp only [u16_wrap]
 omega
theorem spec_read {a : Cy} {b : List Int} {i : Nat} (ha : CyOk a) (h : ∀ x ∈ b, 0 ≤ x ∧ x < 256) (h0 : i < b.length) (hl : b.length ≤ 4800) (k : Nat) :
  spec_l16Read.f (k + 3) b i a.f0 a.f1 a.f2 = some (if at_ (b.drop i) 0 > 15 then (0, 0, false, 0) else ((D a (b.drop i)).1.f0, (D a (b.drop i)).1.f1, (D a (b.drop i)).1.f2, ((D a (b.drop i)).2 : Int))) := by
 obtain ⟨⟨a1, a2⟩, a3, a4⟩ := ha
 have hin : ∀ x ∈ b.drop i, 0 ≤ x ∧ x < 256 := fun x hx => h x (List.mem_of_mem_drop hx)
 have b0 := at_in hin 0
 have b1 := at_in hin 1
 have b2 := at_in hin 2
 have e0 := ei0 b i
 have e1 := ei1 b i
 have e2 := ei2 b i
 have e3 := ei3 b i
 have hlen : (b.drop i).length = b.length - i := by simp
 obtain ⟨t0, t1, t2, t3⟩ := bits_at b0
 have f0 : (Go.bits .and .u8 (at_ (b.drop i) 0) 1 != 0) = tb (at_ (b.drop i) 0) 1 := by
  rw [t0]
  cases tb (at_ (b.drop i) 0) 1 <;> rfl
 have f1 : (Go.bits .and .u8 (at_ (b.drop i) 0) 2 = 0) = (tb (at_ (b.drop i) 0) 2 = false) := by
  rw [t1]
  cases tb (at_ (b.drop i) 0) 2 <;> simp
 have f2 : (Go.bits .and .u8 (at_ (b.drop i) 0) 4 = 0) = (tb (at_ (b.drop i) 0) 4 = false) := by
  rw [t2]
  cases tb (at_ (b.drop i) 0) 4 <;> simp
 have f3 : (Go.bits .and .u8 (at_ (b.drop i) 0) 8 = 0) = (tb (at_ (b.drop i) 0) 8 = false) := by
  rw [t3]
  cases tb (at_ (b.drop i) 0) 8 <;> simp
 have q1 := page_is a1 a2 b1
 have q2 := word_is b1 b2
 have q3 := word_wrap b1 b2
 have q4 : IntKind.u16.wrap (a.f0 + 1) = (a.f0 + 1) % 65536 := u16_wrap _
 have hi : i ≤ 4800 := by omega
 simp only [spec_l16Read.f, e0, f1, f2]
 rw [if_pos (show 0 ≤ (i : Int) by omega), if_pos (show (i : Int) < (b.length : Int) by omega)]
 by_cases hm : at_ (b.drop i) 0 > 15
 ·rw [if_pos hm]
  cases c1 : tb (at_ (b.drop i) 0) 2 <;> cases c2 : tb (at_ (b.drop i) 0) 4 <;> cases c3 : tb (at_ (b.drop i) 0) 8 <;>
   simp only [c1, c2, c3, f3, Bool.true_eq_false, if_false, if_true, spec_l16Read.j0, spec_l16Read.j1, spec_l16Read.j2, if_pos hm]
 ·rw [if_neg hm]
  cases c1 : tb (at_ (b.drop i) 0) 2
  ·cases c2 : tb (at_ (b.drop i) 0) 4
   ·cases c3 : tb (at_ (b.drop i) 0) 8
    ·have hn : dLen (b.drop i) = 4 := by simp [dLen, ka, kd, c1, c2, c3]
     simp only [c1, c2, c3, f0, f1, f2, f3, wi1 hi, wi2 hi, wi3 hi, wi4 hi, e1, e2, e3, w11_, w21_, w31_, q1, q2, q3, q4, Option.bind_some, Bool.true_eq_false, Bool.false_eq_true, if_false, if_true, spec_l16Read.j0, spec_l16Read.j1, if_neg hm, spec_l16Read.j2, decide_eq_true_eq]
     clear e0 e1 e2 e3 t0 t1 t2 t3 b0 b1 b2  a1 a2 a3 a4 h q1 q2 q3 q4 f0 f1 f2 f3 hin
     by_cases hs : b.length - i < 4
     ·rw [D_short (by omega)]
      repeat (first | rw [if_pos (by omega)] | rw [if_neg (by omega)])
      all_goals rfl
     ·rw [D_long (by omega), hn]
      simp only [dAddr, dData, ka, c1, c2, c3, Bool.false_eq_true, if_false, if_true]
      repeat (first | rw [if_neg (by omega)] | rw [if_pos (by omega)])
      all_goals rfl
    ·have hn : dLen (b.drop i) = 3 := by simp [dLen, ka, kd, c1, c2, c3]
     simp only [c1, c2, c3, f0, f1, f2, f3, wi1 hi, wi2 hi, wi3 hi, wi4 hi, e1, e2, e3, w11_, w21_, w31_, q1, q2, q3, q4, Option.bind_some, Bool.true_eq_false, Bool.false_eq_true, if_false, if_true, spec_l16Read.j0, spec_l16Read.j1, if_neg hm, spec_l16Read.j2, decide_eq_true_eq]
     clear e0 e1 e2 e3 t0 t1 t2 t3 b0 b1 b2  a1 a2 a3 a4 h q1 q2 q3 q4 f0 f1 f2 f3 hin
     by_cases hs : b.length - i < 3
     ·rw [D_short (by omega)]
      repeat (first | rw [if_pos (by omega)] | rw [if_neg (by omega)])
      all_goals rfl
     ·rw [D_long (by omega), hn]
      simp only [dAddr, dData, ka, c1, c2, c3, Bool.false_eq_true, if_false, if_true]
      repeat (first | rw [if_neg (by omega)] | rw [if_pos (by omega)])
      all_goals rfl
   ·cases c3 : tb (at_ (b.drop i) 0) 8
    ·have hn : dLen (b.drop i) = 3 := by simp [dLen, ka, kd, c1, c2, c3]
     simp only [c1, c2, c3, f0, f1, f2, f3, wi1 hi, wi2 hi, wi3 hi, wi4 hi, e1, e2, e3, w11_, w21_, w31_, q1, q2, q3, q4, Option.bind_some, Bool.true_eq_false, Bool.false_eq_true, if_false, if_true, spec_l16Read.j0, spec_l16Read.j1, if_neg hm, spec_l16Read.j2, decide_eq_true_eq]
     clear e0 e1 e2 e3 t0 t1 t2 t3 b0 b1 b2  a1 a2 a3 a4 h q1 q2 q3 q4 f0 f1 f2 f3 hin
     by_cases hs : b.length - i < 3
     ·rw [D_short (by omega)]
      repeat (first | rw [if_pos (by omega)] | rw [if_neg (by omega)])
      all_goals rfl
     ·rw [D_long (by omega), hn]
      simp only [dAddr, dData, ka, c1, c2, c3, Bool.false_eq_true, if_false, if_true]
      repeat (first | rw [if_neg (by omega)] | rw [if_pos (by omega)])
      all_goals rfl
    ·have hn : dLen (b.drop i) = 2 := by simp [dLen, ka, kd, c1, c2, c3]
     simp only [c1, c2, c3, f0, f1, f2, f3, wi1 hi, wi2 hi, wi3 hi, wi4 hi, e1, e2, e3, w11_, w21_, w31_, q1, q2, q3, q4, Option.bind_some, Bool.true_eq_false, Bool.false_eq_true, if_false, if_true, spec_l16Read.j0, spec_l16Read.j1, if_neg hm, spec_l16Read.j2, decide_eq_true_eq]
     clear e0 e1 e2 e3 t0 t1 t2 t3 b0 b1 b2  a1 a2 a3 a4 h q1 q2 q3 q4 f0 f1 f2 f3 hin
     by_cases hs : b.length - i < 2
     ·rw [D_short (by omega)]
      repeat (first | rw [if_pos (by omega)] | rw [if_neg (by omega)])
      all_goals rfl
     ·rw [D_long (by omega), hn]
      simp only [dAddr, dData, ka, c1, c2, c3, Bool.false_eq_true, if_false, if_true]
      repeat (first | rw [if_neg (by omega)] | rw [if_pos (by omega)])
      all_goals rfl
  ·cases c3 : tb (at_ (b.drop i) 0) 8
   ·have hn : dLen (b.drop i) = 2 := by simp [dLen, ka, kd, c1, c3]
    simp only [c1, c3, f0, f1, f2, f3, wi1 hi, wi2 hi, wi3 hi, wi4 hi, e1, e2, e3, w11_, w21_, w31_, q1, q2, q3, q4, Option.bind_some, Bool.true_eq_false, Bool.false_eq_true, if_false, if_true, spec_l16Read.j0, spec_l16Read.j1, if_neg hm, spec_l16Read.j2, decide_eq_true_eq]
    clear e0 e1 e2 e3 t0 t1 t2 t3 b0 b1 b2  a1 a2 a3 a4 h q1 q2 q3 q4 f0 f1 f2 f3 hin
    by_cases hs : b.length - i < 2
    ·rw [D_short (by omega)]
     repeat (first | rw [if_pos (by omega)] | rw [if_neg (by omega)])
     all_goals rfl
    ·rw [D_long (by omega), hn]
     simp only [dAddr, dData, ka, c1, c3, Bool.false_eq_true, if_false, if_true]
     repeat (first | rw [if_neg (by omega)] | rw [if_pos (by omega)])
     all_goals rfl
   ·have hn : dLen (b.drop i) = 1 := by simp [dLen, ka, kd, c1, c3]
    simp only [c1, c3, f0, f1, f2, f3, wi1 hi, wi2 hi, wi3 hi, wi4 hi, e1, e2, e3, w11_, w21_, w31_, q1, q2, q3, q4, Option.bind_some, Bool.true_eq_false, Bool.false_eq_true, if_false, if_true, spec_l16Read.j0, spec_l16Read.j1, if_neg hm, spec_l16Read.j2, decide_eq_true_eq]
    clear e0 e1 e2 e3 t0 t1 t2 t3 b0 b1 b2  a1 a2 a3 a4 h q1 q2 q3 q4 f0 f1 f2 f3 hin
    rw [D_long (by omega), hn]
    simp only [dAddr, dData, ka, c1, c3, Bool.false_eq_true, if_false, if_true]
    repeat (first | rw [if_neg (by omega)] | rw [if_pos (by omega)])
    all_goals rfl
end Go.Proofs.Ytnoelppkcbelcaa.MSH
