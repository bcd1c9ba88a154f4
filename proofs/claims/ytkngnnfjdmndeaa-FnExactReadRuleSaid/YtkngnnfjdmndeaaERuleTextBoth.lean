/-
The text of a rule: both the program and the reference make the same fourteen bytes of it, or none.
-/
import Derived.Test.YtkngnnfjdmndeaaMEx1
import Derived.Test.YtkngnnfjdmndeaaMEx2
import Derived.Test.YtkngnnfjdmndeaaMEx3
import Derived.Test.YtkngnnfjdmndeaaMEx4
import Derived.Test.YtkngnnfjdmndeaaEHexSame
import Derived.Test.YtkngnnfjdmndeaaRuleRow
set_option linter.unusedSimpArgs false
set_option linter.unusedVariables false
namespace Go.Proofs.Ytkngnnfjdmndeaa.MET
open Go.RowKit Go.Proofs.Ytkngnnfjdmndeaa.ME Go.Proofs.Ytkngnnfjdmndeaa.MEH Go.Proofs.Ytkngnnfjdmndeaa.RowTwo Go.Proofs.YtkngnnfjdmndeaaW.PrintWords Go.Proofs.YtkngnnfjdmndeaaW.PrintLast Go.Proofs.Ytkngnnfjdmndeaa.Bit Go.Proofs.Ytkngnnfjdmndeaa.Lst

theorem ruleOk_same (a0 a1 a2 a3 a4 : Int) (h2 : 0 ≤ a2 ∧ a2 < 256) (h3 : 0 ≤ a3 ∧ a3 < 256) : ∃ b, spec_RuleOk.f a0 a1 a2 a3 a4 = some b ∧ impl_RuleOk.f a0 a1 a2 a3 a4 = some b := by
  unfold spec_RuleOk.f impl_RuleOk.f
  simp only [spec_l01In.f, impl_isHalf.f, impl_within.f, tdiv16 h2, andNot_zero h3]
  by_cases c1 : a0 ≤ a1 <;> simp only [c1, if_true, if_false]
  · by_cases c2 : Go.bits .and .u8 a2 15 = 0
    · by_cases c3 : a2 / 16 = 0
      · by_cases c4 : Go.bits .and .u8 a3 a2 = a3 <;> by_cases c5 : a4 ≥ 0 <;> simp [c2, c3, c4, c5]
      · by_cases c6 : a2 / 16 = 15 <;> by_cases c4 : Go.bits .and .u8 a3 a2 = a3 <;> by_cases c5 : a4 ≥ 0 <;> simp [c2, c3, c4, c5, c6]
    · by_cases c7 : Go.bits .and .u8 a2 15 = 15
      · by_cases c3 : a2 / 16 = 0
        · by_cases c4 : Go.bits .and .u8 a3 a2 = a3 <;> by_cases c5 : a4 ≥ 0 <;> simp [c7, c3, c4, c5]
        · by_cases c6 : a2 / 16 = 15 <;> by_cases c4 : Go.bits .and .u8 a3 a2 = a3 <;> by_cases c5 : a4 ≥ 0 <;> simp [c7, c3, c4, c5, c6]
      · by_cases c3 : a2 / 16 = 0
        · simp [c2, c7, c3]
        · by_cases c6 : a2 / 16 = 15 <;> simp [c2, c7, c3, c6]
  · exact ⟨_, rfl, rfl⟩

theorem ruleOk_op {a0 a1 a2 a3 a4 : Int} (h : impl_RuleOk.f a0 a1 a2 a3 a4 = some true) : 0 ≤ a4 ∧ a4 ≤ 2 := by
  unfold impl_RuleOk.f at h
  by_cases c1 : a0 ≤ a1
  · rw [if_pos c1] at h
    obtain ⟨t, h1, h⟩ := Option.bind_eq_some_iff.mp h
    by_cases c2 : t = true
    · rw [if_pos c2] at h
      obtain ⟨t', h2, h⟩ := Option.bind_eq_some_iff.mp h
      by_cases c3 : t' = true
      · rw [if_pos c3] at h
        by_cases c4 : Go.bits .andNot .u8 a3 a2 = 0
        · rw [if_pos c4] at h
          obtain ⟨t'', h3, h⟩ := Option.bind_eq_some_iff.mp h
          unfold impl_within.f at h3
          by_cases c5 : a4 ≥ 0
          · rw [if_pos c5] at h3
            have e : decide (a4 ≤ 2) = true := (Option.some.inj h3).trans (Option.some.inj h)
            exact ⟨c5, of_decide_eq_true e⟩
          · rw [if_neg c5] at h3
            exact absurd ((Option.some.inj h3).trans (Option.some.inj h)) (by decide)
        · rw [if_neg c4] at h
          exact absurd (Option.some.inj h) (by decide)
      · rw [if_neg c3] at h
        exact absurd (Option.some.inj h) (by decide)
    · rw [if_neg c2] at h
      exact absurd (Option.some.inj h) (by decide)
  · rw [if_neg c1] at h
    exact absurd (Option.some.inj h) (by decide)
theorem two_bytes (s : ByteArray) (h : s.size = 2) : ∃ a b : UInt8, s = ⟨#[a, b]⟩ := by
  obtain ⟨d⟩ := s
  obtain ⟨l⟩ := d
  match l, h with
  | [a, b], _ => exact ⟨a, b, rfl⟩
theorem cut0 (a b : UInt8) : ((⟨#[a, b]⟩ : ByteArray).extract 0 1) ++ (⟨#[63]⟩ : ByteArray) = ⟨#[a, 63]⟩ := by
  apply ByteArray.ext
  simp
theorem cut1 (a b : UInt8) : (⟨#[63]⟩ : ByteArray) ++ ((⟨#[a, b]⟩ : ByteArray).extract 1 2) = ⟨#[63, b]⟩ := by
  apply ByteArray.ext
  simp
theorem ext_size (a4 : Int) : ((⟨#[114, 119, 120]⟩ : ByteArray).extract (a4 : Int).toNat ((wrap64 (a4 + 1)) : Int).toNat).size ≤ 3 := by
  rw [ByteArray.size_extract]
  have : (⟨#[114, 119, 120]⟩ : ByteArray).size = 3 := rfl
  omega
theorem fin_ev (a4 : Int) (h4 : 0 ≤ a4 ∧ a4 ≤ 2) (u0 u1 : Nat) (h0 : u0 < 65536) (h1 : u1 < 65536) (W : ByteArray) (hW : W.size = 2) :
    Ev (fun k => (spec_HexText.f k (wrap64 (u0 : Int)) 4).bind fun t115 => (if t115.size + 1 ≤ 9223372036854775807 then ((spec_HexText.f k (wrap64 (u1 : Int)) 4).bind fun t116 => (if (t115 ++ (⟨#[45]⟩ : ByteArray)).size + t116.size ≤ 9223372036854775807 then (if ((t115 ++ (⟨#[45]⟩ : ByteArray)) ++ t116).size + 1 ≤ 9223372036854775807 then (if (((t115 ++ (⟨#[45]⟩ : ByteArray)) ++ t116) ++ (⟨#[32]⟩ : ByteArray)).size + W.size ≤ 9223372036854775807 then (if ((((t115 ++ (⟨#[45]⟩ : ByteArray)) ++ t116) ++ (⟨#[32]⟩ : ByteArray)) ++ W).size + 1 ≤ 9223372036854775807 then (if 0 ≤ a4 then (if a4 ≤ (wrap64 (a4 + 1)) then (if (wrap64 (a4 + 1)) ≤ 3 then (if (((((t115 ++ (⟨#[45]⟩ : ByteArray)) ++ t116) ++ (⟨#[32]⟩ : ByteArray)) ++ W) ++ (⟨#[32]⟩ : ByteArray)).size + ((⟨#[114, 119, 120]⟩ : ByteArray).extract (a4 : Int).toNat ((wrap64 (a4 + 1)) : Int).toNat).size ≤ 9223372036854775807 then (some ((((((t115 ++ (⟨#[45]⟩ : ByteArray)) ++ t116) ++ (⟨#[32]⟩ : ByteArray)) ++ W) ++ (⟨#[32]⟩ : ByteArray)) ++ ((⟨#[114, 119, 120]⟩ : ByteArray).extract (a4 : Int).toNat ((wrap64 (a4 + 1)) : Int).toNat))) else (none)) else (none)) else (none)) else (none)) else (none)) else (none)) else (none)) else (none))) else (none)))
      ((((((strOfNums (hexL 4 u0) ++ (⟨#[45]⟩ : ByteArray)) ++ strOfNums (hexL 4 u1)) ++ (⟨#[32]⟩ : ByteArray)) ++ W) ++ (⟨#[32]⟩ : ByteArray)) ++ ((⟨#[114, 119, 120]⟩ : ByteArray).extract (a4 : Int).toNat ((wrap64 (a4 + 1)) : Int).toNat)) := by
  have w0 : wrap64 (u0 : Int) = (u0 : Int) := wrap_in (by omega) (by omega)
  have w1 : wrap64 (u1 : Int) = (u1 : Int) := wrap_in (by omega) (by omega)
  have w4 : wrap64 (a4 + 1) = a4 + 1 := wrap_in (by omega) (by omega)
  have he := ext_size a4
  have e0 := spec_hex (n := 4) (by omega) (by omega) (u := u0) (by omega)
  have e1 := spec_hex (n := 4) (by omega) (by omega) (u := u1) (by omega)
  have s0 : (strOfNums (hexL 4 u0)).size = 4 := by rw [str_size, hexL_len]
  have s1 : (strOfNums (hexL 4 u1)).size = 4 := by rw [str_size, hexL_len]
  generalize strOfNums (hexL 4 u0) = x at e0 s0 ⊢
  generalize strOfNums (hexL 4 u1) = y at e1 s1 ⊢
  have l45 : (⟨#[45]⟩ : ByteArray).size = 1 := rfl
  have l32 : (⟨#[32]⟩ : ByteArray).size = 1 := rfl
  have g5 : a4 ≤ wrap64 (a4 + 1) := by rw [w4]; omega
  have g6 : wrap64 (a4 + 1) ≤ 3 := by rw [w4]; omega
  clear w4
  generalize ((⟨#[114, 119, 120]⟩ : ByteArray).extract (a4 : Int).toNat ((wrap64 (a4 + 1)) : Int).toNat) = E at he ⊢
  rw [w0, w1]
  clear w0 w1
  have n1 : x.size + 1 ≤ 9223372036854775807 := by omega
  have n2 : (x ++ (⟨#[45]⟩ : ByteArray)).size + y.size ≤ 9223372036854775807 := by simp only [ByteArray.size_append]; omega
  have n3 : ((x ++ (⟨#[45]⟩ : ByteArray)) ++ y).size + 1 ≤ 9223372036854775807 := by simp only [ByteArray.size_append]; omega
  have n4 : (((x ++ (⟨#[45]⟩ : ByteArray)) ++ y) ++ (⟨#[32]⟩ : ByteArray)).size + W.size ≤ 9223372036854775807 := by simp only [ByteArray.size_append]; omega
  have n5 : ((((x ++ (⟨#[45]⟩ : ByteArray)) ++ y) ++ (⟨#[32]⟩ : ByteArray)) ++ W).size + 1 ≤ 9223372036854775807 := by simp only [ByteArray.size_append]; omega
  have n6 : (((((x ++ (⟨#[45]⟩ : ByteArray)) ++ y) ++ (⟨#[32]⟩ : ByteArray)) ++ W) ++ (⟨#[32]⟩ : ByteArray)).size + E.size ≤ 9223372036854775807 := by simp only [ByteArray.size_append]; omega
  refine Ev.bind e0 ?_
  simp only [if_pos n1]
  refine Ev.bind e1 ?_
  simp only [if_pos n2, if_pos n3, if_pos n4, if_pos n5, if_pos n6, if_pos h4.1, if_pos g5, if_pos g6]
  exact Ev.now _
theorem tail_ev (a2 a3 a4 : Int) (h4 : 0 ≤ a4 ∧ a4 ≤ 2) (u0 u1 : Nat) (h0 : u0 < 65536) (h1 : u1 < 65536) (c0 c1 : UInt8) :
    Ev (fun k => spec_RuleText.j0 k ⟨#[c0, c1]⟩ (u0 : Int) (u1 : Int) a2 a3 a4) (impl_RuleText.out (strOfNums (hexL 4 u0)) (strOfNums (hexL 4 u1)) c0 (if (Go.bits .and .u8 a2 15) = 0 then 63 else c1) a4) := by
  unfold impl_RuleText.out
  by_cases c : Go.bits .and .u8 a2 15 = 0
  · have h := fin_ev a4 h4 u0 u1 h0 h1 ((⟨#[c0, c1]⟩ : ByteArray).extract 0 1 ++ (⟨#[63]⟩ : ByteArray)) (by rw [cut0]; rfl)
    have hs : ((⟨#[c0, c1]⟩ : ByteArray).extract 0 1).size + 1 ≤ 9223372036854775807 := by rw [ByteArray.size_extract]; have : (⟨#[c0, c1]⟩ : ByteArray).size = 2 := rfl; omega
    have hs2 : 1 ≤ ((⟨#[c0, c1]⟩ : ByteArray).size : Int) := by have : (⟨#[c0, c1]⟩ : ByteArray).size = 2 := rfl; omega
    rw [if_pos c]
    refine Ev.step (fun k => ?_) (by rw [cut0] at h; exact h)
    simp only [spec_RuleText.j0]
    rw [if_pos c, if_pos (by omega), if_pos hs2, if_pos hs, cut0]
  · have h := fin_ev a4 h4 u0 u1 h0 h1 (⟨#[c0, c1]⟩ : ByteArray) rfl
    rw [if_neg c]
    refine Ev.step (fun k => ?_) h
    simp only [spec_RuleText.j0]
    rw [if_neg c]


def op3 (a4 : Int) : UInt8 := if a4 = 0 then 114 else if a4 = 1 then 119 else 120
theorem op_cut (a4 : Int) (h : 0 ≤ a4 ∧ a4 ≤ 2) : (⟨#[114, 119, 120]⟩ : ByteArray).extract (a4 : Int).toNat ((wrap64 (a4 + 1)) : Int).toNat = ⟨#[op3 a4]⟩ := by
  have e : wrap64 (a4 + 1) = a4 + 1 := wrap_in (by omega) (by omega)
  rw [e]
  clear e
  have c : a4 = 0 ∨ a4 = 1 ∨ a4 = 2 := by omega
  rcases c with rfl | rfl | rfl <;> rfl
theorem four_digits (v : Nat) : ∃ j0 j1 j2 j3 : Fin 16, strOfNums (hexL 4 v) = ⟨#[(dig j0.val).toNat.toUInt8, (dig j1.val).toNat.toUInt8, (dig j2.val).toNat.toUInt8, (dig j3.val).toNat.toUInt8]⟩ :=
  ⟨⟨v / 16 / 16 / 16 % 16, by omega⟩, ⟨v / 16 / 16 % 16, by omega⟩, ⟨v / 16 % 16, by omega⟩, ⟨v % 16, by omega⟩, by
    apply ByteArray.ext
    simp [strOfNums, hexL]⟩
theorem two_digits (v : Nat) : ∃ j0 j1 : Fin 16, strOfNums (hexL 2 v) = ⟨#[(dig j0.val).toNat.toUInt8, (dig j1.val).toNat.toUInt8]⟩ :=
  ⟨⟨v / 16 % 16, by omega⟩, ⟨v % 16, by omega⟩, by
    apply ByteArray.ext
    simp [strOfNums, hexL]⟩
theorem out_bytes (h0 h1 h2 h3 g0 g1 g2 g3 m0 m1 : UInt8) (a4 : Int) (h : 0 ≤ a4 ∧ a4 ≤ 2) :
    impl_RuleText.out ⟨#[h0, h1, h2, h3]⟩ ⟨#[g0, g1, g2, g3]⟩ m0 m1 a4 = ⟨#[h0, h1, h2, h3, 45, g0, g1, g2, g3, 32, m0, m1, 32, op3 a4]⟩ := by
  unfold impl_RuleText.out
  rw [op_cut a4 h]
  apply ByteArray.ext
  simp
/-- A digit's byte. -/
def dg (j : Fin 16) : UInt8 := (dig j.val).toNat.toUInt8
theorem text_both (a0 a1 a2 a3 a4 : Int) (r0 : 0 ≤ a0 ∧ a0 < 65536) (r1 : 0 ≤ a1 ∧ a1 < 65536) (r2 : 0 ≤ a2 ∧ a2 < 256) (r3 : 0 ≤ a3 ∧ a3 < 256) :
    ∃ t : ByteArray, Ev (fun k => spec_RuleText.f k a0 a1 a2 a3 a4) t ∧ Ev (fun k => impl_RuleText.f k a0 a1 a2 a3 a4) t ∧
      (t = ⟨#[]⟩ ∨ ((0 ≤ a4 ∧ a4 ≤ 2) ∧ ∃ j0 j1 j2 j3 i0 i1 i2 i3 c0 c1 : Fin 16, t = ⟨#[dg j0, dg j1, dg j2, dg j3, 45, dg i0, dg i1, dg i2, dg i3, 32, if a2 / 16 = 0 then 63 else dg c0, if (Go.bits .and .u8 a2 15) = 0 then 63 else dg c1, 32, op3 a4]⟩)) := by
  obtain ⟨p0, q0⟩ := r0
  obtain ⟨p1, q1⟩ := r1
  obtain ⟨u0, rfl⟩ : ∃ u : Nat, a0 = (u : Int) := ⟨a0.toNat, by omega⟩
  obtain ⟨u1, rfl⟩ : ∃ u : Nat, a1 = (u : Int) := ⟨a1.toNat, by omega⟩
  obtain ⟨u3, rfl⟩ : ∃ u : Nat, a3 = (u : Int) := ⟨a3.toNat, by omega⟩
  obtain ⟨b, hb1, hb2⟩ := ruleOk_same (u0 : Int) (u1 : Int) a2 (u3 : Int) a4 r2 r3
  by_cases c : b = true
  · subst c
    have h4 := ruleOk_op hb2
    have v3 : wrap64 (u3 : Int) = (u3 : Int) := wrap_in (by omega) (by omega)
    have v0 : wrap64 (u0 : Int) = (u0 : Int) := wrap_in (by omega) (by omega)
    have v1 : wrap64 (u1 : Int) = (u1 : Int) := wrap_in (by omega) (by omega)
    have x0 : (strOfNums (hexL 4 u0)).size = 4 := by rw [str_size, hexL_len]
    have x1 : (strOfNums (hexL 4 u1)).size = 4 := by rw [str_size, hexL_len]
    obtain ⟨k0, k1, hc⟩ := two_digits u3
    obtain ⟨j0, j1, j2, j3, hj⟩ := four_digits u0
    obtain ⟨f0, f1, f2, f3, hi⟩ := four_digits u1
    obtain ⟨c0, ec0⟩ : ∃ c : UInt8, dg k0 = c := ⟨_, rfl⟩
    obtain ⟨c1, ec1⟩ : ∃ c : UInt8, dg k1 = c := ⟨_, rfl⟩
    have hc : strOfNums (hexL 2 u3) = ⟨#[c0, c1]⟩ := by rw [hc, ← ec0, ← ec1]; rfl
    have t2 := spec_hex (n := 2) (by omega) (by omega) (u := u3) (by omega)
    have i2 := impl_hex (n := 2) (by omega) (by omega) (u := u3) (by omega)
    have i0 := impl_hex (n := 4) (by omega) (by omega) (u := u0) (by omega)
    have i1 := impl_hex (n := 4) (by omega) (by omega) (u := u1) (by omega)
    rw [hc] at t2 i2
    refine ⟨impl_RuleText.out (strOfNums (hexL 4 u0)) (strOfNums (hexL 4 u1)) (if a2 / 16 = 0 then 63 else c0) (if (Go.bits .and .u8 a2 15) = 0 then 63 else c1) a4, ?_, ?_, Or.inr ⟨h4, j0, j1, j2, j3, f0, f1, f2, f3, k0, k1, by rw [hj, hi, out_bytes _ _ _ _ _ _ _ _ _ _ a4 h4, ← ec0, ← ec1]; rfl⟩⟩
    · unfold spec_RuleText.f
      simp only [hb1, Option.bind_some, if_true, v3, tdiv16 r2]
      clear v0 v1 v3
      refine Ev.bind t2 ?_
      by_cases d : a2 / 16 = 0
      · have hs2 : 1 ≤ ((⟨#[c0, c1]⟩ : ByteArray).size : Int) := by have : (⟨#[c0, c1]⟩ : ByteArray).size = 2 := rfl; omega
        have hz : (⟨#[c0, c1]⟩ : ByteArray).size = 2 := rfl
        have hs : 1 + ((⟨#[c0, c1]⟩ : ByteArray).extract 1 2).size ≤ 9223372036854775807 := by rw [ByteArray.size_extract]; omega
        have ht := tail_ev a2 (u3 : Int) a4 h4 u0 u1 (by omega) (by omega) 63 c1
        simp only [if_pos d, if_pos hs2]
        rw [hz]
        simp only [if_pos hs, cut1]
        exact ht
      · have ht := tail_ev a2 (u3 : Int) a4 h4 u0 u1 (by omega) (by omega) c0 c1
        simp only [if_neg d]
        exact ht
    · unfold impl_RuleText.f
      simp only [hb2, Option.bind_some, if_true, v3, v0, v1]
      clear v0 v1 v3
      refine Ev.bind i2 ?_
      simp only [if_pos (show (⟨#[c0, c1]⟩ : ByteArray).size = 2 from rfl)]
      refine Ev.bind i0 (Ev.bind i1 ?_)
      simp only [if_pos (show (strOfNums (hexL 4 u0)).size ≤ 1000 ∧ (strOfNums (hexL 4 u1)).size ≤ 1000 ∧ 0 ≤ a4 ∧ a4 ≤ 2 from ⟨by omega, by omega, h4.1, h4.2⟩)]
      exact Ev.now _
  · have c' : b = false := by simpa using c
    subst c'
    refine ⟨⟨#[]⟩, ?_, ?_, Or.inl rfl⟩
    · unfold spec_RuleText.f
      simp only [hb1, Option.bind_some, Bool.false_eq_true, if_false]
      exact Ev.now _
    · unfold impl_RuleText.f
      simp only [hb2, Option.bind_some, Bool.false_eq_true, if_false]
      exact Ev.now _
end Go.Proofs.Ytkngnnfjdmndeaa.MET
