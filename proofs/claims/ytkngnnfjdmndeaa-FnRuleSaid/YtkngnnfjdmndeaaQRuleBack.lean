/-
FnRule: a rule comes back from its text, and the rule for any cycle takes each.
-/
import Derived.Test.YtkngnnfjdmndeaaMQx0
import Derived.Test.YtkngnnfjdmndeaaMQx2
import Derived.Test.YtkngnnfjdmndeaaMQx3
import Derived.Test.YtkngnnfjdmndeaaMQx4
import Derived.Test.YtkngnnfjdmndeaaMQx7
import Derived.Test.YtkngnnfjdmndeaaMQx8
import Derived.Test.YtkngnnfjdmndeaaMQx9
import Derived.Test.YtkngnnfjdmndeaaQReadHexImpl
import Derived.Test.YtkngnnfjdmndeaaQHexImpl
import Derived.Test.YtkngnnfjdmndeaaQDrawRule
import Derived.Test.YtkngnnfjdmndeaaRuleRow
set_option linter.unusedSimpArgs false
set_option linter.unusedVariables false
namespace Go.Proofs.Ytkngnnfjdmndeaa.MQR
open Go.RowKit Go.Proofs.Ytkngnnfjdmndeaa.MQ Go.Proofs.Ytkngnnfjdmndeaa.RowTwo Go.Proofs.YtkngnnfjdmndeaaW.PrintWords Go.Proofs.YtkngnnfjdmndeaaW.PrintLast Go.Proofs.Ytkngnnfjdmndeaa.Bit Go.Proofs.Ytkngnnfjdmndeaa.Lst
open Go.Proofs.Ytkngnnfjdmndeaa.MQH (hexL dig hexL_len str_size)
abbrev R6 := Int × Int × Int × Int × Int × Bool
theorem ruleOk_op {a0 a1 a2 a3 a4 : Int} (h : impl_RuleOk.f a0 a1 a2 a3 a4 = some true) : 0 ≤ a4 ∧ a4 ≤ 2 := by
  unfold impl_RuleOk.f at h
  by_cases c1 : a0 ≤ a1
  · rw [if_pos c1] at h
    obtain ⟨t, h1, h⟩ := Option.bind_eq_some_iff.mp h
    by_cases c2 : t = true
    · rw [if_pos c2] at h
      obtain ⟨t', h2, h⟩ := Option.bind_eq_some_iff.mp h
      by_cases c3 : t' = true
      · rw [if_pos c3] at h
        by_cases c4 : Go.bits .andNot .u8 a3 a2 = 0
        · rw [if_pos c4] at h
          obtain ⟨t'', h3, h⟩ := Option.bind_eq_some_iff.mp h
          unfold impl_within.f at h3
          by_cases c5 : a4 ≥ 0
          · rw [if_pos c5] at h3
            have e : decide (a4 ≤ 2) = true := (Option.some.inj h3).trans (Option.some.inj h)
            exact ⟨c5, of_decide_eq_true e⟩
          · rw [if_neg c5] at h3
            exact absurd ((Option.some.inj h3).trans (Option.some.inj h)) (by decide)
        · rw [if_neg c4] at h
          exact absurd (Option.some.inj h) (by decide)
      · rw [if_neg c3] at h
        exact absurd (Option.some.inj h) (by decide)
    · rw [if_neg c2] at h
      exact absurd (Option.some.inj h) (by decide)
  · rw [if_neg c1] at h
    exact absurd (Option.some.inj h) (by decide)
def op3 (a4 : Int) : UInt8 := if a4 = 0 then 114 else if a4 = 1 then 119 else 120
theorem op_cut (a4 : Int) (h : 0 ≤ a4 ∧ a4 ≤ 2) : (⟨#[114, 119, 120]⟩ : ByteArray).extract (a4 : Int).toNat ((wrap64 (a4 + 1)) : Int).toNat = ⟨#[op3 a4]⟩ := by
  have e : wrap64 (a4 + 1) = a4 + 1 := wrap_in (by omega) (by omega)
  rw [e]
  clear e
  have c : a4 = 0 ∨ a4 = 1 ∨ a4 = 2 := by omega
  rcases c with rfl | rfl | rfl <;> rfl
theorem out_bytes (h0 h1 h2 h3 g0 g1 g2 g3 m0 m1 : UInt8) (a4 : Int) (h : 0 ≤ a4 ∧ a4 ≤ 2) :
    impl_RuleText.out ⟨#[h0, h1, h2, h3]⟩ ⟨#[g0, g1, g2, g3]⟩ m0 m1 a4 = ⟨#[h0, h1, h2, h3, 45, g0, g1, g2, g3, 32, m0, m1, 32, op3 a4]⟩ := by
  unfold impl_RuleText.out
  rw [op_cut a4 h]
  apply ByteArray.ext
  simp
/-- A digit's byte. -/
def dgb (n : Nat) : UInt8 := (dig n).toNat.toUInt8
theorem four_digits (v : Nat) : strOfNums (hexL 4 v) = ⟨#[dgb (v / 16 / 16 / 16 % 16), dgb (v / 16 / 16 % 16), dgb (v / 16 % 16), dgb (v % 16)]⟩ := by
  apply ByteArray.ext
  simp [strOfNums, hexL, dgb]
theorem two_digits (v : Nat) : strOfNums (hexL 2 v) = ⟨#[dgb (v / 16 % 16), dgb (v % 16)]⟩ := by
  apply ByteArray.ext
  simp [strOfNums, hexL, dgb]
/-- The fourteen bytes of a right rule. -/
def ruleB (u0 u1 : Nat) (a2 : Int) (u3 : Nat) (a4 : Int) : ByteArray :=
  ⟨#[dgb (u0 / 16 / 16 / 16 % 16), dgb (u0 / 16 / 16 % 16), dgb (u0 / 16 % 16), dgb (u0 % 16), 45, dgb (u1 / 16 / 16 / 16 % 16), dgb (u1 / 16 / 16 % 16), dgb (u1 / 16 % 16), dgb (u1 % 16), 32, if a2 / 16 = 0 then 63 else dgb (u3 / 16 % 16), if (Go.bits .and .u8 a2 15) = 0 then 63 else dgb (u3 % 16), 32, op3 a4]⟩
theorem text_right (u0 u1 u3 : Nat) (a2 a4 : Int) (q0 : u0 < 65536) (q1 : u1 < 65536) (q3 : u3 < 256) (ok : impl_RuleOk.f (u0 : Int) (u1 : Int) a2 (u3 : Int) a4 = some true) :
    Ev (fun k => impl_RuleText.f k (u0 : Int) (u1 : Int) a2 (u3 : Int) a4) (ruleB u0 u1 a2 u3 a4) := by
  have h4 := ruleOk_op ok
  have v3 : wrap64 (u3 : Int) = (u3 : Int) := wrap_in (by omega) (by omega)
  have v0 : wrap64 (u0 : Int) = (u0 : Int) := wrap_in (by omega) (by omega)
  have v1 : wrap64 (u1 : Int) = (u1 : Int) := wrap_in (by omega) (by omega)
  have i2 := Go.Proofs.Ytkngnnfjdmndeaa.MQH.impl_hex (n := 2) (by omega) (by omega) (u := u3) (by omega)
  have i0 := Go.Proofs.Ytkngnnfjdmndeaa.MQH.impl_hex (n := 4) (by omega) (by omega) (u := u0) (by omega)
  have i1 := Go.Proofs.Ytkngnnfjdmndeaa.MQH.impl_hex (n := 4) (by omega) (by omega) (u := u1) (by omega)
  rw [two_digits] at i2
  rw [four_digits] at i0 i1
  unfold impl_RuleText.f ruleB
  simp only [ok, Option.bind_some, if_true, v3, v0, v1]
  clear v0 v1 v3
  rw [← out_bytes _ _ _ _ _ _ _ _ _ _ a4 h4]
  generalize dgb (u3 / 16 % 16) = c0 at i2 ⊢
  generalize dgb (u3 % 16) = c1 at i2 ⊢
  generalize dgb (u0 / 16 / 16 / 16 % 16) = x0 at i0 ⊢
  generalize dgb (u0 / 16 / 16 % 16) = x1 at i0 ⊢
  generalize dgb (u0 / 16 % 16) = x2 at i0 ⊢
  generalize dgb (u0 % 16) = x3 at i0 ⊢
  generalize dgb (u1 / 16 / 16 / 16 % 16) = y0 at i1 ⊢
  generalize dgb (u1 / 16 / 16 % 16) = y1 at i1 ⊢
  generalize dgb (u1 / 16 % 16) = y2 at i1 ⊢
  generalize dgb (u1 % 16) = y3 at i1 ⊢
  refine Ev.bind i2 ?_
  simp only [if_pos (show (⟨#[c0, c1]⟩ : ByteArray).size = 2 from rfl)]
  refine Ev.bind i0 (Ev.bind i1 ?_)
  simp only [if_pos (show (⟨#[x0, x1, x2, x3]⟩ : ByteArray).size ≤ 1000 ∧ (⟨#[y0, y1, y2, y3]⟩ : ByteArray).size ≤ 1000 ∧ 0 ≤ a4 ∧ a4 ≤ 2 from ⟨(by decide : 4 ≤ 1000), (by decide : 4 ≤ 1000), h4.1, h4.2⟩)]
  exact Ev.now _
theorem text_wrong (a0 a1 a2 a3 a4 : Int) (ok : impl_RuleOk.f a0 a1 a2 a3 a4 = some false) : Ev (fun k => impl_RuleText.f k a0 a1 a2 a3 a4) ⟨#[]⟩ := by
  unfold impl_RuleText.f
  simp only [ok, Option.bind_some, Bool.false_eq_true, if_false]
  exact Ev.now _
open Go.Proofs.Ytkngnnfjdmndeaa.MQX
def iM (q : Bool) (n m : Int) : Int := if q then m else Go.bits .or .u8 m (shl .u8 15 n)
def iW (q : Bool) (d n v : Int) : Int := if q then v else Go.bits .or .u8 v (shl .u8 ((mx 0 d) % 256) n)
def iOp (b : UInt8) : Int := if b = 114 then 0 else if b = 119 then 1 else 2
def fin6 (s t : ByteArray) (a0 a1 a2 a3 a4 : Int) : R6 := if t = s then (a0, a1, a2, a3, a4, true) else (0, 0, 0, 0, 0, false)

theorem toList_data (s : ByteArray) : s.toList = s.data.toList := by
  have go : ∀ (d i : Nat) (r : List UInt8), i + d = s.size → ByteArray.toList.loop s i r = r.reverse ++ s.data.toList.drop i := by
    intro d
    induction d with
    | zero =>
      intro i r h
      unfold ByteArray.toList.loop
      rw [if_neg (by omega), List.drop_eq_nil_of_le (by rw [Array.length_toList]; exact Nat.le_of_eq (show s.size = i by omega)), List.append_nil]
    | succ d ih =>
      intro i r h
      unfold ByteArray.toList.loop
      rw [if_pos (by omega), ih (i + 1) _ (by omega)]
      have hl : i < s.data.toList.length := by rw [Array.length_toList]; exact (by omega : i < s.size)
      rw [List.drop_eq_getElem_cons hl, List.reverse_cons, List.append_assoc]
      congr 1
      have e : s.get! i = s.data.toList[i] := by
        have : s.get! i = s.data[i]! := rfl
        rw [this, getElem!_pos s.data i (by simpa using hl)]
        simp
      rw [e]
      rfl
  have h := go s.size 0 [] (by omega)
  simpa [ByteArray.toList] using h
theorem toList_iff (s t : ByteArray) : t.toList = s.toList ↔ t = s := by
  rw [toList_data, toList_data]
  constructor
  · intro h
    apply ByteArray.ext
    exact Array.ext' h
  · intro h
    rw [h]

theorem hexF4 (b0 b1 b2 b3 : UInt8) : hexF ⟨#[b0, b1, b2, b3]⟩ 4 0 0 = if hexv b0.toNat < 0 then -1 else if hexv b1.toNat < 0 then -1 else if hexv b2.toNat < 0 then -1 else if hexv b3.toNat < 0 then -1 else 16 * (16 * (16 * hexv b0.toNat + hexv b1.toNat) + hexv b2.toNat) + hexv b3.toNat := by
  have e0 : (bt ⟨#[b0, b1, b2, b3]⟩ ((0 : Nat) : Int)).toNat = b0.toNat := rfl
  have e1 : (bt ⟨#[b0, b1, b2, b3]⟩ ((0 + 1 : Nat) : Int)).toNat = b1.toNat := rfl
  have e2 : (bt ⟨#[b0, b1, b2, b3]⟩ ((0 + 1 + 1 : Nat) : Int)).toNat = b2.toNat := rfl
  have e3 : (bt ⟨#[b0, b1, b2, b3]⟩ ((0 + 1 + 1 + 1 : Nat) : Int)).toNat = b3.toNat := rfl
  simp only [hexF, e0, e1, e2, e3, Int.mul_zero, Int.zero_add]
theorem hexF1 (b : UInt8) : hexF ⟨#[b]⟩ 1 0 0 = hexv b.toNat := by
  have e0 : (bt ⟨#[b]⟩ ((0 : Nat) : Int)).toNat = b.toNat := rfl
  have h := hexv_range b.toNat
  simp only [hexF, e0, Int.mul_zero, Int.zero_add]
  by_cases c : hexv b.toNat < 0
  · rw [if_pos c]; omega
  · rw [if_neg c]
abbrev s14 (b0 b1 b2 b3 b4 b5 b6 b7 b8 b9 b10 b11 b12 b13 : UInt8) : ByteArray := ⟨#[b0, b1, b2, b3, b4, b5, b6, b7, b8, b9, b10, b11, b12, b13]⟩
theorem byte_is (b : UInt8) (n : Nat) (h : n < 256) : ((b.toNat : Int) = (n : Int)) ↔ b = n.toUInt8 := by
  constructor
  · intro e
    have e' : b.toNat = n := by omega
    apply UInt8.toNat_inj.mp
    rw [e']
    simp
    omega
  · intro e
    rw [e]
    simp
    omega

theorem impl_loop (s : ByteArray) (b0 b1 b2 b3 b4 b5 b6 b7 b8 b9 b10 b11 b12 b13 : UInt8) (hs : s = s14 b0 b1 b2 b3 b4 b5 b6 b7 b8 b9 b10 b11 b12 b13) (a0 a1 : Int) (m v : Int) (hm : iM (decide (b11 = 63)) 0 (iM (decide (b10 = 63)) 4 0) = m) (hv : iW (decide (b11 = 63)) (hexv b11.toNat) 0 (iW (decide (b10 = 63)) (hexv b10.toNat) 4 0) = v)
    (t : ByteArray) (ht : Ev (fun k => impl_RuleText.f k a0 a1 m v (iOp b13)) t) : Ev (fun k => impl_ReadRule.l0 k s [4, 0] 2 0 a0 a1 0 0 2) (fin6 s t a0 a1 m v (iOp b13)) := by
  have hz : (s.size : Int) = 14 := by rw [hs]; rfl
  have h0 := impl_hex (s := ⟨#[b10]⟩) (n := 1) (by omega) rfl
  have h1 := impl_hex (s := ⟨#[b11]⟩) (n := 1) (by omega) rfl
  have c0 : s.extract 10 11 = ⟨#[b10]⟩ := by rw [hs]; rfl
  have c1 : s.extract 11 12 = ⟨#[b11]⟩ := by rw [hs]; rfl
  have c13 : bt s 13 = (b13.toNat : Int) := by rw [hs]; rfl
  have c10 : bt s 10 = (b10.toNat : Int) := by rw [hs]; rfl
  have c11 : bt s 11 = (b11.toNat : Int) := by rw [hs]; rfl
  clear hs
  rw [hexF1] at h0 h1
  have last : Ev (fun k => impl_ReadRule.l0 k s [4, 0] 2 2 a0 a1 m v 2) (fin6 s t a0 a1 m v (iOp b13)) := by
    have tail : ∀ op' : Int, op' = iOp b13 → Ev (fun k => impl_ReadRule.j1 k s a0 a1 m v op') (fin6 s t a0 a1 m v (iOp b13)) := fun op' e => by
      subst e
      refine Ev.step (f := fun k => (impl_RuleText.f k a0 a1 m v (iOp b13)).bind fun x => if x.toList = s.toList then some (a0, a1, m, v, iOp b13, true) else some (0, 0, 0, 0, 0, false)) (fun k => by simp only [impl_ReadRule.j1]) ?_
      refine Ev.bind ht ?_
      unfold fin6
      simp only [toList_iff]
      by_cases c : t = s
      · rw [if_pos c, if_pos c]; exact Ev.now _
      · rw [if_neg c, if_neg c]; exact Ev.now _
    by_cases w : b13 = 114
    · refine Ev.step (fun k => ?_) (tail 0 (by unfold iOp; rw [if_pos w]))
      simp only [impl_ReadRule.l0]
      rw [if_neg (by decide), hz, if_pos (by decide), c13, if_pos (by rw [w]; rfl)]
    · have w' : ¬ ((b13.toNat : Int) = 114) := fun e => w ((byte_is b13 114 (by decide)).mp e)
      by_cases x : b13 = 119
      · refine Ev.step (fun k => ?_) (tail 1 (by unfold iOp; rw [if_neg w, if_pos x]))
        simp only [impl_ReadRule.l0]
        rw [if_neg (by decide), hz, if_pos (by decide), c13, if_neg w', if_pos (by rw [x]; rfl)]
      · have x' : ¬ ((b13.toNat : Int) = 119) := fun e => x ((byte_is b13 119 (by decide)).mp e)
        refine Ev.step (fun k => ?_) (tail 2 (by unfold iOp; rw [if_neg w, if_neg x]))
        simp only [impl_ReadRule.l0]
        rw [if_neg (by decide), hz, if_pos (by decide), c13, if_neg w', if_neg x']
  have second : Ev (fun k => impl_ReadRule.l0 k s [4, 0] 2 1 a0 a1 (iM (decide (b10 = 63)) 4 0) (iW (decide (b10 = 63)) (hexv b10.toNat) 4 0) 2) (fin6 s t a0 a1 m v (iOp b13)) := by
    have l := last
    rw [← hm, ← hv] at l ⊢
    generalize iM (decide (b10 = 63)) 4 0 = m0 at l ⊢
    generalize iW (decide (b10 = 63)) (hexv b10.toNat) 4 0 = v0 at l ⊢
    unfold iM iW at l ⊢
    by_cases q : b11 = 63
    · simp only [q, decide_true, if_true] at l ⊢
      refine Ev.step (fun k => ?_) l
      simp only [impl_ReadRule.l0]
      rw [if_pos (by decide), if_pos (by decide), if_pos (by decide), show wrap64 (10 + 1) = 11 from wrap_in (by decide) (by decide), show wrap64 (1 + 1) = 2 from wrap_in (by decide) (by decide), hz, if_pos (by decide), if_pos (by decide), c11, if_pos (by rw [q]; rfl)]
    · have q' : ¬ ((b11.toNat : Int) = 63) := fun e => q ((byte_is b11 63 (by decide)).mp e)
      simp only [q, decide_false, Bool.false_eq_true, if_false] at l ⊢
      refine Ev.step (f := fun k => (impl_ReadHex.f k (s.extract 11 12) 1).bind fun t145 => (impl_ReadRule.l0 k s [4, 0] 2 2 a0 a1 (Go.bits .or .u8 m0 (shl .u8 15 0)) (Go.bits .or .u8 v0 (shl .u8 ((mx 0 t145) % 256) 0)) 2)) (fun k => ?_) ?_
      · simp only [impl_ReadRule.l0]
        rw [if_pos (by decide), if_pos (by decide), if_pos (by decide), show wrap64 (10 + 1) = 11 from wrap_in (by decide) (by decide), show wrap64 (11 + 1) = 12 from wrap_in (by decide) (by decide), show wrap64 (1 + 1) = 2 from wrap_in (by decide) (by decide), hz, if_pos (by decide), if_pos (by decide), c11, if_neg q', show rd [4, 0] 1 = 0 from rfl, if_pos (by decide), if_pos (by decide), if_pos (by decide)]
        rfl
      · rw [c1]
        refine Ev.bind h1 ?_
        exact l
  unfold iM iW at second
  by_cases q : b10 = 63
  · simp only [q, decide_true, if_true] at second ⊢
    refine Ev.step (fun k => ?_) second
    simp only [impl_ReadRule.l0]
    rw [if_pos (by decide), if_pos (by decide), if_pos (by decide), show wrap64 (10 + 0) = 10 from wrap_in (by decide) (by decide), show wrap64 (0 + 1) = 1 from wrap_in (by decide) (by decide), hz, if_pos (by decide), if_pos (by decide), c10, if_pos (by rw [q]; rfl)]
  · have q' : ¬ ((b10.toNat : Int) = 63) := fun e => q ((byte_is b10 63 (by decide)).mp e)
    simp only [q, decide_false, Bool.false_eq_true, if_false] at second ⊢
    refine Ev.step (f := fun k => (impl_ReadHex.f k (s.extract 10 11) 1).bind fun t145 => (impl_ReadRule.l0 k s [4, 0] 2 1 a0 a1 (Go.bits .or .u8 0 (shl .u8 15 4)) (Go.bits .or .u8 0 (shl .u8 ((mx 0 t145) % 256) 4)) 2)) (fun k => ?_) ?_
    · simp only [impl_ReadRule.l0]
      rw [if_pos (by decide), if_pos (by decide), if_pos (by decide), show wrap64 (10 + 0) = 10 from wrap_in (by decide) (by decide), show wrap64 (11 + 0) = 11 from wrap_in (by decide) (by decide), show wrap64 (0 + 1) = 1 from wrap_in (by decide) (by decide), hz, if_pos (by decide), if_pos (by decide), c10, if_neg q', show rd [4, 0] 0 = 4 from rfl, if_pos (by decide), if_pos (by decide), if_pos (by decide)]
      rfl
    · rw [c0]
      refine Ev.bind h0 ?_
      exact second
theorem wrap16 {x : Int} (h : 0 ≤ x ∧ x < 65536) : IntKind.u16.wrap x = x := by
  have e : IntKind.u16.wrap x = x % 65536 := by simp [IntKind.wrap, IntKind.bits, IntKind.signed]
  rw [e]
  omega
theorem mx_pos {x : Int} (h : 0 ≤ x) : mx 0 x = x := by
  unfold mx
  by_cases c : 0 < x
  · rw [if_pos c]
  · rw [if_neg c]; omega
theorem ruleOk_same (a0 a1 a2 a3 a4 : Int) (h2 : 0 ≤ a2 ∧ a2 < 256) (h3 : 0 ≤ a3 ∧ a3 < 256) : ∃ b, spec_RuleOk.f a0 a1 a2 a3 a4 = some b ∧ impl_RuleOk.f a0 a1 a2 a3 a4 = some b := by
  unfold spec_RuleOk.f impl_RuleOk.f
  simp only [spec_l01In.f, impl_isHalf.f, impl_within.f, tdiv16 h2, andNot_zero h3]
  by_cases c1 : a0 ≤ a1 <;> simp only [c1, if_true, if_false]
  · by_cases c2 : Go.bits .and .u8 a2 15 = 0
    · by_cases c3 : a2 / 16 = 0
      · by_cases c4 : Go.bits .and .u8 a3 a2 = a3 <;> by_cases c5 : a4 ≥ 0 <;> simp [c2, c3, c4, c5]
      · by_cases c6 : a2 / 16 = 15 <;> by_cases c4 : Go.bits .and .u8 a3 a2 = a3 <;> by_cases c5 : a4 ≥ 0 <;> simp [c2, c3, c4, c5, c6]
    · by_cases c7 : Go.bits .and .u8 a2 15 = 15
      · by_cases c3 : a2 / 16 = 0
        · by_cases c4 : Go.bits .and .u8 a3 a2 = a3 <;> by_cases c5 : a4 ≥ 0 <;> simp [c7, c3, c4, c5]
        · by_cases c6 : a2 / 16 = 15 <;> by_cases c4 : Go.bits .and .u8 a3 a2 = a3 <;> by_cases c5 : a4 ≥ 0 <;> simp [c7, c3, c4, c5, c6]
      · by_cases c3 : a2 / 16 = 0
        · simp [c2, c7, c3]
        · by_cases c6 : a2 / 16 = 15 <;> simp [c2, c7, c3, c6]
  · exact ⟨_, rfl, rfl⟩

/-- What a right rule's mask and data are. -/
theorem ok_facts {a0 a1 a2 a3 a4 : Int} (h3 : 0 ≤ a3 ∧ a3 < 256) (h2 : 0 ≤ a2 ∧ a2 < 256) (h : impl_RuleOk.f a0 a1 a2 a3 a4 = some true) : (a2 = 0 ∨ a2 = 15 ∨ a2 = 240 ∨ a2 = 255) ∧ Go.bits .and .u8 a3 a2 = a3 := by
  unfold impl_RuleOk.f at h
  by_cases c1 : a0 ≤ a1
  · rw [if_pos c1] at h
    obtain ⟨t, h1, h⟩ := Option.bind_eq_some_iff.mp h
    by_cases c2 : t = true
    · rw [if_pos c2] at h
      obtain ⟨t', h2', h⟩ := Option.bind_eq_some_iff.mp h
      by_cases c3 : t' = true
      · rw [if_pos c3] at h
        by_cases c4 : Go.bits .andNot .u8 a3 a2 = 0
        · subst c2
          subst c3
          refine ⟨?_, (andNot_zero h3).mp c4⟩
          have all : ∀ m : Fin 256, impl_isHalf.f (Go.bits .and .u8 (m.val : Int) 15) = some true → impl_isHalf.f ((m.val : Int) / 16) = some true → (m.val = 0 ∨ m.val = 15 ∨ m.val = 240 ∨ m.val = 255) := by decide +kernel
          have e : (((⟨a2.toNat, by omega⟩ : Fin 256).val : Nat) : Int) = a2 := by show ((a2.toNat : Nat) : Int) = a2; omega
          have g := all ⟨a2.toNat, by omega⟩
          rw [e] at g
          have g' := g (by first | exact h1 | exact h2') (by first | exact h2' | exact h1)
          have g'' : a2.toNat = 0 ∨ a2.toNat = 15 ∨ a2.toNat = 240 ∨ a2.toNat = 255 := g'
          omega
        · rw [if_neg c4] at h
          exact absurd (Option.some.inj h) (by decide)
      · rw [if_neg c3] at h
        exact absurd (Option.some.inj h) (by decide)
    · rw [if_neg c2] at h
      exact absurd (Option.some.inj h) (by decide)
  · rw [if_neg c1] at h
    exact absurd (Option.some.inj h) (by decide)
theorem dgb_val : ∀ j : Fin 16, hexv (dgb j.val).toNat = (j.val : Int) ∧ dgb j.val ≠ 63 := by decide +kernel
theorem dgb_hex {n : Nat} (h : n < 16) : hexv (dgb n).toNat = (n : Int) := (dgb_val ⟨n, h⟩).1
theorem dgb_ne {n : Nat} (h : n < 16) : dgb n ≠ 63 := (dgb_val ⟨n, h⟩).2
theorem hex_back (v : Nat) (h : v < 65536) : hexF ⟨#[dgb (v / 16 / 16 / 16 % 16), dgb (v / 16 / 16 % 16), dgb (v / 16 % 16), dgb (v % 16)]⟩ 4 0 0 = (v : Int) := by
  rw [hexF4, dgb_hex (by omega), dgb_hex (by omega), dgb_hex (by omega), dgb_hex (by omega), if_neg (by omega), if_neg (by omega), if_neg (by omega), if_neg (by omega)]
  omega
/-- The mask and the data, read back. -/
theorem back_all : ∀ (i : Fin 4) (u : Fin 256), Go.bits .and .u8 (u.val : Int) ([0, 15, 240, 255].getD i.val 0) = (u.val : Int) →
    iM (decide ((if ([0, 15, 240, 255] : List Int).getD i.val 0 / 16 = 0 then 63 else dgb (u.val / 16 % 16)) = 63) || false) 4 0 = iM (decide ((if ([0, 15, 240, 255] : List Int).getD i.val 0 / 16 = 0 then 63 else dgb (u.val / 16 % 16)) = 63)) 4 0 ∧
    iM (decide ((if (Go.bits .and .u8 (([0, 15, 240, 255] : List Int).getD i.val 0) 15) = 0 then 63 else dgb (u.val % 16)) = 63)) 0 (iM (decide ((if ([0, 15, 240, 255] : List Int).getD i.val 0 / 16 = 0 then 63 else dgb (u.val / 16 % 16)) = 63)) 4 0) = ([0, 15, 240, 255] : List Int).getD i.val 0 ∧
    iW (decide ((if (Go.bits .and .u8 (([0, 15, 240, 255] : List Int).getD i.val 0) 15) = 0 then 63 else dgb (u.val % 16)) = 63)) (hexv (if (Go.bits .and .u8 (([0, 15, 240, 255] : List Int).getD i.val 0) 15) = 0 then 63 else dgb (u.val % 16)).toNat) 0 (iW (decide ((if ([0, 15, 240, 255] : List Int).getD i.val 0 / 16 = 0 then 63 else dgb (u.val / 16 % 16)) = 63)) (hexv (if ([0, 15, 240, 255] : List Int).getD i.val 0 / 16 = 0 then 63 else dgb (u.val / 16 % 16)).toNat) 4 0) = (u.val : Int) := by decide +kernel
theorem back_mw {a2 : Int} {u3 : Nat} (h3 : u3 < 256) (h : (a2 = 0 ∨ a2 = 15 ∨ a2 = 240 ∨ a2 = 255) ∧ Go.bits .and .u8 (u3 : Int) a2 = (u3 : Int)) :
    iM (decide ((if (Go.bits .and .u8 a2 15) = 0 then 63 else dgb (u3 % 16)) = 63)) 0 (iM (decide ((if a2 / 16 = 0 then 63 else dgb (u3 / 16 % 16)) = 63)) 4 0) = a2 ∧
    iW (decide ((if (Go.bits .and .u8 a2 15) = 0 then 63 else dgb (u3 % 16)) = 63)) (hexv (if (Go.bits .and .u8 a2 15) = 0 then 63 else dgb (u3 % 16)).toNat) 0 (iW (decide ((if a2 / 16 = 0 then 63 else dgb (u3 / 16 % 16)) = 63)) (hexv (if a2 / 16 = 0 then 63 else dgb (u3 / 16 % 16)).toNat) 4 0) = (u3 : Int) := by
  obtain ⟨h2, hw⟩ := h
  rcases h2 with rfl | rfl | rfl | rfl
  · exact (back_all 0 ⟨u3, h3⟩ hw).2
  · exact (back_all 1 ⟨u3, h3⟩ hw).2
  · exact (back_all 2 ⟨u3, h3⟩ hw).2
  · exact (back_all 3 ⟨u3, h3⟩ hw).2
theorem op3_back {a : Int} (h : 0 ≤ a ∧ a ≤ 2) : iOp (op3 a) = a := by
  have c : a = 0 ∨ a = 1 ∨ a = 2 := by omega
  rcases c with rfl | rfl | rfl <;> rfl
theorem read_back (u0 u1 u3 : Nat) (a2 a4 : Int) (q0 : u0 < 65536) (q1 : u1 < 65536) (h2 : 0 ≤ a2 ∧ a2 < 256) (q3 : u3 < 256) (ok : impl_RuleOk.f (u0 : Int) (u1 : Int) a2 (u3 : Int) a4 = some true) :
    Ev (fun k => impl_ReadRule.f k (ruleB u0 u1 a2 u3 a4)) ((u0 : Int), (u1 : Int), a2, (u3 : Int), a4, true) := by
  have ht := text_right u0 u1 u3 a2 a4 q0 q1 q3 ok
  have h4 := ruleOk_op ok
  have fa := ok_facts (a3 := (u3 : Int)) ⟨by omega, by omega⟩ h2 ok
  obtain ⟨hm, hv⟩ := back_mw q3 fa
  have o4 := op3_back h4
  have hL := hex_back u0 q0
  have hH := hex_back u1 q1
  have iL := impl_hex (s := ⟨#[dgb (u0 / 16 / 16 / 16 % 16), dgb (u0 / 16 / 16 % 16), dgb (u0 / 16 % 16), dgb (u0 % 16)]⟩) (n := 4) (by omega) rfl
  have iH := impl_hex (s := ⟨#[dgb (u1 / 16 / 16 / 16 % 16), dgb (u1 / 16 / 16 % 16), dgb (u1 / 16 % 16), dgb (u1 % 16)]⟩) (n := 4) (by omega) rfl
  rw [hL] at iL
  rw [hH] at iH
  obtain ⟨s, hs⟩ : ∃ s, ruleB u0 u1 a2 u3 a4 = s := ⟨_, rfl⟩
  have hz : (s.size : Int) = 14 := by rw [← hs]; rfl
  have eL : s.extract 0 4 = ⟨#[dgb (u0 / 16 / 16 / 16 % 16), dgb (u0 / 16 / 16 % 16), dgb (u0 / 16 % 16), dgb (u0 % 16)]⟩ := by rw [← hs]; rfl
  have eH : s.extract 5 9 = ⟨#[dgb (u1 / 16 / 16 / 16 % 16), dgb (u1 / 16 / 16 % 16), dgb (u1 / 16 % 16), dgb (u1 % 16)]⟩ := by rw [← hs]; rfl
  rw [hs] at ht
  have l := impl_loop s _ _ _ _ _ _ _ _ _ _ _ _ _ _ hs.symm (u0 : Int) (u1 : Int) a2 (u3 : Int) hm hv s (by rw [o4]; exact ht)
  rw [hs]
  unfold impl_ReadRule.f
  simp only [hz, if_true, eL, eH]
  simp only [if_pos (show (0 : Nat) ≤ 4 by omega), if_pos (show (5 : Nat) ≤ 9 by omega), if_pos (show (4 : Int) ≤ 14 by omega), if_pos (show (9 : Int) ≤ 14 by omega), if_pos (show (0 : Int) ≤ 4 by omega), if_pos (show (5 : Int) ≤ 9 by omega)]
  refine Ev.bind iL (Ev.bind iH ?_)
  rw [mx_pos (by omega), mx_pos (by omega), wrap16 ⟨by omega, by omega⟩, wrap16 ⟨by omega, by omega⟩]
  unfold fin6 at l
  rw [if_pos rfl, o4] at l
  exact l
theorem each_ok : impl_RuleOk.f 0 65535 0 0 2 = some true := by decide +kernel
theorem and_zero (b : Int) : Go.bits .and .u8 b 0 = 0 := by
  rw [bits_and8]
  simp
theorem each_takes (x0 x1 : Int) (x2 : Bool) (h0 : 0 ≤ x0 ∧ x0 < 65536) : impl_Rule_takes.f 0 65535 0 0 2 x0 x1 x2 = some true := by
  unfold impl_Rule_takes.f
  rw [if_pos (by omega), if_pos (by omega), if_pos (and_zero x1), if_pos rfl]
theorem takes_each (x0 x1 : Int) (x2 : Bool) (h0 : 0 ≤ x0 ∧ x0 < 65536) : impl_Takes.f 0 65535 0 0 2 x0 x1 x2 = some true := by
  unfold impl_Takes.f
  rw [each_ok]
  simp only [Option.bind_some, if_true]
  rw [each_takes x0 x1 x2 h0]
  rfl
abbrev C := S34
abbrev U := S24
theorem each_right : Ev (fun k => impl_areRules.f k ([(⟨0, 65535, 0, 0, 2⟩ : U)] : List U)) true := by
  refine ⟨4, fun k hk => ?_⟩
  obtain ⟨j, rfl⟩ : ∃ j, k = j + 4 := ⟨k - 4, by omega⟩
  have e0 : (rd_T24 ([(⟨0, 65535, 0, 0, 2⟩ : U)] : List U) 0) = (⟨0, 65535, 0, 0, 2⟩ : U) := rfl
  have l0 : impl_within.f ((([(⟨0, 65535, 0, 0, 2⟩ : U)] : List U).length : Nat) : Int) 1 8 = some true := by decide
  unfold impl_areRules.f
  rw [l0]
  simp only [Option.bind_some, if_true]
  unfold impl_Rule_38.f impl_Rule_41.f
  have e1 : impl_Rule_41.l0 (j + 4) ([(⟨0, 65535, 0, 0, 2⟩ : U)] : List U) ((([(⟨0, 65535, 0, 0, 2⟩ : U)] : List U).length : Nat) : Int) 0 = some (-1) := by
    simp only [impl_Rule_41.l0]
    rw [if_pos (by decide), if_pos (by decide), if_pos (by decide), e0]
    unfold impl_areRules_1.f
    simp only [each_ok, Option.bind_some, Bool.not_true, Bool.false_eq_true, if_false]
    rw [show wrap64 (0 + 1) = 1 from wrap_in (by decide) (by decide), if_neg (by decide)]
  rw [e1]
  rfl
end Go.Proofs.Ytkngnnfjdmndeaa.MQR
