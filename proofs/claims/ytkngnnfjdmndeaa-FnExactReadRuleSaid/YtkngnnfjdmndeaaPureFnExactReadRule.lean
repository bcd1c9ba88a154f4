/-
ReadRule: the program's rule of a text is the reference's, for every text.
-/
import Derived.Test.YtkngnnfjdmndeaaMEx1
import Derived.Test.YtkngnnfjdmndeaaMEx2
import Derived.Test.YtkngnnfjdmndeaaMEx3
import Derived.Test.YtkngnnfjdmndeaaMEx4
import Derived.Test.YtkngnnfjdmndeaaMEx5
import Derived.Test.YtkngnnfjdmndeaaMEx6
import Derived.Test.YtkngnnfjdmndeaaEReadHexSame
import Derived.Test.YtkngnnfjdmndeaaERuleTextBoth
set_option linter.unusedSimpArgs false
set_option linter.unusedVariables false
namespace Go.Proofs.Ytkngnnfjdmndeaa.Pure
open Go.RowKit Go.Proofs.Ytkngnnfjdmndeaa.ME Go.Proofs.Ytkngnnfjdmndeaa.MET Go.Proofs.Ytkngnnfjdmndeaa.MEX Go.Proofs.Ytkngnnfjdmndeaa.RowTwo Go.Proofs.YtkngnnfjdmndeaaW.PrintWords Go.Proofs.YtkngnnfjdmndeaaW.PrintLast Go.Proofs.Ytkngnnfjdmndeaa.Bit Go.Proofs.Ytkngnnfjdmndeaa.Lst

abbrev R6 := Int × Int × Int × Int × Int × Bool
/-- What one round of the reference does with a digit. -/
def sM (d m : Int) : Int := if d ≥ 0 then (((m * 16) % 256) + 15) % 256 else (m * 16) % 256
def sW (d v : Int) : Int := if d ≥ 0 then (((v * 16) % 256) + (d % 256)) % 256 else (v * 16) % 256
/-- What one round of the program does with a byte and its digit. -/
def iM (q : Bool) (n m : Int) : Int := if q then m else Go.bits .or .u8 m (shl .u8 15 n)
def iW (q : Bool) (d n v : Int) : Int := if q then v else Go.bits .or .u8 v (shl .u8 ((mx 0 d) % 256) n)
def sOp (b : UInt8) : Int := if b = 119 then 1 else if b = 120 then 2 else 0
def iOp (b : UInt8) : Int := if b = 114 then 0 else if b = 119 then 1 else 2
def fin6 (s t : ByteArray) (a0 a1 a2 a3 a4 : Int) : R6 := if t = s then (a0, a1, a2, a3, a4, true) else (0, 0, 0, 0, 0, false)

theorem toList_data (s : ByteArray) : s.toList = s.data.toList := by
  have go : ∀ (d i : Nat) (r : List UInt8), i + d = s.size → ByteArray.toList.loop s i r = r.reverse ++ s.data.toList.drop i := by
    intro d
    induction d with
    | zero =>
      intro i r h
      unfold ByteArray.toList.loop
      rw [if_neg (by omega), List.drop_eq_nil_of_le (by rw [Array.length_toList]; exact Nat.le_of_eq (show s.size = i by omega)), List.append_nil]
    | succ d ih =>
      intro i r h
      unfold ByteArray.toList.loop
      rw [if_pos (by omega), ih (i + 1) _ (by omega)]
      have hl : i < s.data.toList.length := by rw [Array.length_toList]; exact (by omega : i < s.size)
      rw [List.drop_eq_getElem_cons hl, List.reverse_cons, List.append_assoc]
      congr 1
      have e : s.get! i = s.data.toList[i] := by
        have : s.get! i = s.data[i]! := rfl
        rw [this, getElem!_pos s.data i (by simpa using hl)]
        simp
      rw [e]
      rfl
  have h := go s.size 0 [] (by omega)
  simpa [ByteArray.toList] using h
theorem toList_iff (s t : ByteArray) : t.toList = s.toList ↔ t = s := by
  rw [toList_data, toList_data]
  constructor
  · intro h
    apply ByteArray.ext
    exact Array.ext' h
  · intro h
    rw [h]

theorem fin_same : ∀ e0 e1 : Fin 17, sM ((e1.val : Int) - 1) (sM ((e0.val : Int) - 1) 0) = iM (decide ((e1.val : Int) - 1 < 0)) 0 (iM (decide ((e0.val : Int) - 1 < 0)) 4 0) ∧ sW ((e1.val : Int) - 1) (sW ((e0.val : Int) - 1) 0) = iW (decide ((e1.val : Int) - 1 < 0)) ((e1.val : Int) - 1) 0 (iW (decide ((e0.val : Int) - 1 < 0)) ((e0.val : Int) - 1) 4 0) := by decide +kernel
theorem iM_zero : ∀ q0 q1 : Bool, ((iM q1 0 (iM q0 4 0) / 16 = 0) ↔ q0 = true) ∧ ((Go.bits .and .u8 (iM q1 0 (iM q0 4 0)) 15 = 0) ↔ q1 = true) ∧ 0 ≤ iM q1 0 (iM q0 4 0) ∧ iM q1 0 (iM q0 4 0) < 256 := by decide +kernel
theorem iW_range : ∀ (q0 q1 : Bool) (e0 e1 : Fin 17), 0 ≤ iW q1 ((e1.val : Int) - 1) 0 (iW q0 ((e0.val : Int) - 1) 4 0) ∧ iW q1 ((e1.val : Int) - 1) 0 (iW q0 ((e0.val : Int) - 1) 4 0) < 256 := by decide +kernel
theorem dg_hex : ∀ j : Fin 16, 0 ≤ hexv (dg j).toNat ∧ dg j ≠ 63 := by decide +kernel
theorem hexv_63 : hexv 63 = -1 := by decide
theorem hexv_fin (b : Nat) : ∃ e : Fin 17, hexv b = (e.val : Int) - 1 := by
  have h := hexv_range b
  exact ⟨⟨(hexv b + 1).toNat, by omega⟩, by show hexv b = (((hexv b + 1).toNat : Nat) : Int) - 1; omega⟩

theorem hexF4 (b0 b1 b2 b3 : UInt8) : hexF ⟨#[b0, b1, b2, b3]⟩ 4 0 0 = if hexv b0.toNat < 0 then -1 else if hexv b1.toNat < 0 then -1 else if hexv b2.toNat < 0 then -1 else if hexv b3.toNat < 0 then -1 else 16 * (16 * (16 * hexv b0.toNat + hexv b1.toNat) + hexv b2.toNat) + hexv b3.toNat := by
  have e0 : (bt ⟨#[b0, b1, b2, b3]⟩ ((0 : Nat) : Int)).toNat = b0.toNat := rfl
  have e1 : (bt ⟨#[b0, b1, b2, b3]⟩ ((0 + 1 : Nat) : Int)).toNat = b1.toNat := rfl
  have e2 : (bt ⟨#[b0, b1, b2, b3]⟩ ((0 + 1 + 1 : Nat) : Int)).toNat = b2.toNat := rfl
  have e3 : (bt ⟨#[b0, b1, b2, b3]⟩ ((0 + 1 + 1 + 1 : Nat) : Int)).toNat = b3.toNat := rfl
  simp only [hexF, e0, e1, e2, e3, Int.mul_zero, Int.zero_add]
theorem hexF1 (b : UInt8) : hexF ⟨#[b]⟩ 1 0 0 = hexv b.toNat := by
  have e0 : (bt ⟨#[b]⟩ ((0 : Nat) : Int)).toNat = b.toNat := rfl
  have h := hexv_range b.toNat
  simp only [hexF, e0, Int.mul_zero, Int.zero_add]
  by_cases c : hexv b.toNat < 0
  · rw [if_pos c]; omega
  · rw [if_neg c]
theorem hexF4_range (b0 b1 b2 b3 : UInt8) : -1 ≤ hexF ⟨#[b0, b1, b2, b3]⟩ 4 0 0 ∧ hexF ⟨#[b0, b1, b2, b3]⟩ 4 0 0 < 65536 := by
  rw [hexF4]
  have h0 := hexv_range b0.toNat
  have h1 := hexv_range b1.toNat
  have h2 := hexv_range b2.toNat
  have h3 := hexv_range b3.toNat
  repeat' split
  all_goals omega
theorem hexF4_dg (j0 j1 j2 j3 : Fin 16) : 0 ≤ hexF ⟨#[dg j0, dg j1, dg j2, dg j3]⟩ 4 0 0 := by
  rw [hexF4]
  have h0 := (dg_hex j0).1
  have h1 := (dg_hex j1).1
  have h2 := (dg_hex j2).1
  have h3 := (dg_hex j3).1
  repeat' split
  all_goals omega

section
variable (b0 b1 b2 b3 b4 b5 b6 b7 b8 b9 b10 b11 b12 b13 : UInt8)
abbrev s14 : ByteArray := ⟨#[b0, b1, b2, b3, b4, b5, b6, b7, b8, b9, b10, b11, b12, b13]⟩
theorem cut04 : (s14 b0 b1 b2 b3 b4 b5 b6 b7 b8 b9 b10 b11 b12 b13).extract 0 4 = ⟨#[b0, b1, b2, b3]⟩ := rfl
theorem cut59 : (s14 b0 b1 b2 b3 b4 b5 b6 b7 b8 b9 b10 b11 b12 b13).extract 5 9 = ⟨#[b5, b6, b7, b8]⟩ := rfl
theorem cutA : (s14 b0 b1 b2 b3 b4 b5 b6 b7 b8 b9 b10 b11 b12 b13).extract 10 11 = ⟨#[b10]⟩ := rfl
theorem cutB : (s14 b0 b1 b2 b3 b4 b5 b6 b7 b8 b9 b10 b11 b12 b13).extract 11 12 = ⟨#[b11]⟩ := rfl
theorem at10 : bt (s14 b0 b1 b2 b3 b4 b5 b6 b7 b8 b9 b10 b11 b12 b13) 10 = (b10.toNat : Int) := rfl
theorem at11 : bt (s14 b0 b1 b2 b3 b4 b5 b6 b7 b8 b9 b10 b11 b12 b13) 11 = (b11.toNat : Int) := rfl
theorem at13 : bt (s14 b0 b1 b2 b3 b4 b5 b6 b7 b8 b9 b10 b11 b12 b13) 13 = (b13.toNat : Int) := rfl
end
theorem byte_is (b : UInt8) (n : Nat) (h : n < 256) : ((b.toNat : Int) = (n : Int)) ↔ b = n.toUInt8 := by
  constructor
  · intro e
    have e' : b.toNat = n := by omega
    apply UInt8.toNat_inj.mp
    rw [e']
    simp
    omega
  · intro e
    rw [e]
    simp
    omega

theorem spec_loop (s : ByteArray) (b0 b1 b2 b3 b4 b5 b6 b7 b8 b9 b10 b11 b12 b13 : UInt8) (hs : s = s14 b0 b1 b2 b3 b4 b5 b6 b7 b8 b9 b10 b11 b12 b13) (a0 a1 : Int) (m v : Int) (hm : sM (hexv b11.toNat) (sM (hexv b10.toNat) 0) = m) (hv : sW (hexv b11.toNat) (sW (hexv b10.toNat) 0) = v)
    (t : ByteArray) (ht : Ev (fun k => spec_RuleText.f k a0 a1 m v (sOp b13)) t) : Ev (fun k => spec_ReadRule.l0 k s 0 a0 a1 0 0 0) (fin6 s t a0 a1 m v (sOp b13)) := by
  have hz : (s.size : Int) = 14 := by rw [hs]; rfl
  have h0 := spec_hex (s := ⟨#[b10]⟩) (n := 1) (by omega) rfl
  have h1 := spec_hex (s := ⟨#[b11]⟩) (n := 1) (by omega) rfl
  have c0 : s.extract 10 11 = ⟨#[b10]⟩ := by rw [hs]; rfl
  have c1 : s.extract 11 12 = ⟨#[b11]⟩ := by rw [hs]; rfl
  have c13 : bt s 13 = (b13.toNat : Int) := by rw [hs]; rfl
  clear hs
  rw [hexF1] at h0 h1
  have last : ∀ (op : Int), (b13 ≠ 119 → b13 ≠ 120 → op = 0) → Ev (fun k => spec_ReadRule.l0 k s 2 a0 a1 m v op) (fin6 s t a0 a1 m v (sOp b13)) := fun op hop => by
    have tail : ∀ op' : Int, op' = sOp b13 → Ev (fun k => (spec_RuleText.f k a0 a1 m v op').bind fun x => if x.toList = s.toList then some (a0, a1, m, v, op', true) else some (0, 0, 0, 0, 0, false)) (fin6 s t a0 a1 m v (sOp b13)) := fun op' e => by
      subst e
      refine Ev.bind ht ?_
      unfold fin6
      simp only [toList_iff]
      by_cases c : t = s
      · rw [if_pos c, if_pos c]; exact Ev.now _
      · rw [if_neg c, if_neg c]; exact Ev.now _
    by_cases w : b13 = 119
    · refine Ev.step (fun k => ?_) (tail 1 (by unfold sOp; rw [if_pos w]))
      simp only [spec_ReadRule.l0]
      rw [if_neg (by decide), hz, if_pos (by decide), c13, if_pos (by rw [w]; rfl)]
    · have w' : ¬ ((b13.toNat : Int) = 119) := fun e => w ((byte_is b13 119 (by decide)).mp e)
      by_cases x : b13 = 120
      · refine Ev.step (fun k => ?_) (tail 2 (by unfold sOp; rw [if_neg w, if_pos x]))
        simp only [spec_ReadRule.l0]
        rw [if_neg (by decide), hz, if_pos (by decide), c13, if_neg w', if_pos (by rw [x]; rfl)]
      · have x' : ¬ ((b13.toNat : Int) = 120) := fun e => x ((byte_is b13 120 (by decide)).mp e)
        refine Ev.step (fun k => ?_) (tail op (by unfold sOp; rw [if_neg w, if_neg x]; exact hop w x))
        simp only [spec_ReadRule.l0]
        rw [if_neg (by decide), hz, if_pos (by decide), c13, if_neg w', if_neg x']
  have second : Ev (fun k => spec_ReadRule.l0 k s 1 a0 a1 (sM (hexv b10.toNat) 0) (sW (hexv b10.toNat) 0) 0) (fin6 s t a0 a1 m v (sOp b13)) := by
    have l := last 0 (fun _ _ => rfl)
    rw [← hm, ← hv] at l ⊢
    generalize sM (hexv b10.toNat) 0 = m0 at l ⊢
    generalize sW (hexv b10.toNat) 0 = v0 at l ⊢
    unfold sM sW at l ⊢
    refine Ev.step (f := fun k => (spec_ReadHex.f k (s.extract 11 12) 1).bind fun t122 => (if t122 ≥ 0 then (spec_ReadRule.l0 k s 2 a0 a1 ((((m0 * 16) % 256) + 15) % 256) ((((v0 * 16) % 256) + ((t122) % 256)) % 256) 0) else (spec_ReadRule.l0 k s 2 a0 a1 ((m0 * 16) % 256) ((v0 * 16) % 256) 0))) (fun k => ?_) ?_
    · simp only [spec_ReadRule.l0]
      rw [if_pos (by decide), show wrap64 (10 + 1) = 11 from wrap_in (by decide) (by decide), show wrap64 (11 + 1) = 12 from wrap_in (by decide) (by decide), show wrap64 (1 + 1) = 2 from wrap_in (by decide) (by decide), hz]
      rfl
    · rw [c1]
      refine Ev.bind h1 ?_
      by_cases c : hexv b11.toNat ≥ 0
      · simp only [if_pos c] at l ⊢; exact l
      · simp only [if_neg c] at l ⊢; exact l
  unfold sM sW at second
  refine Ev.step (f := fun k => (spec_ReadHex.f k (s.extract 10 11) 1).bind fun t122 => (if t122 ≥ 0 then (spec_ReadRule.l0 k s 1 a0 a1 ((((0 * 16) % 256) + 15) % 256) ((((0 * 16) % 256) + ((t122) % 256)) % 256) 0) else (spec_ReadRule.l0 k s 1 a0 a1 ((0 * 16) % 256) ((0 * 16) % 256) 0))) (fun k => ?_) ?_
  · simp only [spec_ReadRule.l0]
    rw [if_pos (by decide), show wrap64 (10 + 0) = 10 from wrap_in (by decide) (by decide), show wrap64 (11 + 0) = 11 from wrap_in (by decide) (by decide), show wrap64 (0 + 1) = 1 from wrap_in (by decide) (by decide), hz]
    rfl
  · rw [c0]
    refine Ev.bind h0 ?_
    by_cases c : hexv b10.toNat ≥ 0
    · simp only [if_pos c] at second ⊢; exact second
    · simp only [if_neg c] at second ⊢; exact second
theorem impl_loop (s : ByteArray) (b0 b1 b2 b3 b4 b5 b6 b7 b8 b9 b10 b11 b12 b13 : UInt8) (hs : s = s14 b0 b1 b2 b3 b4 b5 b6 b7 b8 b9 b10 b11 b12 b13) (a0 a1 : Int) (m v : Int) (hm : iM (decide (b11 = 63)) 0 (iM (decide (b10 = 63)) 4 0) = m) (hv : iW (decide (b11 = 63)) (hexv b11.toNat) 0 (iW (decide (b10 = 63)) (hexv b10.toNat) 4 0) = v)
    (t : ByteArray) (ht : Ev (fun k => impl_RuleText.f k a0 a1 m v (iOp b13)) t) : Ev (fun k => impl_ReadRule.l0 k s [4, 0] 2 0 a0 a1 0 0 2) (fin6 s t a0 a1 m v (iOp b13)) := by
  have hz : (s.size : Int) = 14 := by rw [hs]; rfl
  have h0 := impl_hex (s := ⟨#[b10]⟩) (n := 1) (by omega) rfl
  have h1 := impl_hex (s := ⟨#[b11]⟩) (n := 1) (by omega) rfl
  have c0 : s.extract 10 11 = ⟨#[b10]⟩ := by rw [hs]; rfl
  have c1 : s.extract 11 12 = ⟨#[b11]⟩ := by rw [hs]; rfl
  have c13 : bt s 13 = (b13.toNat : Int) := by rw [hs]; rfl
  have c10 : bt s 10 = (b10.toNat : Int) := by rw [hs]; rfl
  have c11 : bt s 11 = (b11.toNat : Int) := by rw [hs]; rfl
  clear hs
  rw [hexF1] at h0 h1
  have last : Ev (fun k => impl_ReadRule.l0 k s [4, 0] 2 2 a0 a1 m v 2) (fin6 s t a0 a1 m v (iOp b13)) := by
    have tail : ∀ op' : Int, op' = iOp b13 → Ev (fun k => (impl_RuleText.f k a0 a1 m v op').bind fun x => if x.toList = s.toList then some (a0, a1, m, v, op', true) else some (0, 0, 0, 0, 0, false)) (fin6 s t a0 a1 m v (iOp b13)) := fun op' e => by
      subst e
      refine Ev.bind ht ?_
      unfold fin6
      simp only [toList_iff]
      by_cases c : t = s
      · rw [if_pos c, if_pos c]; exact Ev.now _
      · rw [if_neg c, if_neg c]; exact Ev.now _
    by_cases w : b13 = 114
    · refine Ev.step (fun k => ?_) (tail 0 (by unfold iOp; rw [if_pos w]))
      simp only [impl_ReadRule.l0]
      rw [if_neg (by decide), hz, if_pos (by decide), c13, if_pos (by rw [w]; rfl)]
    · have w' : ¬ ((b13.toNat : Int) = 114) := fun e => w ((byte_is b13 114 (by decide)).mp e)
      by_cases x : b13 = 119
      · refine Ev.step (fun k => ?_) (tail 1 (by unfold iOp; rw [if_neg w, if_pos x]))
        simp only [impl_ReadRule.l0]
        rw [if_neg (by decide), hz, if_pos (by decide), c13, if_neg w', if_pos (by rw [x]; rfl)]
      · have x' : ¬ ((b13.toNat : Int) = 119) := fun e => x ((byte_is b13 119 (by decide)).mp e)
        refine Ev.step (fun k => ?_) (tail 2 (by unfold iOp; rw [if_neg w, if_neg x]))
        simp only [impl_ReadRule.l0]
        rw [if_neg (by decide), hz, if_pos (by decide), c13, if_neg w', if_neg x']
  have second : Ev (fun k => impl_ReadRule.l0 k s [4, 0] 2 1 a0 a1 (iM (decide (b10 = 63)) 4 0) (iW (decide (b10 = 63)) (hexv b10.toNat) 4 0) 2) (fin6 s t a0 a1 m v (iOp b13)) := by
    have l := last
    rw [← hm, ← hv] at l ⊢
    generalize iM (decide (b10 = 63)) 4 0 = m0 at l ⊢
    generalize iW (decide (b10 = 63)) (hexv b10.toNat) 4 0 = v0 at l ⊢
    unfold iM iW at l ⊢
    by_cases q : b11 = 63
    · simp only [q, decide_true, if_true] at l ⊢
      refine Ev.step (fun k => ?_) l
      simp only [impl_ReadRule.l0]
      rw [if_pos (by decide), if_pos (by decide), if_pos (by decide), show wrap64 (10 + 1) = 11 from wrap_in (by decide) (by decide), show wrap64 (1 + 1) = 2 from wrap_in (by decide) (by decide), hz, if_pos (by decide), if_pos (by decide), c11, if_pos (by rw [q]; rfl)]
    · have q' : ¬ ((b11.toNat : Int) = 63) := fun e => q ((byte_is b11 63 (by decide)).mp e)
      simp only [q, decide_false, Bool.false_eq_true, if_false] at l ⊢
      refine Ev.step (f := fun k => (impl_ReadHex.f k (s.extract 11 12) 1).bind fun t145 => (impl_ReadRule.l0 k s [4, 0] 2 2 a0 a1 (Go.bits .or .u8 m0 (shl .u8 15 0)) (Go.bits .or .u8 v0 (shl .u8 ((mx 0 t145) % 256) 0)) 2)) (fun k => ?_) ?_
      · simp only [impl_ReadRule.l0]
        rw [if_pos (by decide), if_pos (by decide), if_pos (by decide), show wrap64 (10 + 1) = 11 from wrap_in (by decide) (by decide), show wrap64 (11 + 1) = 12 from wrap_in (by decide) (by decide), show wrap64 (1 + 1) = 2 from wrap_in (by decide) (by decide), hz, if_pos (by decide), if_pos (by decide), c11, if_neg q', show rd [4, 0] 1 = 0 from rfl, if_pos (by decide), if_pos (by decide), if_pos (by decide)]
        rfl
      · rw [c1]
        refine Ev.bind h1 ?_
        exact l
  unfold iM iW at second
  by_cases q : b10 = 63
  · simp only [q, decide_true, if_true] at second ⊢
    refine Ev.step (fun k => ?_) second
    simp only [impl_ReadRule.l0]
    rw [if_pos (by decide), if_pos (by decide), if_pos (by decide), show wrap64 (10 + 0) = 10 from wrap_in (by decide) (by decide), show wrap64 (0 + 1) = 1 from wrap_in (by decide) (by decide), hz, if_pos (by decide), if_pos (by decide), c10, if_pos (by rw [q]; rfl)]
  · have q' : ¬ ((b10.toNat : Int) = 63) := fun e => q ((byte_is b10 63 (by decide)).mp e)
    simp only [q, decide_false, Bool.false_eq_true, if_false] at second ⊢
    refine Ev.step (f := fun k => (impl_ReadHex.f k (s.extract 10 11) 1).bind fun t145 => (impl_ReadRule.l0 k s [4, 0] 2 1 a0 a1 (Go.bits .or .u8 0 (shl .u8 15 4)) (Go.bits .or .u8 0 (shl .u8 ((mx 0 t145) % 256) 4)) 2)) (fun k => ?_) ?_
    · simp only [impl_ReadRule.l0]
      rw [if_pos (by decide), if_pos (by decide), if_pos (by decide), show wrap64 (10 + 0) = 10 from wrap_in (by decide) (by decide), show wrap64 (11 + 0) = 11 from wrap_in (by decide) (by decide), show wrap64 (0 + 1) = 1 from wrap_in (by decide) (by decide), hz, if_pos (by decide), if_pos (by decide), c10, if_neg q', show rd [4, 0] 0 = 4 from rfl, if_pos (by decide), if_pos (by decide), if_pos (by decide)]
      rfl
    · rw [c0]
      refine Ev.bind h0 ?_
      exact second
theorem ev_uniq {α : Type} {g : Nat → Option α} {a b : α} (h1 : Ev g a) (h2 : Ev g b) : a = b := by
  obtain ⟨K, hK⟩ := h1
  obtain ⟨K', hK'⟩ := h2
  exact Option.some.inj ((hK (max K K') (by omega)).symm.trans (hK' (max K K') (by omega)))
theorem wrap16 {x : Int} (h : 0 ≤ x ∧ x < 65536) : IntKind.u16.wrap x = x := by
  have e : IntKind.u16.wrap x = x % 65536 := by simp [IntKind.wrap, IntKind.bits, IntKind.signed]
  rw [e]
  omega
theorem mx_neg {x : Int} (h : x < 0) : mx 0 x = 0 := by unfold mx; rw [if_neg (by omega)]
theorem mx_pos {x : Int} (h : 0 ≤ x) : mx 0 x = x := by
  unfold mx
  by_cases c : 0 < x
  · rw [if_pos c]
  · rw [if_neg c]; omega
theorem mx_range {x : Int} (h : -1 ≤ x ∧ x < 65536) : 0 ≤ mx 0 x ∧ mx 0 x < 65536 := by
  unfold mx
  by_cases c : 0 < x
  · rw [if_pos c]; omega
  · rw [if_neg c]; omega
theorem fourteen (s : ByteArray) (h : s.size = 14) : ∃ b0 b1 b2 b3 b4 b5 b6 b7 b8 b9 b10 b11 b12 b13 : UInt8, s = s14 b0 b1 b2 b3 b4 b5 b6 b7 b8 b9 b10 b11 b12 b13 := by
  obtain ⟨d⟩ := s
  obtain ⟨l⟩ := d
  match l, h with
  | [b0, b1, b2, b3, b4, b5, b6, b7, b8, b9, b10, b11, b12, b13], _ => exact ⟨b0, b1, b2, b3, b4, b5, b6, b7, b8, b9, b10, b11, b12, b13, rfl⟩
theorem op3_inj : ∀ o : Fin 3, sOp (op3 (o.val : Int)) = (o.val : Int) ∧ iOp (op3 (o.val : Int)) = (o.val : Int) := by decide
theorem op3_back {a : Int} (h : 0 ≤ a ∧ a ≤ 2) : sOp (op3 a) = a ∧ iOp (op3 a) = a := by
  have := op3_inj ⟨a.toNat, by omega⟩
  have e : ((a.toNat : Nat) : Int) = a := by omega
  simpa only [e] using this
theorem b14_inj {a0 a1 a2 a3 a4 a5 a6 a7 a8 a9 a10 a11 a12 a13 b0 b1 b2 b3 b4 b5 b6 b7 b8 b9 b10 b11 b12 b13 : UInt8} (h : s14 a0 a1 a2 a3 a4 a5 a6 a7 a8 a9 a10 a11 a12 a13 = s14 b0 b1 b2 b3 b4 b5 b6 b7 b8 b9 b10 b11 b12 b13) :
    (a0 = b0 ∧ a1 = b1 ∧ a2 = b2 ∧ a3 = b3) ∧ (a5 = b5 ∧ a6 = b6 ∧ a7 = b7 ∧ a8 = b8) ∧ a10 = b10 ∧ a11 = b11 ∧ a13 = b13 := by
  simp [s14] at h
  obtain ⟨h0, h1, h2, h3, h4, h5, h6, h7, h8, h9, h10, h11, h12, h13⟩ := h
  exact ⟨⟨h0, h1, h2, h3⟩, ⟨h5, h6, h7, h8⟩, h10, h11, h13⟩
theorem same_both (s : ByteArray) : ∃ r : R6, Ev (fun k => spec_ReadRule.f k s) r ∧ Ev (fun k => impl_ReadRule.f k s) r := by
  by_cases hz : (s.size : Int) = 14
  · obtain ⟨b0, b1, b2, b3, b4, b5, b6, b7, b8, b9, b10, b11, b12, b13, hs⟩ := fourteen s (by omega)
    have sL := spec_hex (s := ⟨#[b0, b1, b2, b3]⟩) (n := 4) (by omega) rfl
    have iL := impl_hex (s := ⟨#[b0, b1, b2, b3]⟩) (n := 4) (by omega) rfl
    have sH := spec_hex (s := ⟨#[b5, b6, b7, b8]⟩) (n := 4) (by omega) rfl
    have iH := impl_hex (s := ⟨#[b5, b6, b7, b8]⟩) (n := 4) (by omega) rfl
    have rL := hexF4_range b0 b1 b2 b3
    have rH := hexF4_range b5 b6 b7 b8
    have eL : s.extract 0 4 = ⟨#[b0, b1, b2, b3]⟩ := by rw [hs]; rfl
    have eH : s.extract 5 9 = ⟨#[b5, b6, b7, b8]⟩ := by rw [hs]; rfl
    obtain ⟨L, hL⟩ : ∃ L, hexF ⟨#[b0, b1, b2, b3]⟩ 4 0 0 = L := ⟨_, rfl⟩
    obtain ⟨H, hH⟩ : ∃ H, hexF ⟨#[b5, b6, b7, b8]⟩ 4 0 0 = H := ⟨_, rfl⟩
    rw [hL] at sL iL rL
    rw [hH] at sH iH rH
    obtain ⟨e0, he0⟩ := hexv_fin b10.toNat
    obtain ⟨e1, he1⟩ := hexv_fin b11.toNat
    -- the program's rule and the reference's
    obtain ⟨mI, hmI⟩ : ∃ x, iM (decide (b11 = 63)) 0 (iM (decide (b10 = 63)) 4 0) = x := ⟨_, rfl⟩
    obtain ⟨vI, hvI⟩ : ∃ x, iW (decide (b11 = 63)) (hexv b11.toNat) 0 (iW (decide (b10 = 63)) (hexv b10.toNat) 4 0) = x := ⟨_, rfl⟩
    obtain ⟨mS, hmS⟩ : ∃ x, sM (hexv b11.toNat) (sM (hexv b10.toNat) 0) = x := ⟨_, rfl⟩
    obtain ⟨vS, hvS⟩ : ∃ x, sW (hexv b11.toNat) (sW (hexv b10.toNat) 0) = x := ⟨_, rfl⟩
    have zI := iM_zero (decide (b10 = 63)) (decide (b11 = 63))
    rw [hmI] at zI
    have wI := iW_range (decide (b10 = 63)) (decide (b11 = 63)) e0 e1
    rw [← he0, ← he1, hvI] at wI
    have fs := fin_same e0 e1
    rw [← he0, ← he1, hmS, hvS] at fs
    have zS := iM_zero (decide (hexv b10.toNat < 0)) (decide (hexv b11.toNat < 0))
    rw [← fs.1] at zS
    have wS := iW_range (decide (hexv b10.toNat < 0)) (decide (hexv b11.toNat < 0)) e0 e1
    rw [← he0, ← he1, ← fs.2] at wS
    -- where the bytes '?' are those that are no digits, both are the same
    have agree : (b10 = 63 ↔ hexv b10.toNat < 0) → (b11 = 63 ↔ hexv b11.toNat < 0) → mS = mI ∧ vS = vI := fun c0 c1 => by
      rw [fs.1, fs.2, ← hmI, ← hvI]
      simp only [c0, c1]
      exact ⟨trivial, trivial⟩
    obtain ⟨tI, sI1, sI2, sI3⟩ := text_both (mx 0 L) (mx 0 H) mI vI (iOp b13) (mx_range rL) (mx_range rH) zI.2.2 wI
    have evI : Ev (fun k => impl_ReadRule.f k s) (fin6 s tI (mx 0 L) (mx 0 H) mI vI (iOp b13)) := by
      have l := impl_loop s b0 b1 b2 b3 b4 b5 b6 b7 b8 b9 b10 b11 b12 b13 hs (mx 0 L) (mx 0 H) mI vI hmI hvI tI sI2
      unfold impl_ReadRule.f
      simp only [hz, if_true, eL, eH]
      simp only [if_pos (show (0 : Nat) ≤ 4 by omega), if_pos (show (5 : Nat) ≤ 9 by omega), if_pos (show (4 : Int) ≤ 14 by omega), if_pos (show (9 : Int) ≤ 14 by omega), if_pos (show (0 : Int) ≤ 4 by omega), if_pos (show (5 : Int) ≤ 9 by omega)]
      refine Ev.bind iL (Ev.bind iH ?_)
      rw [wrap16 (mx_range rL), wrap16 (mx_range rH)]
      exact l
    have none63 : ∀ j : Fin 16, dg j ≠ 63 := fun j => (dg_hex j).2
    have yes : ∀ j : Fin 16, ¬ hexv (dg j).toNat < 0 := fun j => by have := (dg_hex j).1; omega
    by_cases g : L < 0 ∨ H < 0
    · -- an address is none: the reference says no, and the program's text differs
      refine ⟨(0, 0, 0, 0, 0, false), ?_, ?_⟩
      · unfold spec_ReadRule.f
        simp only [hz, if_true, eL, eH]
        simp only [if_pos (show (0 : Nat) ≤ 4 by omega), if_pos (show (5 : Nat) ≤ 9 by omega), if_pos (show (4 : Int) ≤ 14 by omega), if_pos (show (9 : Int) ≤ 14 by omega), if_pos (show (0 : Int) ≤ 4 by omega), if_pos (show (5 : Int) ≤ 9 by omega)]
        refine Ev.bind sL (Ev.bind sH ?_)
        by_cases c : L < 0
        · simp only [if_pos c]
          refine Ev.step (f := fun _ => some (0, 0, 0, 0, 0, false)) (fun k => ?_) (Ev.now _)
          simp only [spec_ReadRule.j0, if_true]
        · have c' : H < 0 := by omega
          simp only [if_neg c, decide_eq_true c']
          refine Ev.step (f := fun _ => some (0, 0, 0, 0, 0, false)) (fun k => ?_) (Ev.now _)
          simp only [spec_ReadRule.j0, if_true]
      · have ne : ¬ tI = s := fun e => by
          rcases sI3 with hn | ⟨h4, j0, j1, j2, j3, i0, i1, i2, i3, c0, c1, ht⟩
          · rw [hn] at e
            rw [← e] at hz
            exact absurd hz (by decide)
          · rw [ht, hs] at e
            obtain ⟨⟨x0, x1, x2, x3⟩, ⟨y0, y1, y2, y3⟩, _⟩ := b14_inj e
            have p := hexF4_dg j0 j1 j2 j3
            have q := hexF4_dg i0 i1 i2 i3
            rw [x0, x1, x2, x3, hL] at p
            rw [y0, y1, y2, y3, hH] at q
            omega
        have e6 : fin6 s tI (mx 0 L) (mx 0 H) mI vI (iOp b13) = (0, 0, 0, 0, 0, false) := by unfold fin6; rw [if_neg ne]
        rw [e6] at evI
        exact evI
    · have gL : 0 ≤ L := by omega
      have gH : 0 ≤ H := by omega
      rw [mx_pos gL, mx_pos gH] at evI sI1 sI2
      obtain ⟨tS, sS1, sS2, sS3⟩ := text_both L H mS vS (sOp b13) ⟨gL, rL.2⟩ ⟨gH, rH.2⟩ zS.2.2 wS
      have evS : Ev (fun k => spec_ReadRule.f k s) (fin6 s tS L H mS vS (sOp b13)) := by
        have l := spec_loop s b0 b1 b2 b3 b4 b5 b6 b7 b8 b9 b10 b11 b12 b13 hs L H mS vS hmS hvS tS sS1
        unfold spec_ReadRule.f
        simp only [hz, if_true, eL, eH]
        simp only [if_pos (show (0 : Nat) ≤ 4 by omega), if_pos (show (5 : Nat) ≤ 9 by omega), if_pos (show (4 : Int) ≤ 14 by omega), if_pos (show (9 : Int) ≤ 14 by omega), if_pos (show (0 : Int) ≤ 4 by omega), if_pos (show (5 : Int) ≤ 9 by omega)]
        refine Ev.bind sL (Ev.bind sH ?_)
        simp only [if_neg (show ¬ L < 0 by omega), decide_eq_false (show ¬ H < 0 by omega)]
        refine Ev.step (fun k => ?_) l
        simp only [spec_ReadRule.j0, Bool.false_eq_true, if_false]
        rw [wrap16 ⟨gL, rL.2⟩, wrap16 ⟨gH, rH.2⟩]
      -- from the text's own bytes: both rules are the same
      have fromT : (tI = s ∨ tS = s) → (b10 = 63 ↔ hexv b10.toNat < 0) ∧ (b11 = 63 ↔ hexv b11.toNat < 0) ∧ sOp b13 = iOp b13 := fun hh => by
        have neg63 : ∀ b : UInt8, b = 63 → hexv b.toNat < 0 := fun b e => by rw [e]; decide
        rcases hh with e | e
        · rcases sI3 with hn | ⟨h4, j0, j1, j2, j3, i0, i1, i2, i3, c0, c1, ht⟩
          · rw [hn] at e
            rw [← e] at hz
            exact absurd hz (by decide)
          · rw [ht, hs] at e
            obtain ⟨_, _, x0, x1, x2⟩ := b14_inj e
            refine ⟨⟨neg63 b10, fun hb => ?_⟩, ⟨neg63 b11, fun hb => ?_⟩, ?_⟩
            · by_cases q : mI / 16 = 0
              · exact of_decide_eq_true (zI.1.mp q)
              · rw [if_neg q] at x0
                rw [← x0] at hb
                exact absurd hb (yes c0)
            · by_cases q : Go.bits .and .u8 mI 15 = 0
              · exact of_decide_eq_true (zI.2.1.mp q)
              · rw [if_neg q] at x1
                rw [← x1] at hb
                exact absurd hb (yes c1)
            · have o := op3_back h4
              rw [x2] at o
              rw [o.1]
        · rcases sS3 with hn | ⟨h4, j0, j1, j2, j3, i0, i1, i2, i3, c0, c1, ht⟩
          · rw [hn] at e
            rw [← e] at hz
            exact absurd hz (by decide)
          · rw [ht, hs] at e
            obtain ⟨_, _, x0, x1, x2⟩ := b14_inj e
            refine ⟨⟨neg63 b10, fun hb => ?_⟩, ⟨neg63 b11, fun hb => ?_⟩, ?_⟩
            · rw [if_pos (zS.1.mpr (decide_eq_true hb))] at x0
              exact x0.symm
            · rw [if_pos (zS.2.1.mpr (decide_eq_true hb))] at x1
              exact x1.symm
            · have o := op3_back h4
              rw [x2] at o
              rw [o.2]
      by_cases hh : tI = s ∨ tS = s
      · obtain ⟨c0, c1, c2⟩ := fromT hh
        obtain ⟨m1, m2⟩ := agree c0 c1
        rw [m1, m2, c2] at evS sS1
        have tt : tS = tI := ev_uniq sS1 sI1
        rw [tt] at evS
        exact ⟨_, evS, evI⟩
      · have n1 : ¬ tI = s := fun e => hh (Or.inl e)
        have n2 : ¬ tS = s := fun e => hh (Or.inr e)
        refine ⟨(0, 0, 0, 0, 0, false), ?_, ?_⟩
        · have e6 : fin6 s tS L H mS vS (sOp b13) = (0, 0, 0, 0, 0, false) := by unfold fin6; rw [if_neg n2]
          rw [e6] at evS
          exact evS
        · have e6 : fin6 s tI L H mI vI (iOp b13) = (0, 0, 0, 0, 0, false) := by unfold fin6; rw [if_neg n1]
          rw [e6] at evI
          exact evI
  · refine ⟨(0, 0, 0, 0, 0, false), ?_, ?_⟩
    · unfold spec_ReadRule.f
      simp only [if_neg hz]
      exact Ev.now _
    · unfold impl_ReadRule.f
      simp only [if_neg hz]
      exact Ev.now _
theorem FnExactReadRule : laws_FnExactReadRule.Pure := by
  intro a0 _
  refine Ev.rounds (g := fun k => laws_FnExactReadRule.f k a0) ?_
  unfold laws_FnExactReadRule.f
  by_cases c : (a0.size : Int) > 1048576
  · simp only [if_pos c]
    exact Ev.now _
  · obtain ⟨r, e1, e2⟩ := same_both a0
    simp only [if_neg c]
    refine Ev.bind e1 (Ev.bind e2 ?_)
    simp only [laws_eqRule.f, if_true, Option.bind_some, bne_self_eq_false, Bool.false_eq_true, if_false]
    exact Ev.now _
end Go.Proofs.Ytkngnnfjdmndeaa.Pure
