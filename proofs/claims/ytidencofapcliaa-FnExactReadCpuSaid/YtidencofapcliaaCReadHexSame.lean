/-
ReadHex: the program's number of digits in base 16 is the reference's.
-/
import Derived.Test.YtidencofapcliaaMCx1
import Derived.Test.YtidencofapcliaaMCx4
import Derived.Test.YtidencofapcliaaMCx5
import Derived.Test.YtidencofapcliaaBit
import Derived.Test.YtidencofapcliaaLst
set_option linter.unusedSimpArgs false
set_option linter.unusedVariables false
namespace Go.Proofs.Ytidencofapcliaa.MCX
open Go.RowKit Go.Proofs.Ytidencofapcliaa.MC Go.Proofs.YtidencofapcliaaW.PrintWords Go.Proofs.YtidencofapcliaaW.PrintLast Go.Proofs.Ytidencofapcliaa.Bit Go.Proofs.Ytidencofapcliaa.Lst

/-- A digit's value, -1 where it is none. -/
def hexv (b : Nat) : Int := if 48 ≤ b ∧ b ≤ 57 then (b : Int) - 48 else if 65 ≤ b ∧ b ≤ 70 then (b : Int) - 55 else -1
/-- The number of so many digits, -1 where one is none. -/
def hexF (s : ByteArray) : Nat → Nat → Int → Int
  | 0, _, acc => acc
  | d + 1, i, acc => if hexv (bt s (i : Int)).toNat < 0 then -1 else hexF s d (i + 1) (16 * acc + hexv (bt s (i : Int)).toNat)
set_option maxRecDepth 100000 in
theorem index_all : ∀ b : Fin 256, Lib.indexByte ([48, 49, 50, 51, 52, 53, 54, 55, 56, 57, 65, 66, 67, 68, 69, 70] : List UInt8) (b.val : Int).toNat.toUInt8 = hexv b.val := by decide +kernel
theorem hexv_range (b : Nat) : -1 ≤ hexv b ∧ hexv b ≤ 15 := by
  unfold hexv
  by_cases h : 48 ≤ b ∧ b ≤ 57
  · rw [if_pos h]; omega
  · rw [if_neg h]
    by_cases h2 : 65 ≤ b ∧ b ≤ 70
    · rw [if_pos h2]; omega
    · rw [if_neg h2]; omega
theorem hexv_dig {b : Nat} (c : 48 ≤ b ∧ b ≤ 57) : hexv b = (b : Int) - 48 := by unfold hexv; rw [if_pos c]
theorem hexv_let {b : Nat} (c : 65 ≤ b ∧ b ≤ 70) : hexv b = (b : Int) - 55 := by unfold hexv; rw [if_neg (by omega), if_pos c]
theorem hexv_no {b : Nat} (c1 : ¬ (48 ≤ b ∧ b ≤ 57)) (c2 : ¬ (65 ≤ b ∧ b ≤ 70)) : hexv b = -1 := by unfold hexv; rw [if_neg c1, if_neg c2]
theorem wr {x : Int} (h : -1000 ≤ x ∧ x ≤ 1000000000000) : wrap64 x = x := wrap_in (by omega) (by omega)
theorem acc_le {acc p : Nat} (h : p ≤ 7) (ha : acc < 16 ^ p) : acc < 268435456 := by
  have : 16 ^ p ≤ 16 ^ 7 := Nat.pow_le_pow_right (by omega) h
  have e : (16 : Nat) ^ 7 = 268435456 := by decide
  omega
theorem acc_up {acc p v : Nat} (ha : acc < 16 ^ p) (hv : v ≤ 15) : 16 * acc + v < 16 ^ (p + 1) := by
  rw [Nat.pow_succ]
  generalize 16 ^ p = q at ha ⊢
  omega
theorem bt_nat (s : ByteArray) (i : Int) : ∃ b : Nat, bt s i = (b : Int) ∧ b < 256 := by
  unfold bt
  by_cases h : i.toNat < s.size
  · rw [dif_pos h]
    exact ⟨_, rfl, (s[i.toNat]'h).toNat_lt⟩
  · rw [dif_neg h]
    exact ⟨0, rfl, by decide⟩
theorem in_dig {b : Nat} (hb : b < 256) : spec_l01Digit.f (b : Int) = some (decide (48 ≤ b ∧ b ≤ 57)) := by
  unfold spec_l01Digit.f spec_l01In.f
  rw [wr (by omega)]
  by_cases c : (b : Int) ≥ 48
  · rw [if_pos c]
    by_cases d : (b : Int) ≤ 57
    · rw [Option.bind_some, decide_eq_true d, decide_eq_true (by omega)]
    · rw [Option.bind_some, decide_eq_false d, decide_eq_false (by omega)]
  · rw [if_neg c, Option.bind_some, decide_eq_false (by omega)]
theorem in_let {b : Nat} (hb : b < 256) : spec_l01In.f (b : Int) 65 70 = some (decide (65 ≤ b ∧ b ≤ 70)) := by
  unfold spec_l01In.f
  by_cases c : (b : Int) ≥ 65
  · rw [if_pos c]
    by_cases d : (b : Int) ≤ 70
    · rw [decide_eq_true d, decide_eq_true (by omega)]
    · rw [decide_eq_false d, decide_eq_false (by omega)]
  · rw [if_neg c, decide_eq_false (by omega)]
theorem spec_step (k : Nat) (s : ByteArray) (n acc i : Nat) (hi : i < n) (hs : n ≤ s.size) (hn : n ≤ 8) (ha : acc < 268435456) :
    spec_ReadHex.l0 (k + 1) s (n : Int) (acc : Int) (i : Int) = if hexv (bt s (i : Int)).toNat < 0 then some (-1) else spec_ReadHex.l0 k s (n : Int) (16 * (acc : Int) + hexv (bt s (i : Int)).toNat) ((i + 1 : Nat) : Int) := by
  obtain ⟨b, hb, hb'⟩ := bt_nat s (i : Int)
  simp only [spec_ReadHex.l0, hb, Int.toNat_natCast]
  rw [if_pos (show (i : Int) < (n : Int) by omega), if_pos (show 0 ≤ (i : Int) by omega), if_pos (show (i : Int) < (s.size : Int) by omega), in_dig hb', wr (x := (b : Int)) (by omega), in_let hb', w1 (by omega), wr (x := 16 * (acc : Int)) (by omega), wr (x := 16 * (acc : Int) + (b : Int)) (by omega), wr (x := 16 * (acc : Int) + (b : Int) - 48) (by omega), wr (x := 16 * (acc : Int) + (b : Int) - 55) (by omega), Option.bind_some, Option.bind_some]
  by_cases c1 : 48 ≤ b ∧ b ≤ 57
  · rw [decide_eq_true c1, if_pos rfl, hexv_dig c1, if_neg (show ¬ ((b : Int) - 48 < 0) by omega), show 16 * (acc : Int) + (b : Int) - 48 = 16 * (acc : Int) + ((b : Int) - 48) by omega]
  · rw [decide_eq_false c1, if_neg (by decide)]
    by_cases c2 : 65 ≤ b ∧ b ≤ 70
    · rw [decide_eq_true c2, if_pos rfl, hexv_let c2, if_neg (show ¬ ((b : Int) - 55 < 0) by omega), show 16 * (acc : Int) + (b : Int) - 55 = 16 * (acc : Int) + ((b : Int) - 55) by omega]
    · rw [decide_eq_false c2, if_neg (by decide), hexv_no c1 c2, if_pos (by decide)]
theorem impl_step (k : Nat) (s : ByteArray) (n acc i : Nat) (hi : i < n) (hs : n ≤ s.size) (hn : n ≤ 8) (ha : acc < 268435456) :
    impl_ReadHex.l0 (k + 1) s (acc : Int) (n : Int) (i : Int) = if hexv (bt s (i : Int)).toNat < 0 then some (-1) else impl_ReadHex.l0 k s (16 * (acc : Int) + hexv (bt s (i : Int)).toNat) (n : Int) ((i + 1 : Nat) : Int) := by
  obtain ⟨b, hb, hb'⟩ := bt_nat s (i : Int)
  have hv := hexv_range b
  have hx : Lib.indexByte ([48, 49, 50, 51, 52, 53, 54, 55, 56, 57, 65, 66, 67, 68, 69, 70] : List UInt8) (b : Int).toNat.toUInt8 = hexv b := index_all ⟨b, hb'⟩
  simp only [impl_ReadHex.l0, hb, Int.toNat_natCast, strings_IndexByte.f]
  rw [if_pos (show (i : Int) < (n : Int) by omega), if_pos (show 0 ≤ (i : Int) by omega), if_pos (show (i : Int) < (s.size : Int) by omega), w1 (by omega), wr (x := 16 * (acc : Int)) (by omega), Option.bind_some]
  have hx' : Lib.indexByte ([48, 49, 50, 51, 52, 53, 54, 55, 56, 57, 65, 66, 67, 68, 69, 70] : List UInt8) b.toUInt8 = hexv b := hx
  rw [hx', wr (x := 16 * (acc : Int) + hexv b) (by omega)]
theorem hex_ev (g : Nat → Int → Int → Option Int) (s : ByteArray) (n : Nat) (hn : n ≤ 8) (hend : ∀ k (acc : Int), g (k + 1) acc (n : Int) = some acc)
    (hstep : ∀ k (acc i : Nat), i < n → acc < 268435456 → g (k + 1) (acc : Int) (i : Int) = if hexv (bt s (i : Int)).toNat < 0 then some (-1) else g k (16 * (acc : Int) + hexv (bt s (i : Int)).toNat) ((i + 1 : Nat) : Int)) :
    ∀ d i (acc : Nat), i + d = n → acc < 16 ^ i → Ev (fun k => g k (acc : Int) (i : Int)) (hexF s d i (acc : Int))
  | 0, i, acc, h, ha => by
    obtain rfl : i = n := by omega
    exact Ev.step (f := fun _ => some (acc : Int)) (fun k => hend k acc) (Ev.now _)
  | d + 1, i, acc, h, ha => by
    have hl := acc_le (p := i) (by omega) ha
    have st := fun k => hstep k acc i (by omega) hl
    have hv := hexv_range (bt s (i : Int)).toNat
    rw [hexF]
    generalize hexv (bt s (i : Int)).toNat = v at st hv ⊢
    by_cases c : v < 0
    · rw [if_pos c]
      refine Ev.step (f := fun _ => some (-1)) (fun k => ?_) (Ev.now _)
      rw [st k, if_pos c]
    · rw [if_neg c]
      obtain ⟨u, rfl⟩ : ∃ u : Nat, v = (u : Int) := ⟨v.toNat, by omega⟩
      have ih := hex_ev g s n hn hend hstep d (i + 1) (16 * acc + u) (by omega) (acc_up ha (by omega))
      have e : ((16 * acc + u : Nat) : Int) = 16 * (acc : Int) + (u : Int) := by omega
      rw [e] at ih
      refine Ev.step (fun k => ?_) ih
      rw [st k, if_neg c]
theorem spec_hex {s : ByteArray} {n : Nat} (hn : 1 ≤ n ∧ n ≤ 8) (hs : s.size = n) : Ev (fun k => spec_ReadHex.f k s (n : Int)) (hexF s n 0 0) := by
  have h := hex_ev (fun k acc i => spec_ReadHex.l0 k s (n : Int) acc i) s n hn.2 (fun k acc => by simp only [spec_ReadHex.l0]; rw [if_neg (by omega)]) (fun k acc i hi ha => spec_step k s n acc i hi (by omega) hn.2 ha) n 0 0 (by omega) (by decide)
  unfold spec_ReadHex.f spec_l01In.f
  simp only [if_pos (show (n : Int) ≥ 1 by omega), Option.bind_some, decide_eq_true (show (n : Int) ≤ 8 by omega), if_true]
  refine Ev.step (fun k => ?_) h
  simp only [spec_ReadHex.j0]
  rw [if_neg (by simp; omega)]
  rfl
theorem impl_hex {s : ByteArray} {n : Nat} (hn : 1 ≤ n ∧ n ≤ 8) (hs : s.size = n) : Ev (fun k => impl_ReadHex.f k s (n : Int)) (hexF s n 0 0) := by
  have h := hex_ev (fun k acc i => impl_ReadHex.l0 k s acc (n : Int) i) s n hn.2 (fun k acc => by simp only [impl_ReadHex.l0]; rw [if_neg (by omega)]) (fun k acc i hi ha => impl_step k s n acc i hi (by omega) hn.2 ha) n 0 0 (by omega) (by decide)
  unfold impl_ReadHex.f impl_within.f
  simp only [if_pos (show (n : Int) ≥ 1 by omega), Option.bind_some, decide_eq_true (show (n : Int) ≤ 8 by omega), if_true]
  refine Ev.step (fun k => ?_) h
  simp only [impl_ReadHex.j0]
  rw [if_neg (by simp; omega)]
  rfl
end Go.Proofs.Ytidencofapcliaa.MCX
