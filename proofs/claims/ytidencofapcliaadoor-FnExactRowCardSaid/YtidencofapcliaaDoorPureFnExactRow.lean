/-
Row: the program's row is the reference's, for all arguments.
-/
import Derived.Test.YtidencofapcliaaDoorMTx1
import Derived.Test.YtidencofapcliaaDoorMTx2
import Derived.Test.YtidencofapcliaaDoorMTx3
import Derived.Test.YtidencofapcliaaDoorMTx4
import Derived.Test.YtidencofapcliaaDoorMTx5
import Derived.Test.YtidencofapcliaaDoorTKnowSame
import Derived.Test.YtidencofapcliaaDoorTxtSame
import Derived.Test.YtidencofapcliaaDoorGivItoa
set_option linter.unusedSimpArgs false
set_option linter.unusedVariables false
namespace Go.Proofs.YtidencofapcliaaDoor.Pure
open Go.RowKit Go.Proofs.YtidencofapcliaaDoor.MT Go.Proofs.YtidencofapcliaaDoor.MTK Go.Proofs.YtidencofapcliaaDoor.Txt Go.Proofs.YtidencofapcliaaDoorW.PrintWords Go.Proofs.YtidencofapcliaaDoorW.PrintLast Go.Proofs.YtidencofapcliaaDoor.Bit Go.Proofs.YtidencofapcliaaDoor.Lst
abbrev dx : ByteArray := ⟨#[48, 49, 50, 51, 52, 53, 54, 55, 56, 57]⟩
set_option maxRecDepth 100000 in
theorem dx_cut : ∀ j : Fin 10, dx.extract j.val (j.val + 1) = ⟨#[UInt8.ofNat (48 + j.val)]⟩ := by decide +kernel
theorem w10 {u : Nat} (hu : u ≤ 9223372036854775807) : Int.tmod (u : Int) 10 = ((u % 10 : Nat) : Int) ∧ wrap64 (Int.tdiv (u : Int) 10) = ((u / 10 : Nat) : Int) := by
  constructor
  · rw [Int.tmod_eq_emod_of_nonneg (by omega)]
    omega
  · rw [Int.tdiv_eq_ediv_of_nonneg (by omega), wrap_in (by omega) (by omega)]
    omega
theorem dec_from {x0 : Int} (hx0 : ¬ x0 < 0) (u : Nat) : ∀ (out : ByteArray), 0 < u → out.size + u ≤ 9223372036854775807 → Ev (fun k => spec_DecText.l0 k x0 out (u : Int)) (⟨(Lib.decDigits u).toArray⟩ ++ out) := by
  induction u using Nat.strongRecOn with
  | _ u ih =>
    intro out hu hb
    obtain ⟨m1, m2⟩ := w10 (u := u) (by omega)
    have hc := dx_cut ⟨u % 10, by omega⟩
    have step : ∀ k, spec_DecText.l0 (k + 1) x0 out (u : Int) = spec_DecText.l0 k x0 ((⟨#[UInt8.ofNat (48 + u % 10)]⟩ : ByteArray) ++ out) ((u / 10 : Nat) : Int) := fun k => by
      simp only [spec_DecText.l0]
      rw [if_neg (by omega), m1, m2, w1 (by omega), if_neg (by omega), if_pos (by omega), if_pos (by omega), if_pos (by omega), Int.toNat_natCast, Int.toNat_natCast]
      simp only [hc]
      rw [if_pos (by show 1 + out.size ≤ 9223372036854775807; omega)]
    by_cases c : u < 10
    · rw [Lib.decDigits, dif_pos c]
      have e0 : u / 10 = 0 := by omega
      have e1 : u % 10 = u := by omega
      rw [e0, e1] at step
      refine Ev.step step ?_
      refine Ev.step (f := fun _ => some (⟨#[UInt8.ofNat (48 + u)]⟩ ++ out)) (fun k => ?_) (Ev.now _)
      simp only [spec_DecText.l0]
      rw [if_pos (by rfl), if_neg hx0]
    · rw [Lib.decDigits, dif_neg c]
      have h := ih (u / 10) (by omega) ((⟨#[UInt8.ofNat (48 + u % 10)]⟩ : ByteArray) ++ out) (by omega) (by rw [ByteArray.size_append]; show 1 + out.size + u / 10 ≤ _; omega)
      have e : (⟨(Lib.decDigits (u / 10) ++ [UInt8.ofNat (48 + u % 10)]).toArray⟩ : ByteArray) ++ out = ⟨(Lib.decDigits (u / 10)).toArray⟩ ++ ((⟨#[UInt8.ofNat (48 + u % 10)]⟩ : ByteArray) ++ out) := by
        apply ByteArray.ext
        simp
      rw [e]
      exact Ev.step step h
/-- The decimal digits. -/
def decT (u : Nat) : ByteArray := ⟨(Lib.decDigits u).toArray⟩
theorem spec_dec (u : Nat) (hu : u ≤ 9223372036854775807) : Ev (fun k => spec_DecText.f k (u : Int)) (decT u) := by
  unfold spec_DecText.f decT
  by_cases c : u = 0
  · subst c
    simp only [if_pos (show ((0 : Nat) : Int) = 0 from rfl)]
    rw [Lib.decDigits, dif_pos (by decide)]
    exact Ev.now _
  · have h := dec_from (x0 := (u : Int)) (by omega) u ⟨#[]⟩ (by omega) (by show 0 + u ≤ _; omega)
    have e : (⟨(Lib.decDigits u).toArray⟩ : ByteArray) ++ (⟨#[]⟩ : ByteArray) = ⟨(Lib.decDigits u).toArray⟩ := by
      apply ByteArray.ext
      simp
    rw [e] at h
    simp only [if_neg (show ¬ (u : Int) = 0 by omega)]
    exact h
theorem impl_dec (u : Nat) (hu : u ≤ 9223372036854775807) : impl_DecText.f (u : Int) = some (decT u) := by
  unfold impl_DecText.f strconv_Itoa.f Giv.itoaG Lib.itoa
  rw [if_pos (by omega), if_neg (by omega), Option.bind_some]
  rfl
theorem dig_len : ∀ (d u : Nat), u < 10 ^ (d + 1) → (Lib.decDigits u).length ≤ d + 1
  | 0, u, h => by
    rw [Lib.decDigits, dif_pos (by simpa using h)]
    exact Nat.le_refl _
  | d + 1, u, h => by
    by_cases c : u < 10
    · rw [Lib.decDigits, dif_pos c]; show 1 ≤ _; omega
    · rw [Lib.decDigits, dif_neg c, List.length_append]
      have := dig_len d (u / 10) (by rw [Nat.pow_succ] at h; omega)
      show (Lib.decDigits (u / 10)).length + 1 ≤ _
      omega
theorem decT_size (u : Nat) (hu : u ≤ 9223372036854775807) : (decT u).size ≤ 19 := by
  have h := dig_len 18 u (by have : (10 : Nat) ^ (18 + 1) = 10000000000000000000 := by decide
                             omega)
  unfold decT
  show (Lib.decDigits u).toArray.size ≤ 19
  simpa using h
theorem signs_size : ∀ (l : List Int) (i : Nat) (acc : ByteArray), (impl_KnowText.signs l i acc).size ≤ acc.size + l.length
  | [], i, acc => Nat.le_refl _
  | x :: l, i, acc => by
    have h := signs_size l (i + 1) (acc ++ impl_KnowText.sign x i)
    have z := sign_size x i
    rw [ByteArray.size_append] at h
    show (impl_KnowText.signs l (i + 1) (acc ++ impl_KnowText.sign x i)).size ≤ acc.size + (l.length + 1)
    omega
theorem KT_size (a0 a1 a2 a3 a4 a5 a6 a7 a8 a9 a10 : Int) : (KT a0 a1 a2 a3 a4 a5 a6 a7 a8 a9 a10).size ≤ 34 := by
  unfold KT
  by_cases c : okB a0 a1 a2 a3 a4 a5 a6 a7 a8 a9 a10 = true
  · rw [if_pos c]
    have h := signs_size [a5, a6, a7, a8, a9, a10] 0 (impl_KnowText.head (dgs 2 a0) (dgs 2 a1) (dgs 2 a2) (dgs 2 a3) (dgs 4 a4))
    have hsz : (impl_KnowText.head (dgs 2 a0) (dgs 2 a1) (dgs 2 a2) (dgs 2 a3) (dgs 4 a4)).size = 28 := by
      unfold impl_KnowText.head
      simp only [ByteArray.size_append, dgs_size (Or.inl rfl), dgs_size (Or.inr rfl)]
      rfl
    rw [hsz] at h
    exact h
  · rw [if_neg c]; show 0 ≤ 34; omega
/-- The row. -/
def rowT (u : Nat) (t x : ByteArray) : ByteArray := (((decT u ++ (⟨#[32]⟩ : ByteArray)) ++ t) ++ (⟨#[32]⟩ : ByteArray)) ++ x
theorem tail_ev {u : Nat} (hu : u ≤ 9223372036854775807) {g : Nat → Option ByteArray} {t x : ByteArray} (ht : t.size ≤ 34) (hx : x.size ≤ 140737488351232) (hg : Ev g t) :
    Ev (fun k => if (decT u).size + 1 ≤ 9223372036854775807 then (g k).bind (fun t128 => if (decT u ++ (⟨#[32]⟩ : ByteArray)).size + t128.size ≤ 9223372036854775807 then (if ((decT u ++ (⟨#[32]⟩ : ByteArray)) ++ t128).size + 1 ≤ 9223372036854775807 then (if (((decT u ++ (⟨#[32]⟩ : ByteArray)) ++ t128) ++ (⟨#[32]⟩ : ByteArray)).size + x.size ≤ 9223372036854775807 then (some ((((decT u ++ (⟨#[32]⟩ : ByteArray)) ++ t128) ++ (⟨#[32]⟩ : ByteArray)) ++ x)) else none) else none) else none) else none) (rowT u t x) := by
  have hd := decT_size u hu
  have y : (⟨#[32]⟩ : ByteArray).size = 1 := rfl
  refine Ev.congr (fun k => if_pos (by omega)) ?_
  refine Ev.bind hg ?_
  refine Ev.congr (fun k => (if_pos ?_).trans ((if_pos ?_).trans (if_pos ?_))) (Ev.now _)
  · rw [ByteArray.size_append, y]; omega
  · rw [ByteArray.size_append, ByteArray.size_append, y]; omega
  · rw [ByteArray.size_append, ByteArray.size_append, ByteArray.size_append, y]; omega
theorem both (a0 a1 a2 a3 a4 a5 a6 a7 a8 a9 a10 a11 : Int) (x : ByteArray) (h0 : a0 ≤ 9223372036854775807) (hx : x.size ≤ 140737488351232) :
    ∃ r, Ev (fun k => spec_Row.f k a0 a1 a2 a3 a4 a5 a6 a7 a8 a9 a10 a11 x) r ∧ Ev (fun k => impl_Row.f k a0 a1 a2 a3 a4 a5 a6 a7 a8 a9 a10 a11 x) r := by
  unfold spec_Row.f impl_Row.f
  by_cases c : a0 < 0
  · refine ⟨⟨#[]⟩, ?_, ?_⟩
    · simp only [if_pos c]
      refine Ev.step (f := fun _ => some ⟨#[]⟩) (fun k => ?_) (Ev.now _)
      simp only [spec_Row.j0, if_true]
    · simp only [if_pos c]
      refine Ev.step (f := fun _ => some ⟨#[]⟩) (fun k => ?_) (Ev.now _)
      simp only [impl_Row.j0, if_true]
  · obtain ⟨u, rfl⟩ : ∃ u : Nat, a0 = (u : Int) := ⟨a0.toNat, by omega⟩
    simp only [if_neg c]
    by_cases d : okB a1 a2 a3 a4 a5 a6 a7 a8 a9 a10 a11 = true
    · have hz := KT_size a1 a2 a3 a4 a5 a6 a7 a8 a9 a10 a11
      refine ⟨rowT u (KT a1 a2 a3 a4 a5 a6 a7 a8 a9 a10 a11) x, ?_, ?_⟩
      · refine Ev.bind (spec_ok a1 a2 a3 a4 a5 a6 a7 a8 a9 a10 a11) ?_
        rw [d]
        refine Ev.step (f := fun k => (spec_DecText.f k (u : Int)).bind fun t127 => (if t127.size + 1 ≤ 9223372036854775807 then ((spec_KnowText.f k a1 a2 a3 a4 a5 a6 a7 a8 a9 a10 a11).bind fun t128 => (if (t127 ++ (⟨#[32]⟩ : ByteArray)).size + t128.size ≤ 9223372036854775807 then (if ((t127 ++ (⟨#[32]⟩ : ByteArray)) ++ t128).size + 1 ≤ 9223372036854775807 then (if (((t127 ++ (⟨#[32]⟩ : ByteArray)) ++ t128) ++ (⟨#[32]⟩ : ByteArray)).size + x.size ≤ 9223372036854775807 then (some ((((t127 ++ (⟨#[32]⟩ : ByteArray)) ++ t128) ++ (⟨#[32]⟩ : ByteArray)) ++ x)) else (none)) else (none)) else (none))) else (none))) (fun k => ?_) ?_
        · simp only [spec_Row.j0, Bool.not_true, Bool.false_eq_true, if_false]
        · exact Ev.bind (spec_dec u (by omega)) (tail_ev (by omega) hz hx (spec_text a1 a2 a3 a4 a5 a6 a7 a8 a9 a10 a11))
      · refine Ev.step (f := fun k => if (decT u).size + 1 ≤ 9223372036854775807 then ((impl_KnowText.f k a1 a2 a3 a4 a5 a6 a7 a8 a9 a10 a11).bind fun t128 => (if (decT u ++ (⟨#[32]⟩ : ByteArray)).size + t128.size ≤ 9223372036854775807 then (if ((decT u ++ (⟨#[32]⟩ : ByteArray)) ++ t128).size + 1 ≤ 9223372036854775807 then (if (((decT u ++ (⟨#[32]⟩ : ByteArray)) ++ t128) ++ (⟨#[32]⟩ : ByteArray)).size + x.size ≤ 9223372036854775807 then (some ((((decT u ++ (⟨#[32]⟩ : ByteArray)) ++ t128) ++ (⟨#[32]⟩ : ByteArray)) ++ x)) else (none)) else (none)) else (none))) else (none)) (fun k => ?_) ?_
        · unfold impl_KnowOk.f
          rw [show impl_KnowOk.rest [a1, a2, a3, a4, a5, a6, a7, a8, a9, a10, a11] 0 = true from d, Option.bind_some]
          simp only [impl_Row.j0, Bool.not_true, Bool.false_eq_true, if_false]
          rw [impl_dec u (by omega), Option.bind_some]
        · exact tail_ev (by omega) hz hx (impl_text a1 a2 a3 a4 a5 a6 a7 a8 a9 a10 a11)
    · have d' : okB a1 a2 a3 a4 a5 a6 a7 a8 a9 a10 a11 = false := by simpa using d
      refine ⟨⟨#[]⟩, ?_, ?_⟩
      · refine Ev.bind (spec_ok a1 a2 a3 a4 a5 a6 a7 a8 a9 a10 a11) ?_
        rw [d']
        refine Ev.step (f := fun _ => some ⟨#[]⟩) (fun k => ?_) (Ev.now _)
        simp only [spec_Row.j0, Bool.not_false, if_true]
      · refine Ev.step (f := fun _ => some ⟨#[]⟩) (fun k => ?_) (Ev.now _)
        unfold impl_KnowOk.f
        rw [show impl_KnowOk.rest [a1, a2, a3, a4, a5, a6, a7, a8, a9, a10, a11] 0 = false from d', Option.bind_some]
        simp only [impl_Row.j0, Bool.not_false, if_true]
theorem FnExactRow : laws_FnExactRow.Pure := by
  intro a0 a1 a2 a3 a4 a5 a6 a7 a8 a9 a10 a11 x w0 w1 w2 w3 w4 w5 w6 w7 w8 w9 w10 w11 hx
  apply Ev.rounds
  unfold laws_FnExactRow.f laws_toKnow.f
  by_cases c : (x.size : Int) > 1048576
  · simp only [if_pos c]; exact Ev.now _
  · simp only [if_neg c, Option.bind_some]
    obtain ⟨r, hs, hi⟩ := both a0 a1 a2 a3 a4 a5 a6 a7 a8 a9 a10 a11 x (wf_i64 w0).2 hx
    refine Ev.bind hs (Ev.bind hi ?_)
    simp only [if_true]
    exact Ev.now _
end Go.Proofs.YtidencofapcliaaDoor.Pure
