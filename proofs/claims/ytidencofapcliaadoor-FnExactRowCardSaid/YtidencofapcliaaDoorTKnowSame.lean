/-
ReadKnow, the plain side: digits, the test of a Know, its text; the program's and the reference's are one and the same.
-/
import Derived.Test.YtidencofapcliaaDoorMTx1
import Derived.Test.YtidencofapcliaaDoorMTx2
import Derived.Test.YtidencofapcliaaDoorMTx3
import Derived.Test.YtidencofapcliaaDoorMTx4
import Derived.Test.YtidencofapcliaaDoorTKnowImpl
set_option linter.unusedSimpArgs false
set_option linter.unusedVariables false
namespace Go.Proofs.YtidencofapcliaaDoor.MTK
open Go.RowKit Go.Proofs.YtidencofapcliaaDoor.MT Go.Proofs.YtidencofapcliaaDoor.MTH Go.Proofs.YtidencofapcliaaDoorW.PrintWords Go.Proofs.YtidencofapcliaaDoorW.PrintLast Go.Proofs.YtidencofapcliaaDoor.Bit Go.Proofs.YtidencofapcliaaDoor.Lst

theorem spec_dgs {n : Nat} (hn : n = 2 ∨ n = 4) {v : Int} (hv : v < 9223372036854775808) : Ev (fun k => spec_l09Digits.f k v (n : Int)) (dgs n v) := by
  unfold spec_l09Digits.f dgs
  by_cases c : v < 0
  · simp only [if_pos c]
    rcases hn with rfl | rfl
    · exact Ev.now _
    · exact Ev.now _
  · simp only [if_neg c]
    have h := spec_hex (n := n) (by omega) (by omega) (u := v.toNat) (by omega)
    rw [show ((v.toNat : Nat) : Int) = v by omega] at h
    exact Ev.bind h (Ev.now _)
theorem most_same (i : Nat) : spec_l09Most.f (i : Int) = some (impl_KnowOk.most i) := by
  unfold spec_l09Most.f impl_KnowOk.most
  by_cases c : i < 4
  · rw [if_pos (by omega), if_pos c]
  · rw [if_neg (by omega), if_neg c]
    by_cases d : i = 4
    · rw [if_pos (by omega), if_pos d]
    · rw [if_neg (by omega), if_neg d]
theorem spec_ok_from (l : List Int) (hl : l.length ≤ 1000) : ∀ (d i : Nat), i + d = l.length → Ev (fun k => spec_KnowOk.l0 k l (i : Int)) (impl_KnowOk.rest (l.drop i) i)
  | 0, i, h => by
    rw [List.drop_eq_nil_of_le (by omega)]
    refine Ev.step (f := fun _ => some true) (fun k => ?_) (Ev.now _)
    simp only [spec_KnowOk.l0]
    rw [if_neg (by omega)]
  | d + 1, i, h => by
    have hi : i < l.length := by omega
    rw [List.drop_eq_getElem_cons hi]
    have e : rd l (i : Int) = l[i] := by unfold rd; rw [Int.toNat_natCast, List.getD_eq_getElem?_getD, List.getElem?_eq_getElem hi]; rfl
    have ih := spec_ok_from l hl d (i + 1) (by omega)
    by_cases c : -1 ≤ l[i] ∧ l[i] ≤ impl_KnowOk.most i
    · have hr : impl_KnowOk.rest (l[i] :: l.drop (i + 1)) i = impl_KnowOk.rest (l.drop (i + 1)) (i + 1) := by
        simp only [impl_KnowOk.rest, decide_eq_true c.1, decide_eq_true c.2, Bool.true_and]
      rw [hr]
      refine Ev.step (fun k => ?_) ih
      simp only [spec_KnowOk.l0]
      rw [if_pos (by omega), if_pos (by omega), most_same, w1 (by omega), e, Option.bind_some]
      unfold spec_l01In.f
      rw [if_pos (show l[i] ≥ -1 from c.1), decide_eq_true c.2, Option.bind_some, if_pos rfl]
    · have hr : impl_KnowOk.rest (l[i] :: l.drop (i + 1)) i = false := by
        have : ¬ (-1 ≤ l[i]) ∨ ¬ (l[i] ≤ impl_KnowOk.most i) := by omega
        rcases this with z | z
        · simp only [impl_KnowOk.rest, decide_eq_false z, Bool.false_and]
        · simp only [impl_KnowOk.rest, decide_eq_false z, Bool.and_false, Bool.false_and]
      rw [hr]
      refine Ev.step (f := fun _ => some false) (fun k => ?_) (Ev.now _)
      simp only [spec_KnowOk.l0]
      rw [if_pos (by omega), if_pos (by omega), most_same, e, Option.bind_some]
      unfold spec_l01In.f
      by_cases z : l[i] ≥ -1
      · rw [if_pos z, decide_eq_false (by omega), Option.bind_some]
        rfl
      · rw [if_neg z, Option.bind_some]
        rfl
theorem spec_ok (a0 a1 a2 a3 a4 a5 a6 a7 a8 a9 a10 : Int) : Ev (fun k => spec_KnowOk.f k a0 a1 a2 a3 a4 a5 a6 a7 a8 a9 a10) (okB a0 a1 a2 a3 a4 a5 a6 a7 a8 a9 a10) := by
  unfold spec_KnowOk.f spec_l09List.f
  simp only [Option.bind_some]
  exact spec_ok_from (L11 a0 a1 a2 a3 a4 a5 a6 a7 a8 a9 a10) (by show 11 ≤ 1000; omega) 11 0 rfl
theorem spec_signs_from (l : List Int) (hl : l.length = 11) (hr : ∀ j, j < 6 → -1 ≤ l.getD (5 + j) 0 ∧ l.getD (5 + j) 0 ≤ 1) : ∀ (d i : Nat) (acc : ByteArray), i + d = 6 → acc.size ≤ 1000 + i → Ev (fun k => spec_KnowText.l0 k l acc (i : Int)) (impl_KnowText.signs (l.drop (5 + i)) i acc)
  | 0, i, acc, h, ha => by
    rw [List.drop_eq_nil_of_le (by omega)]
    refine Ev.step (f := fun _ => some acc) (fun k => ?_) (Ev.now _)
    simp only [spec_KnowText.l0]
    rw [if_neg (by omega)]
  | d + 1, i, acc, h, ha => by
    have hi : 5 + i < l.length := by omega
    have hv := hr i (by omega)
    have ed : l.getD (5 + i) 0 = l[5 + i] := by rw [List.getD_eq_getElem?_getD, List.getElem?_eq_getElem hi]; rfl
    rw [ed] at hv
    have w5 : wrap64 (5 + (i : Int)) = ((5 + i : Nat) : Int) := by rw [wrap_in (by omega) (by omega)]; omega
    have e : rd l ((5 + i : Nat) : Int) = l[5 + i] := by unfold rd; rw [Int.toNat_natCast, ed]
    have hz := sign_size l[5 + i] i
    have ih := spec_signs_from l hl hr d (i + 1) (acc ++ impl_KnowText.sign l[5 + i] i) (by omega) (by rw [ByteArray.size_append]; omega)
    rw [List.drop_eq_getElem_cons hi]
    show Ev _ (impl_KnowText.signs (l.drop (5 + i + 1)) (i + 1) (acc ++ impl_KnowText.sign l[5 + i] i))
    rw [show 5 + i + 1 = 5 + (i + 1) by omega]
    refine Ev.step (fun k => ?_) ih
    simp only [spec_KnowText.l0]
    rw [if_pos (show (i : Int) < 6 by omega), w5, if_pos (show 0 ≤ ((5 + i : Nat) : Int) by omega), if_pos (show ((5 + i : Nat) : Int) < (l.length : Int) by omega), e, w1 (by omega)]
    unfold impl_KnowText.sign
    have c : l[5 + i] = -1 ∨ l[5 + i] = 0 ∨ l[5 + i] = 1 := by omega
    rcases c with c | c | c
    · rw [c, if_neg (by decide), if_neg (by decide), if_pos (by omega), if_pos rfl]
    · rw [c, if_pos rfl, if_pos (by omega), if_neg (by decide), if_pos rfl]
    · rw [c, if_neg (by decide), if_pos rfl, if_pos (by omega), if_pos (by omega), if_pos (by omega), Int.toNat_natCast, Int.toNat_natCast, if_pos (by rw [ByteArray.size_extract]; omega)]
      rfl
theorem spec_text (a0 a1 a2 a3 a4 a5 a6 a7 a8 a9 a10 : Int) : Ev (fun k => spec_KnowText.f k a0 a1 a2 a3 a4 a5 a6 a7 a8 a9 a10) (KT a0 a1 a2 a3 a4 a5 a6 a7 a8 a9 a10) := by
  unfold spec_KnowText.f KT
  refine Ev.bind (spec_ok a0 a1 a2 a3 a4 a5 a6 a7 a8 a9 a10) ?_
  by_cases c : okB a0 a1 a2 a3 a4 a5 a6 a7 a8 a9 a10 = true
  · have h := (ok_iff a0 a1 a2 a3 a4 a5 a6 a7 a8 a9 a10).mp c
    obtain ⟨h0, h1, h2, h3, h4, h5, h6, h7, h8, h9, h10⟩ := h
    simp only [c, if_true]
    unfold spec_l09List.f
    simp only [Option.bind_some]
    have z0 := dgs_size (Or.inl rfl) a0
    have z1 := dgs_size (Or.inl rfl) a1
    have z2 := dgs_size (Or.inl rfl) a2
    have z3 := dgs_size (Or.inl rfl) a3
    have z4 := dgs_size (Or.inr rfl) a4
    have e0 := spec_dgs (n := 2) (Or.inl rfl) (v := a0) (by omega)
    have e1 := spec_dgs (n := 2) (Or.inl rfl) (v := a1) (by omega)
    have e2 := spec_dgs (n := 2) (Or.inl rfl) (v := a2) (by omega)
    have e3 := spec_dgs (n := 2) (Or.inl rfl) (v := a3) (by omega)
    have e4 := spec_dgs (n := 4) (Or.inr rfl) (v := a4) (by omega)
    have hr : ∀ j, j < 6 → -1 ≤ (L11 a0 a1 a2 a3 a4 a5 a6 a7 a8 a9 a10).getD (5 + j) 0 ∧ (L11 a0 a1 a2 a3 a4 a5 a6 a7 a8 a9 a10).getD (5 + j) 0 ≤ 1 := fun j hj => by
      match j, hj with
      | 0, _ => exact h5
      | 1, _ => exact h6
      | 2, _ => exact h7
      | 3, _ => exact h8
      | 4, _ => exact h9
      | 5, _ => exact h10
      | n + 6, hn => omega
    have hsz : (impl_KnowText.head (dgs 2 a0) (dgs 2 a1) (dgs 2 a2) (dgs 2 a3) (dgs 4 a4)).size = 28 := by
      unfold impl_KnowText.head
      simp only [ByteArray.size_append, z0, z1, z2, z3, z4]
      rfl
    have fin := spec_signs_from (L11 a0 a1 a2 a3 a4 a5 a6 a7 a8 a9 a10) rfl hr 6 0 _ rfl (show (impl_KnowText.head (dgs 2 a0) (dgs 2 a1) (dgs 2 a2) (dgs 2 a3) (dgs 4 a4)).size ≤ 1000 + 0 by omega)
    have y0 : (⟨#[65, 61]⟩ : ByteArray).size = 2 := rfl
    have y1 : (⟨#[32, 88, 61]⟩ : ByteArray).size = 3 := rfl
    have y2 : (⟨#[32, 89, 61]⟩ : ByteArray).size = 3 := rfl
    have y3 : (⟨#[32, 83, 61]⟩ : ByteArray).size = 3 := rfl
    have y4 : (⟨#[32, 80, 67, 61]⟩ : ByteArray).size = 4 := rfl
    refine Ev.bind e0 ?_
    simp only [ByteArray.size_append, z0, y0]
    refine Ev.congr (fun k => (if_pos (by decide)).trans (if_pos (by decide))) ?_
    refine Ev.bind e1 ?_
    simp only [ByteArray.size_append, z0, z1, y0, y1]
    refine Ev.congr (fun k => (if_pos (by decide)).trans (if_pos (by decide))) ?_
    refine Ev.bind e2 ?_
    simp only [ByteArray.size_append, z0, z1, z2, y0, y1, y2]
    refine Ev.congr (fun k => (if_pos (by decide)).trans (if_pos (by decide))) ?_
    refine Ev.bind e3 ?_
    simp only [ByteArray.size_append, z0, z1, z2, z3, y0, y1, y2, y3]
    refine Ev.congr (fun k => (if_pos (by decide)).trans (if_pos (by decide))) ?_
    refine Ev.bind e4 ?_
    simp only [ByteArray.size_append, z0, z1, z2, z3, z4, y0, y1, y2, y3, y4]
    refine Ev.congr (fun k => (if_pos (by decide)).trans (if_pos (by decide))) ?_
    exact fin
  · have c' : okB a0 a1 a2 a3 a4 a5 a6 a7 a8 a9 a10 = false := by simpa using c
    rw [c']
    exact Ev.now _
end Go.Proofs.YtidencofapcliaaDoor.MTK
