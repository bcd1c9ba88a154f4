/-
Draws of operations: whatever the bytes, the bytes of an operation come of them.
-/
import Derived.Test.YtlglpolokcnlhaaDoorMKx7
import Derived.Test.YtlglpolokcnlhaaDoorMKx8
import Derived.Test.YtlglpolokcnlhaaDoorKDraws
import Derived.Test.YtlglpolokcnlhaaDoorKShowSameI
set_option linter.unusedSimpArgs false
set_option linter.unusedVariables false
namespace Go.Proofs.YtlglpolokcnlhaaDoor.MKD
open Go.RowKit Go.Proofs.YtlglpolokcnlhaaDoor.MK Go.Proofs.YtlglpolokcnlhaaDoorW.PrintWords Go.Proofs.YtlglpolokcnlhaaDoorW.PrintLast Go.Proofs.YtlglpolokcnlhaaDoor.Bit Go.Proofs.YtlglpolokcnlhaaDoor.Lst Go.Proofs.YtlglpolokcnlhaaDoor.MKO Go.Proofs.YtlglpolokcnlhaaDoor.MKS

theorem code_ok (L : List Int) (p s : Int) (h : At L p) : ∃ (b : Nat) (p' s' : Int), Ev (fun k => spec_l03Code.f k L p s) ((b : Int), p', s') ∧ b < 256 ∧ At L p' := by
  have go : ∀ (d i b : Nat) (p s : Int), i + d = 3 → b < 256 → At L p → ∃ (b' : Nat) (p' s' : Int), Ev (fun k => spec_l03Code.l0 k (b : Int) (i : Int) L p s) ((b' : Int), p', s') ∧ b' < 256 ∧ At L p' := by
    intro d
    induction d with
    | zero =>
      intro i b p s hi hb hp
      refine ⟨b, p, s, Ev.step (f := fun _ => some ((b : Int), p, s)) (fun k => ?_) (Ev.now _), hb, hp⟩
      simp only [spec_l03Code.l0]
      rw [if_neg (by omega)]
    | succ d ih =>
      intro i b p s hi hb hp
      obtain ⟨v, p1, s1, e1, hv, hp1⟩ := byte_ok L p s hp
      have w := w1 (i := i) (by omega)
      by_cases c : (nm b).toList = []
      · obtain ⟨b', p', s', hr, hb', hp'⟩ := ih (i + 1) (v % 256).toNat p1 s1 (by omega) (by omega) hp1
        have ev : (((v % 256).toNat : Nat) : Int) = v % 256 := by omega
        rw [ev] at hr
        refine ⟨b', p', s', ?_, hb', hp'⟩
        refine Ev.step (f := fun k => (spec_NameOf.f k (b : Int)).bind fun t => (if t.toList = ([] : List UInt8) then (spec_l03Code.l0 k (v % 256) ((i + 1 : Nat) : Int) L p1 s1) else (some ((b : Int), p, s)))) (fun k => ?_) ?_
        · simp only [spec_l03Code.l0, e1, Option.bind_some, w]
          rw [if_pos (by omega)]
        · refine Ev.bind (name_ev hb) ?_
          simp only [c, if_true]
          exact hr
      · refine ⟨b, p, s, ?_, hb, hp⟩
        refine Ev.step (f := fun k => (spec_NameOf.f k (b : Int)).bind fun t => (if t.toList = ([] : List UInt8) then (spec_l03Code.l0 k (v % 256) ((i + 1 : Nat) : Int) L p1 s1) else (some ((b : Int), p, s)))) (fun k => ?_) ?_
        · simp only [spec_l03Code.l0, e1, Option.bind_some, w]
          rw [if_pos (by omega)]
        · refine Ev.bind (name_ev hb) ?_
          simp only [c, if_false]
          exact Ev.now _
  obtain ⟨v, p0, s0, e0, hv, hp0⟩ := byte_ok L p s h
  obtain ⟨b', p', s', hr, hb', hp'⟩ := go 3 0 (v % 256).toNat p0 s0 rfl (by omega) hp0
  have ev : (((v % 256).toNat : Nat) : Int) = v % 256 := by omega
  rw [ev] at hr
  refine ⟨b', p', s', ?_, hb', hp'⟩
  unfold spec_l03Code.f
  simp only [e0, Option.bind_some]
  exact hr
theorem sz3 (m : Int) : sz m ≤ 3 := by
  unfold sz
  (repeat' split) <;> omega
/-- The bytes of one operation, or one byte that is none. -/
theorem bytes_ok (L : List Int) (p s : Int) (h : At L p) : ∃ (l : List Int) (p' s' : Int), Ev (fun k => spec_l04Bytes.f k L p s 1) (l, p', s') ∧ (∀ x ∈ l, 0 ≤ x ∧ x < 256) ∧ (∃ b : Nat, b < 256 ∧ rd l 0 = (b : Int) ∧ l.length = max 1 (sz (md b))) ∧ At L p' := by
  obtain ⟨b, p0, s0, h0, hb, hp0⟩ := code_ok L p s h
  have hs3 := sz3 (md b)
  have last : ∀ (l : List Int) (p s : Int), Ev (fun k => spec_l04Bytes.l0 k 1 l 1 L p s) (l, p, s) := fun l p s => by
    refine Ev.step (f := fun _ => some (l, p, s)) (fun k => ?_) (Ev.now _)
    simp only [spec_l04Bytes.l0]
    rw [if_neg (by decide)]
  have w01 : wrap64 (0 + 1) = 1 := wrap_in (by decide) (by decide)
  have go : ∀ (d : Nat) (l : List Int) (p s : Int), max 1 (sz (md b)) = l.length + d → l.length ≤ 3 → 1 ≤ l.length → rd l 0 = (b : Int) → (∀ x ∈ l, 0 ≤ x ∧ x < 256) → At L p →
      ∃ (l' : List Int) (p' s' : Int), Ev (fun k => spec_l04Bytes.l1 k 1 l 0 (b : Int) (l.length : Int) L p s) (l', p', s') ∧ (∀ x ∈ l', 0 ≤ x ∧ x < 256) ∧ (rd l' 0 = (b : Int) ∧ l'.length = max 1 (sz (md b))) ∧ At L p' := by
    intro d
    induction d with
    | zero =>
      intro l p s hd hl hl1 hr hx hp
      refine ⟨l, p, s, ?_, hx, ⟨hr, by omega⟩, hp⟩
      refine Ev.step (f := fun k => (spec_SizeOf.f k (b : Int)).bind fun t => (if (l.length : Int) < t then ((spec_l02Byte.f L p s).bind fun bt301 => (if l.length < 140737488355328 then (spec_l04Bytes.l1 k 1 (l ++ [bt301.1]) 0 (b : Int) (wrap64 ((l.length : Int) + 1)) L bt301.2.1 bt301.2.2) else (none))) else (spec_l04Bytes.l0 k 1 l 1 L p s))) (fun k => ?_) ?_
      · simp only [spec_l04Bytes.l1, w01]
      · refine Ev.bind (ssize_ev hb) ?_
        simp only [if_neg (show ¬ (l.length : Int) < ((sz (md b) : Nat) : Int) by omega)]
        exact last l p s
    | succ d ih =>
      intro l p s hd hl hl1 hr hx hp
      obtain ⟨v, p1, s1, e1, hv, hp1⟩ := byte2_ok L p s hp
      have w := w1 (i := l.length) (by omega)
      have hlen : (l ++ [v]).length = l.length + 1 := by simp
      have hr' : rd (l ++ [v]) 0 = (b : Int) := by
        rw [← hr]
        unfold rd
        rw [List.getD_eq_getElem?_getD, List.getD_eq_getElem?_getD, List.getElem?_append_left (by show 0 < l.length; omega)]
      have hx' : ∀ x ∈ l ++ [v], 0 ≤ x ∧ x < 256 := fun x h => by
        rcases List.mem_append.mp h with h | h
        · exact hx x h
        · simp at h
          rw [h]
          exact hv
      obtain ⟨l', p', s', e, f1, f2, f3⟩ := ih (l ++ [v]) p1 s1 (by rw [hlen]; omega) (by rw [hlen]; omega) (by rw [hlen]; omega) hr' hx' hp1
      rw [hlen] at e
      refine ⟨l', p', s', ?_, f1, f2, f3⟩
      refine Ev.step (f := fun k => (spec_SizeOf.f k (b : Int)).bind fun t => (if (l.length : Int) < t then (spec_l04Bytes.l1 k 1 (l ++ [v]) 0 (b : Int) ((l.length + 1 : Nat) : Int) L p1 s1) else (spec_l04Bytes.l0 k 1 l 1 L p s))) (fun k => ?_) ?_
      · simp only [spec_l04Bytes.l1, w01, e1, Option.bind_some, w]
        simp only [if_pos (show l.length < 140737488355328 by omega)]
      · refine Ev.bind (ssize_ev hb) ?_
        simp only [if_pos (show (l.length : Int) < ((sz (md b) : Nat) : Int) by omega)]
        exact e
  obtain ⟨l', p', s', e, f1, f2, f3⟩ := go (max 1 (sz (md b)) - 1) [(b : Int)] p0 s0 (by simp; omega) (by simp) (by simp) rfl (fun x h => by
    simp at h
    subst h
    omega) hp0
  refine ⟨l', p', s', ?_, f1, ⟨b, hb, f2.1, f2.2⟩, f3⟩
  unfold spec_l04Bytes.f
  refine Ev.step (f := fun k => (spec_l03Code.f k L p s).bind fun bt => spec_l04Bytes.l1 k 1 [bt.1] 0 bt.1 1 L bt.2.1 bt.2.2) (fun k => ?_) ?_
  · simp only [spec_l04Bytes.l0]
    rw [if_pos (by decide)]
    simp
  · exact Ev.bind h0 e
end Go.Proofs.YtlglpolokcnlhaaDoor.MKD
