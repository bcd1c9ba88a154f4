/-
Draws of operations: whatever the bytes, the bytes of an operation come of them.
-/
import Derived.Test.YtlglpolokcnlhaaDoorMJx7
import Derived.Test.YtlglpolokcnlhaaDoorMJx8
import Derived.Test.YtlglpolokcnlhaaDoorJDraws
import Derived.Test.YtlglpolokcnlhaaDoorJShowSame
set_option linter.unusedSimpArgs false
set_option linter.unusedVariables false
namespace Go.Proofs.YtlglpolokcnlhaaDoor.MJD
open Go.RowKit Go.Proofs.YtlglpolokcnlhaaDoor.MJ Go.Proofs.YtlglpolokcnlhaaDoorW.PrintWords Go.Proofs.YtlglpolokcnlhaaDoorW.PrintLast Go.Proofs.YtlglpolokcnlhaaDoor.Bit Go.Proofs.YtlglpolokcnlhaaDoor.Lst Go.Proofs.YtlglpolokcnlhaaDoor.MJO Go.Proofs.YtlglpolokcnlhaaDoor.MJS

theorem code_ok (L : List Int) (p s : Int) (h : At L p) : ∃ (b : Nat) (p' s' : Int), Ev (fun k => spec_l03Code.f k L p s) ((b : Int), p', s') ∧ b < 256 ∧ At L p' := by
  have go : ∀ (d i b : Nat) (p s : Int), i + d = 3 → b < 256 → At L p → ∃ (b' : Nat) (p' s' : Int), Ev (fun k => spec_l03Code.l0 k (b : Int) (i : Int) L p s) ((b' : Int), p', s') ∧ b' < 256 ∧ At L p' := by
    intro d
    induction d with
    | zero =>
      intro i b p s hi hb hp
      refine ⟨b, p, s, Ev.step (f := fun _ => some ((b : Int), p, s)) (fun k => ?_) (Ev.now _), hb, hp⟩
      simp only [spec_l03Code.l0]
      rw [if_neg (by omega)]
    | succ d ih =>
      intro i b p s hi hb hp
      obtain ⟨v, p1, s1, e1, hv, hp1⟩ := byte_ok L p s hp
      have w := w1 (i := i) (by omega)
      by_cases c : (nm b).toList = []
      · obtain ⟨b', p', s', hr, hb', hp'⟩ := ih (i + 1) (v % 256).toNat p1 s1 (by omega) (by omega) hp1
        have ev : (((v % 256).toNat : Nat) : Int) = v % 256 := by omega
        rw [ev] at hr
        refine ⟨b', p', s', ?_, hb', hp'⟩
        refine Ev.step (f := fun k => (spec_NameOf.f k (b : Int)).bind fun t => (if t.toList = ([] : List UInt8) then (spec_l03Code.l0 k (v % 256) ((i + 1 : Nat) : Int) L p1 s1) else (some ((b : Int), p, s)))) (fun k => ?_) ?_
        · simp only [spec_l03Code.l0, e1, Option.bind_some, w]
          rw [if_pos (by omega)]
        · refine Ev.bind (name_ev hb) ?_
          simp only [c, if_true]
          exact hr
      · refine ⟨b, p, s, ?_, hb, hp⟩
        refine Ev.step (f := fun k => (spec_NameOf.f k (b : Int)).bind fun t => (if t.toList = ([] : List UInt8) then (spec_l03Code.l0 k (v % 256) ((i + 1 : Nat) : Int) L p1 s1) else (some ((b : Int), p, s)))) (fun k => ?_) ?_
        · simp only [spec_l03Code.l0, e1, Option.bind_some, w]
          rw [if_pos (by omega)]
        · refine Ev.bind (name_ev hb) ?_
          simp only [c, if_false]
          exact Ev.now _
  obtain ⟨v, p0, s0, e0, hv, hp0⟩ := byte_ok L p s h
  obtain ⟨b', p', s', hr, hb', hp'⟩ := go 3 0 (v % 256).toNat p0 s0 rfl (by omega) hp0
  have ev : (((v % 256).toNat : Nat) : Int) = v % 256 := by omega
  rw [ev] at hr
  refine ⟨b', p', s', ?_, hb', hp'⟩
  unfold spec_l03Code.f
  simp only [e0, Option.bind_some]
  exact hr
theorem sz3 (m : Int) : sz m ≤ 3 := by
  unfold sz
  (repeat' split) <;> omega
/-- The bytes of one operation, or one byte that is none. -/
theorem bytes_ok (L : List Int) (p s : Int) (h : At L p) : ∃ (l : List Int) (p' s' : Int), Ev (fun k => spec_l04Bytes.f k L p s 1) (l, p', s') ∧ (∀ x ∈ l, 0 ≤ x ∧ x < 256) ∧ (∃ b : Nat, b < 256 ∧ rd l 0 = (b : Int) ∧ l.length = max 1 (sz (md b))) ∧ At L p' := by
  obtain ⟨b, p0, s0, h0, hb, hp0⟩ := code_ok L p s h
  have hs3 := sz3 (md b)
  have last : ∀ (l : List Int) (p s : Int), Ev (fun k => spec_l04Bytes.l0 k 1 l 1 L p s) (l, p, s) := fun l p s => by
    refine Ev.step (f := fun _ => some (l, p, s)) (fun k => ?_) (Ev.now _)
    simp only [spec_l04Bytes.l0]
    rw [if_neg (by decide)]
  have w01 : wrap64 (0 + 1) = 1 := wrap_in (by decide) (by decide)
  have go : ∀ (d : Nat) (l : List Int) (p s : Int), max 1 (sz (md b)) = l.length + d → l.length ≤ 3 → 1 ≤ l.length → rd l 0 = (b : Int) → (∀ x ∈ l, 0 ≤ x ∧ x < 256) → At L p →
      ∃ (l' : List Int) (p' s' : Int), Ev (fun k => spec_l04Bytes.l1 k 1 l 0 (b : Int) (l.length : Int) L p s) (l', p', s') ∧ (∀ x ∈ l', 0 ≤ x ∧ x < 256) ∧ (rd l' 0 = (b : Int) ∧ l'.length = max 1 (sz (md b))) ∧ At L p' := by
    intro d
    induction d with
    | zero =>
      intro l p s hd hl hl1 hr hx hp
      refine ⟨l, p, s, ?_, hx, ⟨hr, by omega⟩, hp⟩
      refine Ev.step (f := fun k => (spec_SizeOf.f k (b : Int)).bind fun t => (if (l.length : Int) < t then ((spec_l02Byte.f L p s).bind fun bt301 => (if l.length < 140737488355328 then (spec_l04Bytes.l1 k 1 (l ++ [bt301.1]) 0 (b : Int) (wrap64 ((l.length : Int) + 1)) L bt301.2.1 bt301.2.2) else (none))) else (spec_l04Bytes.l0 k 1 l 1 L p s))) (fun k => ?_) ?_
      · simp only [spec_l04Bytes.l1, w01]
      · refine Ev.bind (ssize_ev hb) ?_
        simp only [if_neg (show ¬ (l.length : Int) < ((sz (md b) : Nat) : Int) by omega)]
        exact last l p s
    | succ d ih =>
      intro l p s hd hl hl1 hr hx hp
      obtain ⟨v, p1, s1, e1, hv, hp1⟩ := byte2_ok L p s hp
      have w := w1 (i := l.length) (by omega)
      have hlen : (l ++ [v]).length = l.length + 1 := by simp
      have hr' : rd (l ++ [v]) 0 = (b : Int) := by
        rw [← hr]
        unfold rd
        rw [List.getD_eq_getElem?_getD, List.getD_eq_getElem?_getD, List.getElem?_append_left (by show 0 < l.length; omega)]
      have hx' : ∀ x ∈ l ++ [v], 0 ≤ x ∧ x < 256 := fun x h => by
        rcases List.mem_append.mp h with h | h
        · exact hx x h
        · simp at h
          rw [h]
          exact hv
      obtain ⟨l', p', s', e, f1, f2, f3⟩ := ih (l ++ [v]) p1 s1 (by rw [hlen]; omega) (by rw [hlen]; omega) (by rw [hlen]; omega) hr' hx' hp1
      rw [hlen] at e
      refine ⟨l', p', s', ?_, f1, f2, f3⟩
      refine Ev.step (f := fun k => (spec_SizeOf.f k (b : Int)).bind fun t => (if (l.length : Int) < t then (spec_l04Bytes.l1 k 1 (l ++ [v]) 0 (b : Int) ((l.length + 1 : Nat) : Int) L p1 s1) else (spec_l04Bytes.l0 k 1 l 1 L p s))) (fun k => ?_) ?_
      · simp only [spec_l04Bytes.l1, w01, e1, Option.bind_some, w]
        simp only [if_pos (show l.length < 140737488355328 by omega)]
      · refine Ev.bind (ssize_ev hb) ?_
        simp only [if_pos (show (l.length : Int) < ((sz (md b) : Nat) : Int) by omega)]
        exact e
  obtain ⟨l', p', s', e, f1, f2, f3⟩ := go (max 1 (sz (md b)) - 1) [(b : Int)] p0 s0 (by simp; omega) (by simp) (by simp) rfl (fun x h => by
    simp at h
    subst h
    omega) hp0
  refine ⟨l', p', s', ?_, f1, ⟨b, hb, f2.1, f2.2⟩, f3⟩
  unfold spec_l04Bytes.f
  refine Ev.step (f := fun k => (spec_l03Code.f k L p s).bind fun bt => spec_l04Bytes.l1 k 1 [bt.1] 0 bt.1 1 L bt.2.1 bt.2.2) (fun k => ?_) ?_
  · simp only [spec_l04Bytes.l0]
    rw [if_pos (by decide)]
    simp
  · exact Ev.bind h0 e
/-- What ShowOp is tried at. -/
theorem draw_show (L : List Int) (hL : (L.length : Int) < 4611686018427387904) : ∃ (l : List Int) (pc : Int), Ev (fun k => spec_DrawShowOp.f k L) (l, pc) ∧ (∀ x ∈ l, 0 ≤ x ∧ x < 256) ∧ (0 ≤ pc ∧ pc < 65536) ∧ l.length ≤ 3 ∧ (∀ b : Nat, b < 256 → rd l 0 = (b : Int) → 1 ≤ sz (md b) → sz (md b) ≤ l.length → l.length = sz (md b)) := by
  obtain ⟨s, hs⟩ := new_ok L hL
  obtain ⟨l, p0, s0, h0, hx, ⟨b, hb, hr, hlen⟩, hp0⟩ := bytes_ok L 0 s (at_zero L hL)
  obtain ⟨v, p1, s1, e1, hp1⟩ := once_ok L p0 s0 6 hp0 (by decide)
  have hs3 := sz3 (md b)
  have wl : wrap64 ((l.length : Int) + 1) = ((l.length + 1 : Nat) : Int) := w1 (by omega)
  by_cases c : v = true
  · obtain ⟨n, p2, s2, e2, hn, hp2⟩ := below_ok L p1 s1 ((l.length + 1 : Nat) : Int) hp1 (by omega)
    obtain ⟨pc, p3, s3, e3, hpc, _⟩ := pc_ok L p2 s2 hp2
    refine ⟨l.take n.toNat, pc, ?_, fun x h => hx x (List.mem_of_mem_take h), hpc, by simp; omega, fun b' hb' hr' h1 h2 => ?_⟩
    · unfold spec_DrawShowOp.f
      refine Ev.bind hs (Ev.bind h0 ?_)
      simp only [e1, Option.bind_some, if_pos c, wl, e2, if_pos hn.1, if_pos (show n ≤ (l.length : Int) by omega), e3]
      exact Ev.now _
    · have h3 : 0 < (l.take n.toNat).length := by omega
      have hr2 : rd (l.take n.toNat) 0 = rd l 0 := by
        unfold rd
        rw [List.getD_eq_getElem?_getD, List.getD_eq_getElem?_getD, List.getElem?_take, if_pos (by show 0 < n.toNat; simp at h3; omega)]
      rw [hr2, hr] at hr'
      have : b = b' := by omega
      subst this
      simp at h2 ⊢
      omega
  · obtain ⟨pc, p3, s3, e3, hpc, _⟩ := pc_ok L p1 s1 hp1
    refine ⟨l, pc, ?_, hx, hpc, by omega, fun b' hb' hr' h1 h2 => ?_⟩
    · unfold spec_DrawShowOp.f
      refine Ev.bind hs (Ev.bind h0 ?_)
      simp only [e1, Option.bind_some, if_neg c, e3]
      exact Ev.now _
    · rw [hr] at hr'
      have : b = b' := by omega
      subst this
      omega
end Go.Proofs.YtlglpolokcnlhaaDoor.MJD
