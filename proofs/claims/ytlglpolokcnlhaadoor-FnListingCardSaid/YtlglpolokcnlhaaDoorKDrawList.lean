/-
Draws of operations, some of them one behind the other.
-/
import Derived.Test.YtlglpolokcnlhaaDoorMKx8
import Derived.Test.YtlglpolokcnlhaaDoorKDrawOpsI
set_option linter.unusedSimpArgs false
set_option linter.unusedVariables false
namespace Go.Proofs.YtlglpolokcnlhaaDoor.MKD
open Go.RowKit Go.Proofs.YtlglpolokcnlhaaDoor.MK Go.Proofs.YtlglpolokcnlhaaDoorW.PrintWords Go.Proofs.YtlglpolokcnlhaaDoorW.PrintLast Go.Proofs.YtlglpolokcnlhaaDoor.Bit Go.Proofs.YtlglpolokcnlhaaDoor.Lst Go.Proofs.YtlglpolokcnlhaaDoor.MKO Go.Proofs.YtlglpolokcnlhaaDoor.MKS

abbrev R3 := List Int × Int × Int
def OkB (L : List Int) (m : Nat) (r : R3) : Prop := (∀ x ∈ r.1, 0 ≤ x ∧ x < 256) ∧ r.1.length ≤ m ∧ At L r.2.1
theorem inner_ok (L : List Int) (n i m : Nat) (hi : i < 1000) (b : Nat) (hb : b < 256) : ∀ (d x : Nat) (out : List Int) (p s : Int), sz (md b) ≤ x + d → x ≤ 1000 → out.length + d ≤ 1000 → (∀ y ∈ out, 0 ≤ y ∧ y < 256) → At L p →
    (∀ (out' : List Int) (p' s' : Int), (∀ y ∈ out', 0 ≤ y ∧ y < 256) → out'.length ≤ out.length + d → At L p' → ∃ r, Ev (fun k => spec_l04Bytes.l0 k (n : Int) out' ((i + 1 : Nat) : Int) L p' s') r ∧ OkB L m r) →
    ∃ r, Ev (fun k => spec_l04Bytes.l1 k (n : Int) out (i : Int) (b : Int) (x : Int) L p s) r ∧ OkB L m r := by
  intro d
  induction d with
  | zero =>
    intro x out p s hz hx ho hy hp cont
    obtain ⟨r, hr, ok⟩ := cont out p s hy (by omega) hp
    have g : ¬ (x : Int) < ((sz (md b) : Nat) : Int) := by omega
    have i63 : i < 9223372036854775807 := by omega
    refine ⟨r, ?_, ok⟩
    have w := w1 i63
    refine Ev.step (f := fun k => (spec_SizeOf.f k (b : Int)).bind fun t => (if (x : Int) < t then ((spec_l02Byte.f L p s).bind fun bt301 => (if out.length < 140737488355328 then (spec_l04Bytes.l1 k (n : Int) (out ++ [bt301.1]) (i : Int) (b : Int) (wrap64 ((x : Int) + 1)) L bt301.2.1 bt301.2.2) else (none))) else (spec_l04Bytes.l0 k (n : Int) out ((i + 1 : Nat) : Int) L p s))) (fun k => ?_) ?_
    · simp only [spec_l04Bytes.l1, w]
    · refine Ev.bind (ssize_ev hb) ?_
      simp only [if_neg g]
      exact hr
  | succ d ih =>
    intro x out p s hz hx ho hy hp cont
    by_cases c : x < sz (md b)
    · obtain ⟨v, p1, s1, e1, hv, hp1⟩ := byte2_ok L p s hp
      have hs3 := sz3 (md b)
      have hlen : (out ++ [v]).length = out.length + 1 := by simp
      have hy' : ∀ y ∈ out ++ [v], 0 ≤ y ∧ y < 256 := fun y h => by
        rcases List.mem_append.mp h with h | h
        · exact hy y h
        · simp at h
          rw [h]
          exact hv
      obtain ⟨r, hr, ok⟩ := ih (x + 1) (out ++ [v]) p1 s1 (by omega) (by omega) (by omega) hy' hp1 (fun out' p' s' a1 a2 a3 => cont out' p' s' a1 (by omega) a3)
      have g : (x : Int) < ((sz (md b) : Nat) : Int) := by omega
      have g2 : out.length < 140737488355328 := by omega
      have i63 : i < 9223372036854775807 := by omega
      have x63 : x < 9223372036854775807 := by omega
      refine ⟨r, ?_, ok⟩
      have w := w1 i63
      have wx := w1 x63
      refine Ev.step (f := fun k => (spec_SizeOf.f k (b : Int)).bind fun t => (if (x : Int) < t then (spec_l04Bytes.l1 k (n : Int) (out ++ [v]) (i : Int) (b : Int) ((x + 1 : Nat) : Int) L p1 s1) else (spec_l04Bytes.l0 k (n : Int) out ((i + 1 : Nat) : Int) L p s))) (fun k => ?_) ?_
      · simp only [spec_l04Bytes.l1, e1, Option.bind_some, if_pos g2, w, wx]
      · refine Ev.bind (ssize_ev hb) ?_
        simp only [if_pos g]
        exact hr
    · exact ih x out p s (by omega) hx (by omega) hy hp (fun out' p' s' a1 a2 a3 => cont out' p' s' a1 (by omega) a3)
theorem bytesN_ok (L : List Int) (n : Nat) (hn : n ≤ 20) (p s : Int) (h : At L p) : ∃ r, Ev (fun k => spec_l04Bytes.f k L p s (n : Int)) r ∧ OkB L 100 r := by
  have go : ∀ (d i : Nat) (out : List Int) (p s : Int), i + d = n → out.length + 4 * d ≤ 100 → (∀ y ∈ out, 0 ≤ y ∧ y < 256) → At L p → ∃ r, Ev (fun k => spec_l04Bytes.l0 k (n : Int) out (i : Int) L p s) r ∧ OkB L 100 r := by
    intro d
    induction d with
    | zero =>
      intro i out p s hi ho hy hp
      refine ⟨(out, p, s), Ev.step (f := fun _ => some (out, p, s)) (fun k => ?_) (Ev.now _), hy, by show out.length ≤ 100; omega, hp⟩
      simp only [spec_l04Bytes.l0]
      rw [if_neg (by omega)]
    | succ d ih =>
      intro i out p s hi ho hy hp
      obtain ⟨b, p0, s0, h0, hb, hp0⟩ := code_ok L p s hp
      have hs3 := sz3 (md b)
      have hlen : (out ++ [(b : Int)]).length = out.length + 1 := by simp
      have hy' : ∀ y ∈ out ++ [(b : Int)], 0 ≤ y ∧ y < 256 := fun y h => by
        rcases List.mem_append.mp h with h | h
        · exact hy y h
        · simp at h
          omega
      obtain ⟨r, hr, ok⟩ := inner_ok L n i 100 (by omega) b hb 2 1 (out ++ [(b : Int)]) p0 s0 (by omega) (by omega) (by omega) hy' hp0 (fun out' p' s' a1 a2 a3 => ih (i + 1) out' p' s' (by omega) (by omega) a1 a3)
      have g : (i : Int) < (n : Int) := by omega
      have g2 : out.length < 140737488355328 := by omega
      refine ⟨r, ?_, ok⟩
      refine Ev.step (f := fun k => (spec_l03Code.f k L p s).bind fun bt => spec_l04Bytes.l1 k (n : Int) (out ++ [bt.1]) (i : Int) bt.1 1 L bt.2.1 bt.2.2) (fun k => ?_) ?_
      · simp only [spec_l04Bytes.l0, if_pos g, if_pos g2]
      · exact Ev.bind h0 hr
  unfold spec_l04Bytes.f
  exact go n 0 [] p s (by omega) (by simp; omega) (fun y h => absurd h (by simp)) h
end Go.Proofs.YtlglpolokcnlhaaDoor.MKD
