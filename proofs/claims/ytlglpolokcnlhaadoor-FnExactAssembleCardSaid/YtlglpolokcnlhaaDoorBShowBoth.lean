/-
ShowOp: the reference's text and the program's text of an operation are one.
-/
import Derived.Test.YtlglpolokcnlhaaDoorMBx3
import Derived.Test.YtlglpolokcnlhaaDoorMBx4
import Derived.Test.YtlglpolokcnlhaaDoorBShowSame
set_option linter.unusedSimpArgs false
set_option linter.unusedVariables false
namespace Go.Proofs.YtlglpolokcnlhaaDoor.MBS
open Go.RowKit Go.Proofs.YtlglpolokcnlhaaDoor.MB Go.Proofs.YtlglpolokcnlhaaDoorW.PrintWords Go.Proofs.YtlglpolokcnlhaaDoorW.PrintLast Go.Proofs.YtlglpolokcnlhaaDoor.Lst Go.Proofs.YtlglpolokcnlhaaDoor.MBO Go.Proofs.YtlglpolokcnlhaaDoor.MBH

theorem cat2 (a b : UInt8) : (⟨#[a, b]⟩ : ByteArray) = ⟨#[a]⟩ ++ ⟨#[b]⟩ := by apply ByteArray.ext; simp
theorem wb {b : Nat} (h : b < 256) : Go.RowKit.wrap64 (b : Int) = (b : Int) := wrap_in (by omega) (by omega)
theorem word_same {b1 b2 : Nat} (h1 : b1 < 256) (h2 : b2 < 256) : spec_l04Word.f (b1 : Int) (b2 : Int) = some ((b1 + 256 * b2 : Nat) : Int) := by
  unfold spec_l04Word.f
  congr 1
  rw [wb h1, wb h2, wrap_in (i := 256 * (b2 : Int)) (by omega) (by omega), wrap_in (by omega) (by omega)]
  omega
set_option maxHeartbeats 1000000 in
theorem spec_j2 (l : List Int) (pc : Int) (hp : 0 ≤ pc ∧ pc < 65536) (j b1 b2 : Nat) (hj : j < 256) (hb1 : b1 < 256) (hb2 : b2 < 256) (h0 : rd l 0 = (j : Int)) (h1 : rd l 1 = (b1 : Int)) (h2 : rd l 2 = (b2 : Int)) (hl : sz (md j) ≤ l.length) (hz : ¬ sz (md j) = 0) (x6 x7 : ByteArray) (e6 : 2 ≤ sz (md j) → x6 = one b1) (e7 : 3 ≤ sz (md j) → x7 = two b1 b2) :
    Ev (fun k => spec_ShowOp.j2 k l pc (nm j) x6 x7) (if md j = 0 then nm j else (nm j ++ ⟨#[32]⟩) ++ opnd (md j) b1 b2 (tg pc b1)) := by
  obtain ⟨_, _, m1, m2, hn⟩ := size_all ⟨j, hj⟩
  simp only at m1 m2 hn
  have hl0 : 0 < l.length := by omega
  refine Ev.step (f := fun k => _) (fun k => by simp only [spec_ShowOp.j2]; rw [if_pos (by omega), h0]) ?_
  refine Ev.bind (mode_ev hj) ?_
  have hc : md j = -1 ∨ md j = 0 ∨ md j = 1 ∨ md j = 2 ∨ md j = 3 ∨ md j = 4 ∨ md j = 5 ∨ md j = 6 ∨ md j = 7 ∨ md j = 8 ∨ md j = 9 ∨ md j = 10 ∨ md j = 11 ∨ md j = 12 := by omega
  have s1 := one_size b1
  have s2 := two_size b1 b2
  rcases hc with h | h | h | h | h | h | h | h | h | h | h | h | h | h
  · exact absurd (by rw [h]; rfl) hz
  · simp only [h, Int.reduceEq, Int.reduceNeg, if_true, if_false, ↓reduceIte]
    exact Ev.now _
  · simp only [h, Int.reduceEq, if_true, if_false, ↓reduceIte, opnd]
    rw [if_pos (by omega)]
    have e : nm j ++ (⟨#[32, 65]⟩ : ByteArray) = (nm j ++ ⟨#[32]⟩) ++ ⟨#[65]⟩ := by rw [cat2 32]; simp only [ByteArray.append_assoc]
    rw [e]
    exact Ev.now _
  · have e : x6 = one b1 := e6 (by rw [h]; decide)
    subst e
    simp only [h, Int.reduceEq, if_true, if_false, ↓reduceIte, opnd]
    rw [if_pos (by omega), if_pos (by rw [ByteArray.size_append, c2]; omega)]
    have e : (nm j ++ (⟨#[32, 35]⟩ : ByteArray)) ++ one b1 = (nm j ++ ⟨#[32]⟩) ++ (⟨#[35]⟩ ++ one b1) := by rw [cat2 32]; simp only [ByteArray.append_assoc]
    rw [e]
    exact Ev.now _
  · have e : x6 = one b1 := e6 (by rw [h]; decide)
    subst e
    simp only [h, Int.reduceEq, if_true, if_false, ↓reduceIte, opnd]
    rw [if_pos (by omega), if_pos (by rw [ByteArray.size_append, c1]; omega)]
    exact Ev.now _
  · have e : x6 = one b1 := e6 (by rw [h]; decide)
    subst e
    simp only [h, Int.reduceEq, if_true, if_false, ↓reduceIte, opnd]
    rw [if_pos (by omega), if_pos (by rw [ByteArray.size_append, c1]; omega), if_pos (by rw [ByteArray.size_append, ByteArray.size_append, c1]; omega)]
    have e : ((nm j ++ (⟨#[32]⟩ : ByteArray)) ++ one b1) ++ ⟨#[44, 88]⟩ = (nm j ++ ⟨#[32]⟩) ++ (one b1 ++ ⟨#[44, 88]⟩) := by apply ByteArray.ext; simp
    rw [e]
    exact Ev.now _
  · have e : x6 = one b1 := e6 (by rw [h]; decide)
    subst e
    simp only [h, Int.reduceEq, if_true, if_false, ↓reduceIte, opnd]
    rw [if_pos (by omega), if_pos (by rw [ByteArray.size_append, c1]; omega), if_pos (by rw [ByteArray.size_append, ByteArray.size_append, c1]; omega)]
    have e : ((nm j ++ (⟨#[32]⟩ : ByteArray)) ++ one b1) ++ ⟨#[44, 89]⟩ = (nm j ++ ⟨#[32]⟩) ++ (one b1 ++ ⟨#[44, 89]⟩) := by apply ByteArray.ext; simp
    rw [e]
    exact Ev.now _
  · have e : x7 = two b1 b2 := e7 (by rw [h]; decide)
    subst e
    simp only [h, Int.reduceEq, if_true, if_false, ↓reduceIte, opnd]
    rw [if_pos (by omega), if_pos (by rw [ByteArray.size_append, c1]; omega)]
    exact Ev.now _
  · have e : x7 = two b1 b2 := e7 (by rw [h]; decide)
    subst e
    simp only [h, Int.reduceEq, if_true, if_false, ↓reduceIte, opnd]
    rw [if_pos (by omega), if_pos (by rw [ByteArray.size_append, c1]; omega), if_pos (by rw [ByteArray.size_append, ByteArray.size_append, c1]; omega)]
    have e : ((nm j ++ (⟨#[32]⟩ : ByteArray)) ++ two b1 b2) ++ ⟨#[44, 88]⟩ = (nm j ++ ⟨#[32]⟩) ++ (two b1 b2 ++ ⟨#[44, 88]⟩) := by apply ByteArray.ext; simp
    rw [e]
    exact Ev.now _
  · have e : x7 = two b1 b2 := e7 (by rw [h]; decide)
    subst e
    simp only [h, Int.reduceEq, if_true, if_false, ↓reduceIte, opnd]
    rw [if_pos (by omega), if_pos (by rw [ByteArray.size_append, c1]; omega), if_pos (by rw [ByteArray.size_append, ByteArray.size_append, c1]; omega)]
    have e : ((nm j ++ (⟨#[32]⟩ : ByteArray)) ++ two b1 b2) ++ ⟨#[44, 89]⟩ = (nm j ++ ⟨#[32]⟩) ++ (two b1 b2 ++ ⟨#[44, 89]⟩) := by apply ByteArray.ext; simp
    rw [e]
    exact Ev.now _
  · have e : x7 = two b1 b2 := e7 (by rw [h]; decide)
    subst e
    simp only [h, Int.reduceEq, if_true, if_false, ↓reduceIte, opnd]
    rw [if_pos (by omega), if_pos (by rw [ByteArray.size_append, c2]; omega), if_pos (by rw [ByteArray.size_append, ByteArray.size_append, c2]; omega)]
    have e : ((nm j ++ (⟨#[32, 40]⟩ : ByteArray)) ++ two b1 b2) ++ ⟨#[41]⟩ = (nm j ++ ⟨#[32]⟩) ++ ((⟨#[40]⟩ ++ two b1 b2) ++ ⟨#[41]⟩) := by rw [cat2 32]; simp only [ByteArray.append_assoc]
    rw [e]
    exact Ev.now _
  · have e : x6 = one b1 := e6 (by rw [h]; decide)
    subst e
    simp only [h, Int.reduceEq, if_true, if_false, ↓reduceIte, opnd]
    rw [if_pos (by omega), if_pos (by rw [ByteArray.size_append, c2]; omega), if_pos (by rw [ByteArray.size_append, ByteArray.size_append, c2]; omega)]
    have e : ((nm j ++ (⟨#[32, 40]⟩ : ByteArray)) ++ one b1) ++ ⟨#[44, 88, 41]⟩ = (nm j ++ ⟨#[32]⟩) ++ ((⟨#[40]⟩ ++ one b1) ++ ⟨#[44, 88, 41]⟩) := by rw [cat2 32]; simp only [ByteArray.append_assoc]
    rw [e]
    exact Ev.now _
  · have e : x6 = one b1 := e6 (by rw [h]; decide)
    subst e
    simp only [h, Int.reduceEq, if_true, if_false, ↓reduceIte, opnd]
    rw [if_pos (by omega), if_pos (by rw [ByteArray.size_append, c2]; omega), if_pos (by rw [ByteArray.size_append, ByteArray.size_append, c2]; omega)]
    have e : ((nm j ++ (⟨#[32, 40]⟩ : ByteArray)) ++ one b1) ++ ⟨#[41, 44, 89]⟩ = (nm j ++ ⟨#[32]⟩) ++ ((⟨#[40]⟩ ++ one b1) ++ ⟨#[41, 44, 89]⟩) := by rw [cat2 32]; simp only [ByteArray.append_assoc]
    rw [e]
    exact Ev.now _
  · have hl2 : 2 ≤ l.length := by rw [h] at hl; exact hl
    have ho := off_range b1 hb1
    have hm : Go.bits .and .i64 (Go.RowKit.wrap64 ((Go.RowKit.wrap64 ((Go.RowKit.wrap64 pc) + 2)) + off b1)) 65535 = ((tg pc b1 : Nat) : Int) := by
      rw [wrap_in (i := pc) (by omega) (by omega), wrap_in (i := pc + 2) (by omega) (by omega), wrap_in (by omega) (by omega), and16]
      unfold tg
      omega
    have ht : tg pc b1 < 65536 := by unfold tg; omega
    simp only [h, Int.reduceEq, if_true, if_false, ↓reduceIte, opnd]
    have q1 : (nm j).size + 2 ≤ 9223372036854775807 := by omega
    have q2 : 1 < (l.length : Int) := by omega
    simp only [q1, q2, h1, offset_same b1 hb1, Option.bind_some, hm, if_true]
    refine Ev.bind (spec_hex (n := 4) (by omega) (by omega) (by omega)) ?_
    rw [if_pos (by rw [ByteArray.size_append, c2, hx4_size]; omega)]
    have e : (nm j ++ (⟨#[32, 36]⟩ : ByteArray)) ++ strOfNums (hexL 4 (tg pc b1)) = (nm j ++ ⟨#[32]⟩) ++ (D ++ strOfNums (hexL 4 (tg pc b1))) := by rw [cat2 32]; simp only [ByteArray.append_assoc]
    rw [e]
    exact Ev.now _
theorem spec_show (l : List Int) (pc : Int) (hp : 0 ≤ pc ∧ pc < 65536) (hb : ∀ x ∈ l, 0 ≤ x ∧ x < 256) (hlen : l.length < 4611686018427387904) : Ev (fun k => spec_ShowOp.f k l pc) (showL l pc) := by
  unfold spec_ShowOp.f showL
  by_cases h0 : l.length = 0
  · simp only [h0]
    refine Ev.step (f := fun _ => some ⟨#[]⟩) (fun k => ?_) (Ev.now _)
    simp [spec_ShowOp.j0]
  · have r0 : rd l 0 = (((rd l 0).toNat : Nat) : Int) := (rd_nat hb 0).1
    have q0 : (rd l 0).toNat < 256 := (rd_nat hb 0).2
    have r1 : rd l 1 = (((rd l 1).toNat : Nat) : Int) := (rd_nat hb 1).1
    have q1 : (rd l 1).toNat < 256 := (rd_nat hb 1).2
    have r2 : rd l 2 = (((rd l 2).toNat : Nat) : Int) := (rd_nat hb 2).1
    have q2 : (rd l 2).toNat < 256 := (rd_nat hb 2).2
    generalize hj : (rd l 0).toNat = j at *
    generalize hb1 : (rd l 1).toNat = b1 at *
    generalize hb2 : (rd l 2).toNat = b2 at *
    simp only [h0, if_false]
    have g0 : ¬ (l.length : Int) = 0 := by omega
    have g1 : 0 < (l.length : Int) := by omega
    simp only [g0, g1, r0, if_true, if_false]
    refine Ev.bind (ssize_ev q0) ?_
    by_cases hz : sz (md j) = 0
    · simp only [hz]
      refine Ev.step (f := fun _ => some ⟨#[]⟩) (fun k => ?_) (Ev.now _)
      simp [spec_ShowOp.j0]
    · simp only [hz, if_false]
      have g2 : ¬ ((sz (md j) : Nat) : Int) = 0 := by omega
      simp only [g2, if_false]
      refine Ev.bind (ssize_ev q0) ?_
      by_cases hl : l.length < sz (md j)
      · have e : decide ((l.length : Int) < ((sz (md j) : Nat) : Int)) = true := decide_eq_true (by omega)
        simp only [hl, e, if_true]
        refine Ev.step (f := fun _ => some ⟨#[]⟩) (fun k => ?_) (Ev.now _)
        simp [spec_ShowOp.j0]
      · have e : decide ((l.length : Int) < ((sz (md j) : Nat) : Int)) = false := decide_eq_false (by omega)
        simp only [hl, e, if_false]
        refine Ev.step (f := fun k => _) (fun k => by simp only [spec_ShowOp.j0, Bool.false_eq_true, if_false]; rw [if_pos (by omega), r0]) ?_
        refine Ev.bind (name_ev q0) ?_
        have fin : ∀ x6 : ByteArray, (2 ≤ sz (md j) → x6 = one b1) → Ev (fun k => spec_ShowOp.j1 k l pc (nm j) x6 ⟨#[]⟩) (if md j = 0 then nm j else (nm j ++ ⟨#[32]⟩) ++ opnd (md j) b1 b2 (tg pc b1)) := by
          intro x6 e6
          by_cases g : (l.length : Int) > 2
          · have g6 : 1 < (l.length : Int) := by omega
            have g7 : 2 < (l.length : Int) := by omega
            refine Ev.step (f := fun k => _) (fun k => by simp only [spec_ShowOp.j1]; rw [if_pos g, if_pos g6, if_pos g7, r1, r2, word_same q1 q2, Option.bind_some]) ?_
            refine Ev.bind (spec_hex (n := 4) (by omega) (by omega) (by omega)) ?_
            have g5 : 1 + (hx2 b2 ++ hx2 b1).size ≤ 9223372036854775807 := by rw [ByteArray.size_append, hx2_size, hx2_size]; omega
            rw [hex4_two b1 b2 q1 q2]
            simp only [g5, if_true]
            exact spec_j2 l pc hp j b1 b2 q0 q1 q2 r0 r1 r2 (by omega) hz x6 _ e6 (fun _ => by unfold two; rw [ByteArray.append_assoc])
          · refine Ev.step (f := fun k => _) (fun k => by simp only [spec_ShowOp.j1]; rw [if_neg g]) ?_
            exact spec_j2 l pc hp j b1 b2 q0 q1 q2 r0 r1 r2 (by omega) hz x6 _ e6 (fun h3 => by omega)
        by_cases g : (l.length : Int) > 1
        · have g3 : 1 < (l.length : Int) := by omega
          simp only [g, g3, r1, wb q1, if_true]
          refine Ev.bind (spec_hex (n := 2) (by omega) (by omega) (by omega)) ?_
          have hs : (strOfNums (hexL 2 b1)).size = 2 := hx2_size b1
          have g4 : 1 + (strOfNums (hexL 2 b1)).size ≤ 9223372036854775807 := by omega
          simp only [g4, if_true]
          exact fin _ (fun _ => rfl)
        · simp only [g, if_false]
          exact fin _ (fun h2 => by omega)
end Go.Proofs.YtlglpolokcnlhaaDoor.MBS
