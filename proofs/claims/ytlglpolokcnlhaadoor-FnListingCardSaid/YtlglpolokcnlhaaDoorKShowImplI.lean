/-
ShowOp: the program's own text of an operation.
-/
import Derived.Test.YtlglpolokcnlhaaDoorMKx2
import Derived.Test.YtlglpolokcnlhaaDoorMKx3
import Derived.Test.YtlglpolokcnlhaaDoorKShowSameI
set_option linter.unusedSimpArgs false
set_option linter.unusedVariables false
namespace Go.Proofs.YtlglpolokcnlhaaDoor.MKS
open Go.RowKit Go.Proofs.YtlglpolokcnlhaaDoor.MK Go.Proofs.YtlglpolokcnlhaaDoorW.PrintWords Go.Proofs.YtlglpolokcnlhaaDoorW.PrintLast Go.Proofs.YtlglpolokcnlhaaDoor.Lst Go.Proofs.YtlglpolokcnlhaaDoor.MKO Go.Proofs.YtlglpolokcnlhaaDoor.MKH

theorem iwb {b : Nat} (h : b < 65536) : Go.RowKit.wrap64 (b : Int) = (b : Int) := wrap_in (by omega) (by omega)
theorem impl_t12 (pc : Int) (hp : 0 ≤ pc ∧ pc < 65536) (l : List Int) (b1 : Nat) (hb1 : b1 < 256) (h1' : rd l 1 = (b1 : Int)) (g : 1 < (l.length : Int)) (ht : tg pc b1 < 65536) :
   Ev (fun k => (if 1 < (l.length : Int) then ((impl_target.f pc (rd l 1)).bind fun t238 => ((impl_HexText.f k (Go.RowKit.wrap64 (t238)) 4).bind fun t239 => (if 1 + t239.size ≤ 9223372036854775807 then (some ((⟨#[36]⟩ : ByteArray) ++ t239)) else (none)))) else (none))) (D ++ strOfNums (hexL 4 (tg pc b1))) := by
  refine Ev.congr (f := fun k => (impl_HexText.f k ((tg pc b1 : Nat) : Int) ((4 : Nat) : Int)).bind fun t239 => (if 1 + t239.size ≤ 9223372036854775807 then (some ((⟨#[36]⟩ : ByteArray) ++ t239)) else (none))) (fun k => ?_) (Ev.bind (impl_hex (by omega) (by omega) (by omega)) ?_)
  · rw [if_pos g, h1', target_same pc hp b1 hb1, Option.bind_some, iwb ht]
    rfl
  · rw [if_pos (by rw [hx4_size]; omega)]
    exact Ev.now _
set_option maxHeartbeats 1000000 in
theorem impl_j1 (m : Int) (hm : 1 ≤ m ∧ m ≤ 12) (l : List Int) (pc : Int) (hp : 0 ≤ pc ∧ pc < 65536) (b1 b2 : Nat) (hb1 : b1 < 256) (hl : l.length = sz m) (h1 : 2 ≤ sz m → rd l 1 = (b1 : Int)) (x7 x8 : ByteArray) (e7 : 2 ≤ sz m → x7 = one b1) (e8 : 3 ≤ sz m → x8 = two b1 b2) :
    Ev (fun k => impl_operand.j1 k m l pc x7 x8) (opnd m b1 b2 (tg pc b1)) := by
  have hc : m = 1 ∨ m = 2 ∨ m = 3 ∨ m = 4 ∨ m = 5 ∨ m = 6 ∨ m = 7 ∨ m = 8 ∨ m = 9 ∨ m = 10 ∨ m = 11 ∨ m = 12 := by omega
  have s1 := one_size b1
  have s2 := two_size b1 b2
  refine Ev.step (f := fun k => _) (fun k => by simp only [impl_operand.j1]; rfl) ?_
  rcases hc with h | h | h | h | h | h | h | h | h | h | h | h
  · simp only [h, Int.reduceEq, if_true, if_false, ↓reduceIte, opnd]
    exact Ev.now _
  · have e_ := e7 (by rw [h]; decide)
    subst e_
    simp only [h, Int.reduceEq, if_true, if_false, ↓reduceIte, opnd]
    rw [if_pos (by omega)]
    exact Ev.now _
  · have e_ := e7 (by rw [h]; decide)
    subst e_
    simp only [h, Int.reduceEq, if_true, if_false, ↓reduceIte, opnd]
    exact Ev.now _
  · have e_ := e7 (by rw [h]; decide)
    subst e_
    simp only [h, Int.reduceEq, if_true, if_false, ↓reduceIte, opnd]
    rw [if_pos (by omega)]
    exact Ev.now _
  · have e_ := e7 (by rw [h]; decide)
    subst e_
    simp only [h, Int.reduceEq, if_true, if_false, ↓reduceIte, opnd]
    rw [if_pos (by omega)]
    exact Ev.now _
  · have e_ := e8 (by rw [h]; decide)
    subst e_
    simp only [h, Int.reduceEq, if_true, if_false, ↓reduceIte, opnd]
    exact Ev.now _
  · have e_ := e8 (by rw [h]; decide)
    subst e_
    simp only [h, Int.reduceEq, if_true, if_false, ↓reduceIte, opnd]
    rw [if_pos (by omega)]
    exact Ev.now _
  · have e_ := e8 (by rw [h]; decide)
    subst e_
    simp only [h, Int.reduceEq, if_true, if_false, ↓reduceIte, opnd]
    rw [if_pos (by omega)]
    exact Ev.now _
  · have e_ := e8 (by rw [h]; decide)
    subst e_
    simp only [h, Int.reduceEq, if_true, if_false, ↓reduceIte, opnd]
    rw [if_pos (by omega), if_pos (by rw [ByteArray.size_append, c1]; omega)]
    exact Ev.now _
  · have e_ := e7 (by rw [h]; decide)
    subst e_
    simp only [h, Int.reduceEq, if_true, if_false, ↓reduceIte, opnd]
    rw [if_pos (by omega), if_pos (by rw [ByteArray.size_append, c1]; omega)]
    exact Ev.now _
  · have e_ := e7 (by rw [h]; decide)
    subst e_
    simp only [h, Int.reduceEq, if_true, if_false, ↓reduceIte, opnd]
    rw [if_pos (by omega), if_pos (by rw [ByteArray.size_append, c1]; omega)]
    exact Ev.now _
  · have h1' : rd l 1 = (b1 : Int) := h1 (by rw [h]; decide)
    have hl2 : l.length = 2 := by rw [hl, h]; rfl
    have g : 1 < (l.length : Int) := by omega
    have ht : tg pc b1 < 65536 := by unfold tg; omega
    simp only [h, Int.reduceEq, if_true, if_false, ↓reduceIte, opnd]
    exact impl_t12 pc hp l b1 hb1 h1' g ht
theorem impl_opnd (m : Int) (hm : 1 ≤ m ∧ m ≤ 12) (l : List Int) (pc : Int) (hp : 0 ≤ pc ∧ pc < 65536) (b1 b2 : Nat) (hb1 : b1 < 256) (hb2 : b2 < 256) (hl : l.length = sz m) (h1 : 2 ≤ sz m → rd l 1 = (b1 : Int)) (h2 : 3 ≤ sz m → rd l 2 = (b2 : Int)) :
    Ev (fun k => impl_operand.f k m l pc) (opnd m b1 b2 (tg pc b1)) := by
  have key : ∀ x7 : ByteArray, (2 ≤ sz m → x7 = one b1) → Ev (fun k => impl_operand.j0 k m l pc x7 ⟨#[]⟩) (opnd m b1 b2 (tg pc b1)) := by
    intro x7 e7
    by_cases g : (l.length : Int) > 2
    · have g1 : 2 < (l.length : Int) := by omega
      have g3 : 1 < (l.length : Int) := by omega
      have r1 := h1 (by omega)
      have r2 := h2 (by omega)
      refine Ev.step (f := fun k => _) (fun k => by simp only [impl_operand.j0]; rw [if_pos g, if_pos g1, r2, r1, iwb (by omega : b1 < 65536), iwb (by omega : b2 < 65536)]) ?_
      refine Ev.bind (impl_hex (n := 2) (by omega) (by omega) (by omega)) ?_
      have s2 : (strOfNums (hexL 2 b2)).size = 2 := hx2_size b2
      have s1 : (strOfNums (hexL 2 b1)).size = 2 := hx2_size b1
      have q1 : 1 + (strOfNums (hexL 2 b2)).size ≤ 9223372036854775807 := by omega
      simp only [q1, g3, if_true]
      refine Ev.bind (impl_hex (n := 2) (by omega) (by omega) (by omega)) ?_
      have q2 : ((⟨#[36]⟩ : ByteArray) ++ strOfNums (hexL 2 b2)).size + (strOfNums (hexL 2 b1)).size ≤ 9223372036854775807 := by rw [ByteArray.size_append, c1]; omega
      simp only [q2, if_true]
      exact impl_j1 m hm l pc hp b1 b2 hb1 hl h1 x7 _ e7 (fun _ => rfl)
    · refine Ev.step (f := fun k => _) (fun k => by simp only [impl_operand.j0]; rw [if_neg g]) ?_
      exact impl_j1 m hm l pc hp b1 b2 hb1 hl h1 x7 _ e7 (fun h3 => by omega)
  unfold impl_operand.f
  by_cases g : (l.length : Int) > 1
  · have g1 : 1 < (l.length : Int) := by omega
    have r1 := h1 (by omega)
    simp only [g, g1, if_true, r1, iwb (by omega : b1 < 65536)]
    refine Ev.bind (impl_hex (n := 2) (by omega) (by omega) (by omega)) ?_
    have s1 : (strOfNums (hexL 2 b1)).size = 2 := hx2_size b1
    have q1 : 1 + (strOfNums (hexL 2 b1)).size ≤ 9223372036854775807 := by omega
    simp only [q1, if_true]
    exact key _ (fun _ => rfl)
  · simp only [g, if_false]
    exact key _ (fun h2 => by omega)
theorem opnd_size (m : Int) (b1 b2 t : Nat) : (opnd m b1 b2 t).size ≤ 20 := by
  have s1 := one_size b1
  have s2 := two_size b1 b2
  have s4 := hx4_size t
  unfold opnd
  by_cases h : m = 1
  · rw [if_pos h, c1]; omega
  rw [if_neg h]; clear h
  by_cases h : m = 2
  · rw [if_pos h, ByteArray.size_append, c1, s1]; omega
  rw [if_neg h]; clear h
  by_cases h : m = 3
  · rw [if_pos h, s1]; omega
  rw [if_neg h]; clear h
  by_cases h : m = 4
  · rw [if_pos h, ByteArray.size_append, c2, s1]; omega
  rw [if_neg h]; clear h
  by_cases h : m = 5
  · rw [if_pos h, ByteArray.size_append, c2, s1]; omega
  rw [if_neg h]; clear h
  by_cases h : m = 6
  · rw [if_pos h, s2]; omega
  rw [if_neg h]; clear h
  by_cases h : m = 7
  · rw [if_pos h, ByteArray.size_append, c2, s2]; omega
  rw [if_neg h]; clear h
  by_cases h : m = 8
  · rw [if_pos h, ByteArray.size_append, c2, s2]; omega
  rw [if_neg h]; clear h
  by_cases h : m = 9
  · rw [if_pos h, ByteArray.size_append, ByteArray.size_append, c1, c1, s2]; omega
  rw [if_neg h]; clear h
  by_cases h : m = 10
  · rw [if_pos h, ByteArray.size_append, ByteArray.size_append, c1, c3, s1]; omega
  rw [if_neg h]; clear h
  by_cases h : m = 11
  · rw [if_pos h, ByteArray.size_append, ByteArray.size_append, c1, c3, s1]; omega
  rw [if_neg h]; clear h
  rw [ByteArray.size_append, c1, s4]; omega
theorem whole_ev (l : List Int) (hb : ∀ x ∈ l, 0 ≤ x ∧ x < 256) : Ev (fun k => impl_isWhole.f k l) (decide (l.length ≠ 0 ∧ sz (md (rd l 0).toNat) ≠ 0 ∧ sz (md (rd l 0).toNat) ≤ l.length)) := by
  have r0 : rd l 0 = (((rd l 0).toNat : Nat) : Int) := (rd_nat hb 0).1
  have q0 : (rd l 0).toNat < 256 := (rd_nat hb 0).2
  generalize (rd l 0).toNat = j at *
  unfold impl_isWhole.f
  by_cases g : (l.length : Int) > 0
  · have g1 : 0 < (l.length : Int) := g
    simp only [g, g1, if_true, r0]
    refine Ev.bind (isize_ev q0) ?_
    by_cases hz : sz (md j) = 0
    · simp only [hz]
      simp
      exact Ev.now _
    · have g2 : ((sz (md j) : Nat) : Int) > 0 := by omega
      simp only [g2, if_true]
      refine Ev.bind (isize_ev q0) ?_
      have e : decide ((l.length : Int) ≥ ((sz (md j) : Nat) : Int)) = decide (l.length ≠ 0 ∧ sz (md j) ≠ 0 ∧ sz (md j) ≤ l.length) := decide_eq_decide.mpr (by omega)
      rw [e]
      exact Ev.now _
  · have e : decide (l.length ≠ 0 ∧ sz (md j) ≠ 0 ∧ sz (md j) ≤ l.length) = false := decide_eq_false (by omega)
    simp only [g, if_false, e]
    exact Ev.now _
theorem impl_show (l : List Int) (pc : Int) (hp : 0 ≤ pc ∧ pc < 65536) (hb : ∀ x ∈ l, 0 ≤ x ∧ x < 256) : Ev (fun k => impl_ShowOp.f k l pc) (showL l pc) := by
  have hw := whole_ev l hb
  have r0 : rd l 0 = (((rd l 0).toNat : Nat) : Int) := (rd_nat hb 0).1
  have q0 : (rd l 0).toNat < 256 := (rd_nat hb 0).2
  have r1 : rd l 1 = (((rd l 1).toNat : Nat) : Int) := (rd_nat hb 1).1
  have q1 : (rd l 1).toNat < 256 := (rd_nat hb 1).2
  have r2 : rd l 2 = (((rd l 2).toNat : Nat) : Int) := (rd_nat hb 2).1
  have q2 : (rd l 2).toNat < 256 := (rd_nat hb 2).2
  unfold impl_ShowOp.f showL
  generalize hj : (rd l 0).toNat = j at *
  generalize hb1 : (rd l 1).toNat = b1 at *
  generalize hb2 : (rd l 2).toNat = b2 at *
  refine Ev.bind hw ?_
  clear hw
  by_cases h0 : l.length = 0
  · simp [h0]
    exact Ev.now _
  · by_cases hz : sz (md j) = 0
    · simp [h0, hz]
      exact Ev.now _
    · by_cases hl : l.length < sz (md j)
      · have e : decide (l.length ≠ 0 ∧ sz (md j) ≠ 0 ∧ sz (md j) ≤ l.length) = false := decide_eq_false (by omega)
        simp only [h0, hz, hl, e, if_true, if_false, Bool.false_eq_true]
        exact Ev.now _
      · have e : decide (l.length ≠ 0 ∧ sz (md j) ≠ 0 ∧ sz (md j) ≤ l.length) = true := decide_eq_true (by omega)
        have g1 : 0 < (l.length : Int) := by omega
        simp only [h0, hz, hl, e, if_true, if_false, g1, r0]
        refine Ev.bind (op_ev q0) ?_
        by_cases hm : md j = 0
        · simp only [hm, if_true]
          exact Ev.now _
        · obtain ⟨_, _, m1, m2, hn⟩ := size_all ⟨j, q0⟩
          have m1 : -1 ≤ md j := m1
          have m2 : md j ≤ 12 := m2
          have hn : (nm j).size ≤ 3 := hn
          have m3 : ¬ md j = -1 := fun h => hz (by rw [h]; rfl)
          have g2 : (nm j).size + 1 ≤ 9223372036854775807 := by omega
          have g3 : 0 ≤ ((sz (md j) : Nat) : Int) := by omega
          have g4 : ((sz (md j) : Nat) : Int) ≤ (l.length : Int) := by omega
          simp only [hm, if_false, g2, if_true]
          refine Ev.bind (isize_ev q0) ?_
          simp only [g3, g4, if_true, Int.toNat_natCast]
          have t1 : 2 ≤ sz (md j) → rd (l.take (sz (md j))) 1 = (b1 : Int) := fun h => by
            rw [← r1]
            unfold rd
            rw [List.getD_eq_getElem?_getD, List.getD_eq_getElem?_getD, List.getElem?_take, if_pos (by simp; omega)]
          have t2 : 3 ≤ sz (md j) → rd (l.take (sz (md j))) 2 = (b2 : Int) := fun h => by
            rw [← r2]
            unfold rd
            rw [List.getD_eq_getElem?_getD, List.getD_eq_getElem?_getD, List.getElem?_take, if_pos (by simp; omega)]
          refine Ev.bind (impl_opnd (md j) (by omega) (l.take (sz (md j))) pc hp b1 b2 q1 q2 (by rw [List.length_take]; omega) t1 t2) ?_
          have so := opnd_size (md j) b1 b2 (tg pc b1)
          have g5 : (nm j ++ (⟨#[32]⟩ : ByteArray)).size + (opnd (md j) b1 b2 (tg pc b1)).size ≤ 9223372036854775807 := by rw [ByteArray.size_append, c1]; omega
          simp only [g5, if_true]
          exact Ev.now _
end Go.Proofs.YtlglpolokcnlhaaDoor.MKS
