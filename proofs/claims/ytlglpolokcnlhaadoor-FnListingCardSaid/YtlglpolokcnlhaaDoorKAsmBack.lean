/-
ReadOp gives an operation's bytes back from their text.
-/
import Derived.Test.YtlglpolokcnlhaaDoorMKx6
import Derived.Test.YtlglpolokcnlhaaDoorKReadOpBothI
set_option linter.unusedSimpArgs false
set_option linter.unusedVariables false
namespace Go.Proofs.YtlglpolokcnlhaaDoor.MKV
open Go.RowKit Go.Proofs.YtlglpolokcnlhaaDoor.MK Go.Proofs.YtlglpolokcnlhaaDoor.MKH Go.Proofs.YtlglpolokcnlhaaDoor.MKO Go.Proofs.YtlglpolokcnlhaaDoor.MKS Go.Proofs.YtlglpolokcnlhaaDoorW.PrintWords Go.Proofs.YtlglpolokcnlhaaDoorW.PrintLast Go.Proofs.YtlglpolokcnlhaaDoor.Lst

theorem bytes_are (i : Nat) (L : List Int) (hL : L.length = sz (md i)) (h0 : rd L 0 = (i : Int)) (hm : 0 ≤ md i ∧ md i ≤ 12) :
    (sz (md i) = 1 → L = [(i : Int)]) ∧ (sz (md i) = 2 → L = [(i : Int), rd L 1]) ∧ (sz (md i) = 3 → L = [(i : Int), rd L 1, rd L 2]) := by
  refine ⟨fun h => ?_, fun h => ?_, fun h => ?_⟩
  · rw [h] at hL
    match L, hL with
    | [a], _ => have e : a = (i : Int) := h0; rw [e]
  · rw [h] at hL
    match L, hL with
    | [a, b], _ => have e : a = (i : Int) := h0; rw [e]; rfl
  · rw [h] at hL
    match L, hL with
    | [a, b, c], _ => have e : a = (i : Int) := h0; rw [e]; rfl
theorem num_back (i : Nat) (L : List Int) (hL : L.length = sz (md i)) (h0 : rd L 0 = (i : Int)) (hm : 0 ≤ md i ∧ md i ≤ 12) (h2 : 2 ≤ md i) (b1 b2 : Nat) (hb1 : b1 < 256) (hb2 : b2 < 256) (e1 : rd L 1 = (b1 : Int)) (e2 : rd L 2 = (b2 : Int)) (pc : Int) (hp : 0 ≤ pc ∧ pc < 65536) :
    B i (numT (md i) (q0 (md i) b1 b2 (tg pc b1)) (q1 (md i) b1 b2 (tg pc b1)) (q2 (md i) b1 (tg pc b1)) (q3 (md i) b1 (tg pc b1))) pc = L := by
  obtain ⟨_, l2, l3⟩ := bytes_are i L hL h0 hm
  have ht : tg pc b1 < 65536 := by unfold tg; omega
  unfold B
  have hmm : md i = 2 ∨ md i = 3 ∨ md i = 4 ∨ md i = 5 ∨ md i = 6 ∨ md i = 7 ∨ md i = 8 ∨ md i = 9 ∨ md i = 10 ∨ md i = 11 ∨ md i = 12 := by omega
  rcases hmm with h | h | h | h | h | h | h | h | h | h | h <;> rw [h] at l2 l3 ⊢
  all_goals first
    | (rw [if_neg (by decide), l2 (by decide), e1]; simp [sz, numT, q0, q1, q2, q3]; omega)
    | (rw [if_neg (by decide), l3 (by decide), e1, e2]; simp [sz, numT, q0, q1, q2, q3]; omega)
    | (rw [if_pos rfl, l2 (by decide), e1]
       simp only [numT, q0, q1, q2, q3, if_true]
       congr 2
       have hx : (16 * (16 * (16 * ((tg pc b1 / 16 / 16 / 16 % 16 : Nat) : Int) + ((tg pc b1 / 16 / 16 % 16 : Nat) : Int)) + ((tg pc b1 / 16 % 16 : Nat) : Int)) + ((tg pc b1 % 16 : Nat) : Int)) = ((tg pc b1 : Nat) : Int) := by omega
       rw [if_pos (by decide)]
       have hy : (((tg pc b1 : Nat) : Int) - pc - 2) % 256 = (b1 : Int) := by
         unfold tg off
         split <;> omega
       omega)
theorem back (l : List UInt8) (hl : 3 ≤ l.length) (pc : Int) (hp : 0 ≤ pc ∧ pc < 65536) (i : Nat) (hi : i < 256) (hm : 0 ≤ md i ∧ md i ≤ 12) (L : List Int) (hL : L.length = sz (md i)) (h0 : rd L 0 = (i : Int)) (hb : ∀ x ∈ L, 0 ≤ x ∧ x < 256) (hf : (showL L pc).data.toList = l) :
    findI ⟨(l.take 3).toArray⟩ l (numI l) pc 13 0 = (L, true) := by
  have hs := show_shape i hi hm L hL h0 pc
  rw [hf] at hs
  have hname := name_all ⟨i, hi⟩
  simp only at hname
  have hn3 : (nm i).data.toList.length = 3 := by
    rcases hname with ⟨h, _⟩ | ⟨_, _, h, _⟩
    · omega
    · exact h
  have hn : (nm i).data.toList = l.take 3 := by
    rw [hs, List.take_append_of_le_length (by omega), List.take_of_length_le (by omega)]
  obtain ⟨_, x, y, z, hxyz, hx, hy, hw⟩ := fits_shape (l.take 3) l (by simp; omega) i hi hn
  obtain ⟨r1, r1'⟩ := rd_nat hb 1
  obtain ⟨r2, r2'⟩ := rd_nat hb 2
  have hBI : BI i (numI l) pc = L := by
    by_cases h2 : 2 ≤ md i
    · rw [hn, hxyz] at hs
      have e1 : rd L 1 = (((rd L 1).toNat : Nat) : Int) := r1
      have e2 : rd L 2 = (((rd L 2).toNat : Nat) : Int) := r2
      have nb := num_back i L hL h0 hm h2 (rd L 1).toNat (rd L 2).toNat r1' r2' e1 e2 pc hp
      generalize (rd L 1).toNat = b1 at hs nb
      generalize (rd L 2).toNat = b2 at hs nb
      unfold TB at hs
      have q := q_lt (md i) b1 b2 (tg pc b1)
      have ns := nums_shape x y z hx hy hw (md i) ⟨h2, hm.2⟩ ⟨_, q.1⟩ ⟨_, q.2.1⟩ ⟨_, q.2.2.1⟩ ⟨_, q.2.2.2⟩
      have nr := numT_range (md i) ⟨_, q.1⟩ ⟨_, q.2.1⟩ ⟨_, q.2.2.1⟩ ⟨_, q.2.2.2⟩
      simp only at ns nr
      rw [← hs] at ns
      rw [ns.2, (B_same i _ pc nr hp).2]
      exact nb
    · have hs1 := sz_one hm h2
      have g : ¬ md i = 12 := by omega
      unfold BI
      rw [if_neg g, hs1, (bytes_are i L hL h0 hm).1 hs1]
      rfl
  have e3 : (⟨(l.take 3).toArray⟩ : ByteArray).toList = l.take 3 := by rw [toList_data]
  have g : GoodI ⟨(l.take 3).toArray⟩ l (numI l) pc i := ⟨by rw [toList_data, hn, e3], by rw [hBI]; exact hf⟩
  have uI : ∀ c, c < 256 → GoodI ⟨(l.take 3).toArray⟩ l (numI l) pc c → c = i := fun j hj hh => by
    have hh1 : (nm j).data.toList = l.take 3 := by rw [← toList_data, hh.1, e3]
    obtain ⟨hm', _⟩ := fits_shape (l.take 3) l (by simp; omega) j hj hh1
    exact same_op l hl pc j i hj hi hh1 hn _ _ (len_BI _ _ _) (rd_BS0 j hm' (numI l) pc).2.1 hL h0 hh.2 hf
  have b := findI_some ⟨(l.take 3).toArray⟩ l (numI l) pc i hi g (by rw [e3, hxyz]; simp) uI 13 0 rfl (by omega) hm.2
  rw [b, hBI]
theorem sameBytes_ev (l : List Int) (hl : l.length < 9223372036854775807) : Ev (fun k => laws_sameBytes.f k l l) true := by
  have h := ev_for (r := true) l.length (fun k i => laws_sameBytes.l0 k l l i)
    (fun k => by
      simp only [laws_sameBytes.l0]
      rw [if_neg (by omega)])
    (fun i hi k => by
      simp only [laws_sameBytes.l0, if_true]
      rw [if_pos (by omega), if_pos (by omega), if_pos (by omega), w1 (by omega)])
  refine Ev.congr (fun k => ?_) h
  unfold laws_sameBytes.f
  rw [if_pos rfl]
  rfl
end Go.Proofs.YtlglpolokcnlhaaDoor.MKV
