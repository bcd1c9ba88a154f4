/-
Cycles out of their small form: the same on both sides, for all bytes.
-/
import Derived.Test.YtnoelppkcbelcaaMSx1
import Derived.Test.YtnoelppkcbelcaaMSx2
import Derived.Test.YtnoelppkcbelcaaMSx3
import Derived.Test.YtnoelppkcbelcaaMSx6
import Derived.Test.YtnoelppkcbelcaaMSx7
import Derived.Test.YtnoelppkcbelcaaSUnsqReadS
set_option linter.unusedSimpArgs false
set_option linter.unusedVariables false
namespace Go.Proofs.Ytnoelppkcbelcaa.MSH
open Go.RowKit Go.Proofs.Ytnoelppkcbelcaa.MS Go.Proofs.YtnoelppkcbelcaaW.PrintWords Go.Proofs.YtnoelppkcbelcaaW.PrintLast Go.Proofs.Ytnoelppkcbelcaa.Bit Go.Proofs.Ytnoelppkcbelcaa.Lst
def BIn (s : List Int) : Prop := ∀ x ∈ s, 0 ≤ x ∧ x < 256
theorem Ev.thru {α β : Type} {g : Nat → Option α} {a : α} {F f : Nat → Option β} {r : β} (h : Ev g a) (e : ∀ k, g k = some a → F (k + 1) = f k) (hf : Ev f r) : Ev F r := by
 obtain ⟨K, hK⟩ := h
 obtain ⟨K2, hK2⟩ := hf
 refine ⟨K + K2 + 1, fun k hk => ?_⟩
 obtain ⟨j, rfl⟩ : ∃ j, k = j + 1 := ⟨k - 1, by omega⟩
 rw [e j (hK j (by omega))]
 exact hK2 j (by omega)
theorem rd_at (s : List Int) (i : Nat) : rd s (i : Int) = at_ s i := by
 unfold rd at_
 rw [Int.toNat_natCast]
theorem zc_ok : CyOk zc := ⟨⟨by simp [zc], by simp [zc]⟩, by simp [zc], by simp [zc]⟩
theorem wadd {i j : Nat} (h : i + j ≤ 10000) : wrap64 ((i : Int) + (j : Int)) = ((i + j : Nat) : Int) := by
 rw [wrap_in (by omega) (by omega)]
 simp
theorem at_app {s t : List Int} {j : Nat} (h : j < s.length) : at_ (s ++ t) j = at_ s j := by
 unfold at_
 simp [List.getD_eq_getElem?_getD, List.getElem?_append_left h]
theorem split_at {s t : List Int} (hl : s.length ≤ t.length) (h : ∀ j, j < s.length → at_ s j = at_ t j) : t = s ++ t.drop s.length := by
 have e : t.take s.length = s := by
  refine List.ext_getElem (by simp; omega) (fun j h1 h2 => ?_)
  have := h j h2
  unfold at_ at this
  rw [List.getD_eq_getElem?_getD, List.getD_eq_getElem?_getD, List.getElem?_eq_getElem h2, List.getElem?_eq_getElem (by omega)] at this
  simp only [Option.getD_some] at this
  rw [List.getElem_take]
  exact this.symm
 have := List.take_append_drop s.length t
 rw [e] at this
 exact this.symm
theorem dLen_head {s t : List Int} (h : at_ s 0 = at_ t 0) : dLen s = dLen t := by
 unfold dLen
 rw [h]
theorem sq_len_head (a c : Cy) : dLen (sq a c) = (sq a c).length := by
 have := sq_dLen a c []
 rwa [List.append_nil] at this
theorem spec_read_ev {a : Cy} {b : List Int} {i : Nat} (ha : CyOk a) (h : BIn b) (h0 : i < b.length) (hl : b.length ≤ 4800) :
  Ev (fun k => spec_l16Read.f k b i a.f0 a.f1 a.f2) (if at_ (b.drop i) 0 > 15 then (0, 0, false, 0) else ((D a (b.drop i)).1.f0, (D a (b.drop i)).1.f1, (D a (b.drop i)).1.f2, ((D a (b.drop i)).2 : Int))) := by
 refine ⟨3, fun k hk => ?_⟩
 obtain ⟨j, rfl⟩ : ∃ j, k = j + 3 := ⟨k - 3, by omega⟩
 exact spec_read ha h h0 hl j
theorem spec_l0_read {a : Cy} {b : List Int} {i : Nat} {out : List Cy} {v : Int × Int × Bool × Int} {R : List Cy × Bool} (h : i < b.length) (e : Ev (fun k => spec_l16Read.f k b i a.f0 a.f1 a.f2) v)
  (hj : Ev (fun k => spec_Unsqueeze.j1 k b out i v.2.2.2 (if v.2.2.2 = 0 then true else ((out.length : Int) == 1200)) a.f0 a.f1 a.f2 v.1 v.2.1 v.2.2.1) R) : Ev (fun k => spec_Unsqueeze.l0 k b out i a.f0 a.f1 a.f2) R :=
 Ev.thru e (fun k hk => by
  simp only [spec_Unsqueeze.l0]
  rw [if_pos (by omega), hk, Option.bind_some]
  by_cases hz : v.2.2.2 = 0
  ·rw [if_pos hz, if_pos hz]
  ·rw [if_neg hz, if_neg hz]) hj
theorem spec_fail {a : Cy} {b : List Int} {i : Nat} {out : List Cy} (ha : CyOk a) (h : BIn b) (h0 : i < b.length) (hl : b.length ≤ 4800) (hf : at_ (b.drop i) 0 > 15 ∨ (D a (b.drop i)).2 = 0 ∨ out.length = 1200) :
  Ev (fun k => spec_Unsqueeze.l0 k b out i a.f0 a.f1 a.f2) ([], false) := by
 refine spec_l0_read h0 (spec_read_ev ha h h0 hl) (Ev.step (f := fun _ => some ([], false)) (fun k => ?_) (Ev.now _))
 simp only [spec_Unsqueeze.j1]
 rw [if_pos ?_]
 by_cases hm : at_ (b.drop i) 0 > 15
 ·rw [if_pos hm]
  rfl
 ·rw [if_neg hm]
  rcases hf with hf | hf | hf
  ·exact absurd hf hm
  ·simp [hf]
  ·simp [hf]
theorem l1_pass {b : List Int} {out : List Cy} {i n : Nat} {s : List Int} {c : Cy} {R : List Cy × Bool} (hl : b.length ≤ 4800) (hin : i + n ≤ b.length) (ho : out.length ≤ 4800) (hs : ∀ j, j < n → j < s.length ∧ at_ s j = at_ (b.drop i) j)
  (hR : Ev (fun k => spec_Unsqueeze.l0 k b (out ++ [c]) ((i + n : Nat) : Int) c.f0 c.f1 c.f2) R) : ∀ d j, j + d = n → Ev (fun k => spec_Unsqueeze.l1 k b out i n s j c.f0 c.f1 c.f2) R
 | 0, j, hj => by
  obtain rfl : j = n := by omega
  refine Ev.step (fun k => ?_) hR
  simp only [spec_Unsqueeze.l1]
  rw [if_neg (by omega), if_pos (by omega), wadd (by omega)]
 | d + 1, j, hj => by
  have ih := l1_pass hl hin ho hs hR d (j + 1) (by omega)
  obtain ⟨h1, h2⟩ := hs j (by omega)
  refine Ev.step (fun k => ?_) ih
  simp only [spec_Unsqueeze.l1]
  rw [if_pos (by omega), if_neg (by omega), if_pos (by omega), if_pos (by omega), wadd (by omega), if_pos (by omega), if_pos (by omega), rd_at, Int.natCast_add, rd_drop, if_pos h2, w1 (by omega)]
theorem l1_stop {b : List Int} {out : List Cy} {i n : Nat} {s : List Int} {c : Cy} (hl : b.length ≤ 4800) (hin : i + n ≤ b.length) : ∀ d j, j + d = n → (∃ q, j ≤ q ∧ q < n ∧ ¬ (q < s.length ∧ at_ s q = at_ (b.drop i) q)) →
  Ev (fun k => spec_Unsqueeze.l1 k b out i n s j c.f0 c.f1 c.f2) ([], false)
 | 0, j, hj, ⟨q, q1, q2, q3⟩ => by omega
 | d + 1, j, hj, ⟨q, q1, q2, q3⟩ => by
  by_cases h1 : j < s.length
  ·by_cases h2 : at_ s j = at_ (b.drop i) j
   ·have ne : j ≠ q := fun e => q3 (e ▸ ⟨h1, h2⟩)
    have ih := l1_stop (out := out) (s := s) (c := c) hl hin d (j + 1) (by omega) ⟨q, by omega, q2, q3⟩
    refine Ev.step (fun k => ?_) ih
    simp only [spec_Unsqueeze.l1]
    rw [if_pos (by omega), if_neg (by omega), if_pos (by omega), if_pos (by omega), wadd (by omega), if_pos (by omega), if_pos (by omega), rd_at, Int.natCast_add, rd_drop, if_pos h2, w1 (by omega)]
   ·refine Ev.step (f := fun _ => some ([], false)) (fun k => ?_) (Ev.now _)
    simp only [spec_Unsqueeze.l1]
    rw [if_pos (by omega), if_neg (by omega), if_pos (by omega), if_pos (by omega), wadd (by omega), if_pos (by omega), if_pos (by omega), rd_at, Int.natCast_add, rd_drop, if_neg h2]
  ·refine Ev.step (f := fun _ => some ([], false)) (fun k => ?_) (Ev.now _)
   simp only [spec_Unsqueeze.l1]
   rw [if_pos (by omega), if_pos (by omega)]
theorem spec_round {a : Cy} {b : List Int} {i : Nat} {out : List Cy} {R : List Cy × Bool} (ha : CyOk a) (h : BIn b) (h0 : i < b.length) (hl : b.length ≤ 4800) (hm : ¬ at_ (b.drop i) 0 > 15) (hn : (D a (b.drop i)).2 ≠ 0) (ho : out.length ≠ 1200)
  (hc : CyOk (D a (b.drop i)).1) (hR : Ev (fun k => spec_Unsqueeze.l1 k b out i (D a (b.drop i)).2 (sq a (D a (b.drop i)).1) 0 (D a (b.drop i)).1.f0 (D a (b.drop i)).1.f1 (D a (b.drop i)).1.f2) R) :
  Ev (fun k => spec_Unsqueeze.l0 k b out i a.f0 a.f1 a.f2) R := by
 have e := spec_read_ev ha h h0 hl
 rw [if_neg hm] at e
 refine spec_l0_read h0 e ?_
 have e1 : (if ((D a (b.drop i)).2 : Int) = 0 then true else ((out.length : Int) == 1200)) = false := by
  rw [if_neg (by omega)]
  simp
  omega
 simp only [e1]
 refine Ev.step (fun k => by simp only [spec_Unsqueeze.j1, Bool.false_eq_true, if_false]; rfl) ?_
 exact Ev.bind (Ev.step (fun k => spec_one a _ ha hc k) (Ev.now _)) hR
theorem bin_drop {b : List Int} (h : BIn b) (i : Nat) : BIn (b.drop i) := fun x hx => h x (List.mem_of_mem_drop hx)
theorem spec_yes {b : List Int} (h : BIn b) (hl : b.length ≤ 4800) : ∀ (L out : List Cy) (i : Nat) (a : Cy), CyOk a → (∀ x ∈ L, CyOk x) → out.length + L.length ≤ 1200 → i ≤ b.length → b.drop i = sqFrom a L → Ev (fun k => spec_Unsqueeze.l0 k b out i a.f0 a.f1 a.f2) (out ++ L, true)
 | [], out, i, a, ha, hL, ho, hi, hb => by
  have hlen : (b.drop i).length = 0 := by rw [hb]; rfl
  rw [List.length_drop] at hlen
  refine Ev.step (f := fun _ => some (out, true)) (fun k => ?_) (by simp only [List.append_nil]; exact Ev.now _)
  simp only [spec_Unsqueeze.l0]
  rw [if_neg (by omega)]
 | c :: L, out, i, a, ha, hL, ho, hi, hb => by
  have hc := hL c (by simp)
  simp only [sqFrom] at hb
  simp only [List.length_cons] at ho
  have hs := sq_len a c
  have hlen : (b.drop i).length = (sq a c).length + (sqFrom c L).length := by rw [hb]; simp
  rw [List.length_drop] at hlen
  have hD : D a (b.drop i) = (c, (sq a c).length) := by rw [hb]; exact D_sq ha hc _
  have hm : ¬ at_ (b.drop i) 0 > 15 := by
   have := sq_head a c (sqFrom c L)
   rw [hb]
   omega
  have hb2 : b.drop (i + (sq a c).length) = sqFrom c L := by
   rw [← List.drop_drop, hb]
   simp
  have ih := spec_yes h hl L (out ++ [c]) (i + (sq a c).length) c hc (fun x hx => hL x (by simp [hx])) (by simp; omega) (by omega) hb2
  refine spec_round ha h (by omega) hl hm (by rw [hD]; simp only []; omega) (by omega) (by rw [hD]; exact hc) ?_
  rw [hD]
  refine l1_pass hl (by omega) (by omega) (fun j hj => ⟨hj, by rw [hb, at_app hj]⟩) ?_ (sq a c).length 0 (by omega)
  rw [List.append_assoc] at ih
  exact ih
theorem spec_no {b : List Int} (h : BIn b) (hl : b.length ≤ 4800) : ∀ (d i : Nat) (out : List Cy) (a : Cy), b.length - i ≤ d → i ≤ b.length → CyOk a → out.length ≤ 1200 → (¬ ∃ L : List Cy, (∀ x ∈ L, CyOk x) ∧ out.length + L.length ≤ 1200 ∧ b.drop i = sqFrom a L) → Ev (fun k => spec_Unsqueeze.l0 k b out i a.f0 a.f1 a.f2) ([], false) := by
 intro d
 induction d with
 | zero =>
  intro i out a hd hi ha ho hno
  exact absurd ⟨[], by simp, by simpa using ho, by simp [sqFrom]; omega⟩ hno
 | succ d ih =>
  intro i out a hd hi ha ho hno
  by_cases hlt : i < b.length
  ·by_cases hf : at_ (b.drop i) 0 > 15 ∨ (D a (b.drop i)).2 = 0 ∨ out.length = 1200
   ·exact spec_fail ha h hlt hl hf
   ·have f1 : ¬ at_ (b.drop i) 0 > 15 := fun x => hf (Or.inl x)
    have f2 : (D a (b.drop i)).2 ≠ 0 := fun x => hf (Or.inr (Or.inl x))
    have f3 : out.length ≠ 1200 := fun x => hf (Or.inr (Or.inr x))
    rcases D_ok ha (bin_drop h i) with hz | ⟨c1, c2, c3, c4⟩
    ·exact absurd hz.1 f2
    ·rw [List.length_drop] at c3
     refine spec_round ha h hlt hl f1 f2 f3 c1 ?_
     by_cases hall : ∀ j, j < (D a (b.drop i)).2 → j < (sq a (D a (b.drop i)).1).length ∧ at_ (sq a (D a (b.drop i)).1) j = at_ (b.drop i) j
     ·have hn : (sq a (D a (b.drop i)).1).length = (D a (b.drop i)).2 := by
       rw [c4, ← sq_len_head]
       exact dLen_head (hall 0 (by omega)).2
      refine l1_pass hl (by omega) (by omega) hall ?_ _ 0 (Nat.zero_add _)
      refine ih _ _ _ (by omega) (by omega) c1 (by simp; omega) (fun ⟨L, l1, l2, l3⟩ => hno ⟨(D a (b.drop i)).1 :: L, ?_, ?_, ?_⟩)
      ·intro x hx
       rcases List.mem_cons.1 hx with rfl | hx
       ·exact c1
       ·exact l1 x hx
      ·simp only [List.length_append, List.length_cons, List.length_nil] at l2 ⊢
       omega
      ·simp only [sqFrom]
       rw [← l3, ← hn, ← List.drop_drop]
       exact split_at (by rw [List.length_drop]; omega) (fun j hj => (hall j (by omega)).2)
     ·refine l1_stop hl (by omega) _ 0 (Nat.zero_add _) ?_
      refine Classical.byContradiction (fun hx => hall (fun j hj => Classical.byContradiction (fun hy => hx ⟨j, by omega, hj, hy⟩)))
  ·exact ih i out a (by omega) hi ha ho hno
def fin (b : List Int) (M : List Cy) (k : Nat) : Option (List Cy × Bool) := (impl_Squeeze.f k M).bind fun t => (bytes_Equal.f t b).bind fun e => if e = true then some (M, true) else some ([], false)
theorem impl_end {b : List Int} {out : List Cy} {a : Cy} {R : List Cy × Bool} (h : Ev (fin b out) R) : Ev (fun k => impl_Unsqueeze.l0 k b out [] a.f0 a.f1 a.f2) R := by
 refine Ev.step (fun k => ?_) h
 simp only [impl_Unsqueeze.l0, fin]
 rw [if_neg (by simp)]
theorem impl_read_ev {a : Cy} {s : List Int} (ha : CyOk a) (h : BIn s) (h0 : 0 < s.length) (hl : s.length ≤ 4800) : Ev (fun k => impl_unsqueeze.f k a.f0 a.f1 a.f2 s) ((D a s).1.f0, (D a s).1.f1, (D a s).1.f2, ((D a s).2 : Int)) := by
 refine ⟨2, fun k hk => ?_⟩
 obtain ⟨j, rfl⟩ : ∃ j, k = j + 2 := ⟨k - 2, by omega⟩
 exact impl_unsq ha h h0 hl j
theorem impl_fail {a : Cy} {b s : List Int} {out : List Cy} (ha : CyOk a) (h : BIn s) (h0 : 0 < s.length) (hl : s.length ≤ 4800) (hz : (D a s).2 = 0) : Ev (fun k => impl_Unsqueeze.l0 k b out s a.f0 a.f1 a.f2) ([], false) :=
 Ev.thru (impl_read_ev ha h h0 hl) (f := fun _ => some ([], false)) (fun k hk => by
  simp only [impl_Unsqueeze.l0]
  rw [if_pos (by omega), hk, Option.bind_some, if_pos (by simp only []; omega)]) (Ev.now _)
theorem impl_round {a : Cy} {b s : List Int} {out : List Cy} {R : List Cy × Bool} (ha : CyOk a) (h : BIn s) (h0 : 0 < s.length) (hl : s.length ≤ 4800) (hz : (D a s).2 ≠ 0) (hle : (D a s).2 ≤ s.length) (ho : out.length ≤ 4800)
  (hR : Ev (fun k => impl_Unsqueeze.l0 k b (out ++ [(D a s).1]) (s.drop (D a s).2) (D a s).1.f0 (D a s).1.f1 (D a s).1.f2) R) : Ev (fun k => impl_Unsqueeze.l0 k b out s a.f0 a.f1 a.f2) R :=
 Ev.thru (impl_read_ev ha h h0 hl) (fun k hk => by
  simp only [impl_Unsqueeze.l0]
  rw [if_pos (by omega), hk, Option.bind_some, if_neg (by simp only []; omega), if_pos (by omega), if_pos (by simp only []; omega), if_pos (by simp only []; omega)]
  simp only [Int.toNat_natCast]) hR
theorem impl_yes {b : List Int} {R : List Cy × Bool} : ∀ (L out : List Cy) (a : Cy), CyOk a → (∀ x ∈ L, CyOk x) → out.length + L.length ≤ 1200 → (sqFrom a L).length ≤ 4800 → BIn (sqFrom a L) → Ev (fin b (out ++ L)) R → Ev (fun k => impl_Unsqueeze.l0 k b out (sqFrom a L) a.f0 a.f1 a.f2) R
 | [], out, a, ha, hL, ho, hs, hB, hR => by
  rw [List.append_nil] at hR
  exact impl_end hR
 | c :: L, out, a, ha, hL, ho, hs, hB, hR => by
  have hc := hL c (by simp)
  have hq := sq_len a c
  have hD : D a (sqFrom a (c :: L)) = (c, (sq a c).length) := D_sq ha hc _
  have hlen : (sqFrom a (c :: L)).length = (sq a c).length + (sqFrom c L).length := by simp [sqFrom]
  have hd : (sqFrom a (c :: L)).drop (sq a c).length = sqFrom c L := by simp [sqFrom]
  simp only [List.length_cons] at ho
  refine impl_round ha hB (by omega) hs (by rw [hD]; simp only []; omega) (by rw [hD]; simp only []; omega) (by omega) ?_
  rw [hD]
  simp only [hd]
  refine impl_yes L (out ++ [c]) c hc (fun x hx => hL x (by simp [hx])) (by simp; omega) (by omega) (by rw [← hd]; exact bin_drop hB _) ?_
  rw [List.append_assoc]
  exact hR
theorem impl_any {b : List Int} : ∀ (d : Nat) (s : List Int) (out : List Cy) (a : Cy), s.length ≤ d → CyOk a → BIn s → out.length + s.length ≤ 4800 → (∀ x ∈ out, CyOk x) →
  Ev (fun k => impl_Unsqueeze.l0 k b out s a.f0 a.f1 a.f2) ([], false) ∨ ∃ M : List Cy, (∀ x ∈ M, CyOk x) ∧ ∀ R, Ev (fin b M) R → Ev (fun k => impl_Unsqueeze.l0 k b out s a.f0 a.f1 a.f2) R := by
 intro d
 induction d with
 | zero =>
  intro s out a hd ha hB ho hout
  obtain rfl : s = [] := List.eq_nil_of_length_eq_zero (by omega)
  exact Or.inr ⟨out, hout, fun R hR => impl_end hR⟩
 | succ d ih =>
  intro s out a hd ha hB ho hout
  by_cases h0 : 0 < s.length
  ·rcases D_ok ha hB with hz | ⟨c1, c2, c3, c4⟩
   ·exact Or.inl (impl_fail ha hB h0 (by omega) hz.1)
   ·have key := ih (s.drop (D a s).2) (out ++ [(D a s).1]) (D a s).1 (by rw [List.length_drop]; omega) c1 (bin_drop hB _) (by rw [List.length_drop, List.length_append]; simp only [List.length_cons, List.length_nil]; omega) (by
     intro x hx
     rcases List.mem_append.1 hx with hx | hx
     ·exact hout x hx
     ·rw [List.mem_singleton.1 hx]
      exact c1)
    rcases key with key | ⟨M, m1, m2⟩
    ·exact Or.inl (impl_round ha hB h0 (by omega) (by omega) c3 (by omega) key)
    ·exact Or.inr ⟨M, m1, fun R hR => impl_round ha hB h0 (by omega) (by omega) c3 (by omega) (m2 R hR)⟩
  ·obtain rfl : s = [] := List.eq_nil_of_length_eq_zero (by omega)
   exact Or.inr ⟨out, hout, fun R hR => impl_end hR⟩
theorem sqFrom_in : ∀ (L : List Cy) (a : Cy), (∀ x ∈ L, CyOk x) → BIn (sqFrom a L)
 | [], a, h => fun x hx => by simp [sqFrom] at hx
 | c :: L, a, h => by
  intro x hx
  simp only [sqFrom] at hx
  rcases List.mem_append.1 hx with hx | hx
  ·exact sq_in (h c (by simp)) x hx
  ·exact sqFrom_in L c (fun y hy => h y (by simp [hy])) x hx
theorem fin_short {b : List Int} {M : List Cy} (hb : BIn b) (hM : ∀ x ∈ M, CyOk x) (hl : M.length ≤ 1200) : Ev (fin b M) (if sqFrom zc M = b then (M, true) else ([], false)) := by
 have h := impl_squeeze_ev M hl hM
 rw [sqTo_all] at h
 unfold fin
 refine Ev.bind h ?_
 simp only [bytes_eq (sqFrom_in M zc hM) hb, Option.bind_some]
 by_cases e : sqFrom zc M = b
 ·simp only [e, decide_true, if_true]
  exact Ev.now _
 ·simp only [e, decide_false, Bool.false_eq_true, if_false]
  exact Ev.now _
theorem fin_long {b : List Int} {M : List Cy} (hb : BIn b) (hne : b ≠ []) (hl : 1200 < M.length) : Ev (fin b M) ([], false) := by
 have h : Ev (fun k => impl_Squeeze.f k M) [] := by
  refine Ev.congr (fun k => ?_) (Ev.now _)
  unfold impl_Squeeze.f
  rw [if_pos (by omega)]
 unfold fin
 refine Ev.bind h ?_
 have e : ¬ ([] : List Int) = b := fun e => hne e.symm
 simp only [bytes_eq (show ∀ x ∈ ([] : List Int), 0 ≤ x ∧ x < 256 from fun x hx => by simp at hx) hb, Option.bind_some, e, decide_false, Bool.false_eq_true, if_false]
 exact Ev.now _
theorem unsq_what (b : List Int) (hb : BIn b) : ∃ (R : List Cy) (ok : Bool), Ev (fun k => spec_Unsqueeze.f k b) (R, ok) ∧ Ev (fun k => impl_Unsqueeze.f k b) (R, ok) ∧ (ok = true → R.length ≤ 1200 ∧ (∀ x ∈ R, CyOk x) ∧ b = sqFrom zc R) ∧ (ok = false → R = []) := by
 by_cases hl : b.length ≤ 4800
 ·have s0 : ∀ k, spec_Unsqueeze.f k b = spec_Unsqueeze.l0 k b [] ((0 : Nat) : Int) zc.f0 zc.f1 zc.f2 := fun k => by
   unfold spec_Unsqueeze.f
   simp only [Option.bind_some]
   rw [if_neg (by omega)]
   rfl
  have m0 : ∀ k, impl_Unsqueeze.f k b = impl_Unsqueeze.l0 k b [] b zc.f0 zc.f1 zc.f2 := fun k => by
   unfold impl_Unsqueeze.f
   rw [if_neg (by omega)]
   rfl
  by_cases hyes : ∃ L : List Cy, (∀ x ∈ L, CyOk x) ∧ L.length ≤ 1200 ∧ b = sqFrom zc L
  ·obtain ⟨L, l1, l2, l3⟩ := hyes
   refine ⟨L, true, Ev.congr s0 ?_, Ev.congr m0 ?_, fun _ => ⟨l2, l1, l3⟩, fun h => (by cases h)⟩
   ·exact spec_yes hb hl L [] 0 zc zc_ok l1 (by simpa using l2) (by omega) (by simpa using l3)
   ·have hf := fin_short hb l1 l2
    rw [if_pos l3.symm] at hf
    have := impl_yes (b := b) L [] zc zc_ok l1 (by simpa using l2) (by rw [← l3]; exact hl) (by rw [← l3]; exact hb) (by simpa using hf)
    rw [← l3] at this
    exact this
  ·refine ⟨[], false, Ev.congr s0 ?_, Ev.congr m0 ?_, fun h => (by cases h), fun _ => rfl⟩
   ·exact spec_no hb hl b.length 0 [] zc (by omega) (by omega) zc_ok (by simp) (fun ⟨L, l1, l2, l3⟩ => hyes ⟨L, l1, by simpa using l2, by simpa using l3⟩)
   ·have hne : b ≠ [] := fun e => hyes ⟨[], by simp, by simp, by simp [sqFrom, e]⟩
    rcases impl_any (b := b) b.length b [] zc (by omega) zc_ok hb (by simpa using hl) (by simp) with h | ⟨M, m1, m2⟩
    ·exact h
    ·refine m2 _ ?_
     by_cases hM : M.length ≤ 1200
     ·have hf := fin_short hb m1 hM
      rw [if_neg (fun e => hyes ⟨M, m1, hM, e.symm⟩)] at hf
      exact hf
     ·exact fin_long hb hne (by omega)
 ·refine ⟨[], false, Ev.congr (fun k => ?_) (Ev.now _), Ev.congr (fun k => ?_) (Ev.now _), fun h => (by cases h), fun _ => rfl⟩
  ·unfold spec_Unsqueeze.f
   simp only [Option.bind_some]
   rw [if_pos (by omega)]
  ·unfold impl_Unsqueeze.f
   rw [if_pos (by omega)]
end Go.Proofs.Ytnoelppkcbelcaa.MSH
