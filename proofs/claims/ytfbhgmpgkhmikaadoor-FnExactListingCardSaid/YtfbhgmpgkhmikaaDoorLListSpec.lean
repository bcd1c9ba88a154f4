/-
Listing: what the reference's lines are.
-/
import Derived.Test.YtfbhgmpgkhmikaaDoorMLx3
import Derived.Test.YtfbhgmpgkhmikaaDoorMLx4
import Derived.Test.YtfbhgmpgkhmikaaDoorMLx5
import Derived.Test.YtfbhgmpgkhmikaaDoorLListSame
set_option linter.unusedSimpArgs false
set_option linter.unusedVariables false
namespace Go.Proofs.YtfbhgmpgkhmikaaDoor.MLS
open Go.RowKit Go.Proofs.YtfbhgmpgkhmikaaDoor.ML Go.Proofs.YtfbhgmpgkhmikaaDoorW.PrintWords Go.Proofs.YtfbhgmpgkhmikaaDoorW.PrintLast Go.Proofs.YtfbhgmpgkhmikaaDoor.Lst Go.Proofs.YtfbhgmpgkhmikaaDoor.MLO Go.Proofs.YtfbhgmpgkhmikaaDoor.MLH

theorem rd_nat' {l : List Int} (h : ∀ x ∈ l, 0 ≤ x ∧ x < 256) (i : Nat) : Go.RowKit.wrap64 (rd l (i : Int)) = (((rd l (i : Int)).toNat : Nat) : Int) := by
  obtain ⟨a, b⟩ := rd_nat h i
  rw [wrap_in (by omega) (by omega)]
  exact a
theorem spec_l2 (l : List Int) (pc : Int) (acc : List ByteArray) (hacc : acc.length < 1000000) (p n : Nat) (hpn : p + n ≤ 100000000) (text : ByteArray) (ht : text.size ≤ 24) {R : List ByteArray} : ∀ (d : Nat) (x : ByteArray), x.size + d = 15 →
    Ev (fun k => spec_Listing.l0 k l pc (acc ++ [(x ++ sp d) ++ text]) ((p + n : Nat) : Int)) R → Ev (fun k => spec_Listing.l2 k l pc acc (p : Int) text (n : Int) x) R
  | 0, x, hx, h => by
    rw [sp_zero, nil_append] at h
    refine Ev.step (fun k => ?_) h
    simp only [spec_Listing.l2]
    rw [if_neg (by omega), if_pos (by omega), if_pos (by omega)]
    congr 1
    rw [wrap_in (by omega) (by omega)]
    omega
  | d + 1, x, hx, h => by
    rw [sp_succ] at h
    have ih := spec_l2 l pc acc hacc p n hpn text ht d (x ++ ⟨#[32]⟩) (by rw [ByteArray.size_append, c1]; omega) h
    refine Ev.step (fun k => ?_) ih
    simp only [spec_Listing.l2]
    rw [if_pos (by omega), if_pos (by omega)]
theorem spec_l1 (l : List Int) (pc : Int) (hb : ∀ x ∈ l, 0 ≤ x ∧ x < 256) (acc : List ByteArray) (p n : Nat) (hpn : p + n ≤ l.length) (hlen : l.length ≤ 100000000) (text : ByteArray) {R : List ByteArray} : ∀ (d q : Nat) (x : ByteArray), q + d = n → x.size ≤ 1000 + 3 * q →
    Ev (fun k => spec_Listing.l2 k l pc acc (p : Int) text (n : Int) (addB l p d q x)) R → Ev (fun k => spec_Listing.l1 k l pc acc (p : Int) text (n : Int) x (q : Int)) R
  | 0, q, x, hq, hx, h => by
    refine Ev.step (fun k => ?_) h
    simp only [spec_Listing.l1, addB]
    rw [if_neg (by omega)]
  | d + 1, q, x, hq, hx, h => by
    have e : (x ++ (⟨#[32]⟩ : ByteArray)) ++ hx2 (rd l ((p + q : Nat) : Int)).toNat = x ++ ((⟨#[32]⟩ : ByteArray) ++ hx2 (rd l ((p + q : Nat) : Int)).toNat) := ByteArray.append_assoc
    have ih := spec_l1 l pc hb acc p n hpn hlen text d (q + 1) (x ++ ((⟨#[32]⟩ : ByteArray) ++ hx2 (rd l ((p + q : Nat) : Int)).toNat)) (by omega) (by rw [ByteArray.size_append, ByteArray.size_append, c1, hx2_size]; omega) h
    have w : Go.RowKit.wrap64 ((p : Int) + (q : Int)) = ((p + q : Nat) : Int) := by rw [wrap_in (by omega) (by omega)]; omega
    have wq := w1 (i := q) (by omega)
    refine Ev.step (f := fun k => (spec_HexText.f k (((rd l ((p + q : Nat) : Int)).toNat : Nat) : Int) ((2 : Nat) : Int)).bind fun t206 => if (x ++ (⟨#[32]⟩ : ByteArray)).size + t206.size ≤ 9223372036854775807 then spec_Listing.l1 k l pc acc (p : Int) text (n : Int) ((x ++ (⟨#[32]⟩ : ByteArray)) ++ t206) ((q + 1 : Nat) : Int) else none) (fun k => ?_) (Ev.bind (spec_hex (by omega) (by omega) (by have := (rd_nat hb (p + q)).2; omega)) ?_)
    · simp only [spec_Listing.l1, w, wq, rd_nat' hb (p + q)]
      clear w wq
      rw [if_pos (by omega), if_pos (by omega), if_pos (by omega), if_pos (by omega)]
      rfl
    · have hs : (strOfNums (hexL 2 (rd l ((p + q : Nat) : Int)).toNat)).size = 2 := hx2_size _
      have g : (x ++ (⟨#[32]⟩ : ByteArray)).size + (strOfNums (hexL 2 (rd l ((p + q : Nat) : Int)).toNat)).size ≤ 9223372036854775807 := by rw [ByteArray.size_append, c1]; omega
      simp only [g, if_true]
      rw [← e] at ih
      exact ih
theorem spec_jl (l : List Int) (pc : Int) (hb : ∀ x ∈ l, 0 ≤ x ∧ x < 256) (hlen : l.length ≤ 1000000) (acc : List ByteArray) (hacc : acc.length < 1000000) (p n : Nat) (hn : n ≤ 3) (hpn : p + n ≤ l.length) (text : ByteArray) (ht : text.size ≤ 24) {R : List ByteArray}
    (h : Ev (fun k => spec_Listing.l0 k l pc (acc ++ [lineOf l pc p n text]) ((p + n : Nat) : Int)) R) : Ev (fun k => spec_Listing.j1 k l pc acc (p : Int) (P pc p) text (n : Int)) R := by
  have hP := P_range pc p
  have wP : Go.RowKit.wrap64 (P pc p) = (((P pc p).toNat : Nat) : Int) := by rw [wrap_in (by omega) (by omega)]; omega
  refine Ev.step (f := fun k => (spec_HexText.f k (((P pc p).toNat : Nat) : Int) ((4 : Nat) : Int)).bind fun t204 => if t204.size + 1 ≤ 9223372036854775807 then spec_Listing.l1 k l pc acc (p : Int) text (n : Int) (t204 ++ (⟨#[58]⟩ : ByteArray)) 0 else none) (fun k => ?_) (Ev.bind (spec_hex (by omega) (by omega) (by omega)) ?_)
  · simp only [spec_Listing.j1, wP]
    rfl
  · have g : (strOfNums (hexL 4 (P pc p).toNat)).size + 1 ≤ 9223372036854775807 := by rw [hx4_size]; omega
    simp only [g, if_true]
    refine spec_l1 l pc hb acc p n hpn (by omega) text n 0 (hd pc p) (by omega) (by rw [hd_size]; omega) ?_
    refine spec_l2 l pc acc hacc p n (by omega) text ht (15 - (5 + 3 * n)) _ (by rw [addB_size, hd_size]; omega) ?_
    exact h
theorem spec_list (l : List Int) (pc : Int) (hp : 0 ≤ pc ∧ pc < 65536) (hb : ∀ x ∈ l, 0 ≤ x ∧ x < 256) (hlen : l.length ≤ 1000000) : ∀ (d p : Nat) (acc : List ByteArray), l.length ≤ p + d → p ≤ l.length → acc.length ≤ p → Ev (fun k => spec_Listing.l0 k l pc acc (p : Int)) (acc ++ listL l pc d p)
  | 0, p, acc, h1, h2, h3 => by
    refine Ev.step (f := fun _ => some acc) (fun k => ?_) (by simpa [listL] using Ev.now acc)
    simp only [spec_Listing.l0]
    rw [if_neg (by omega)]
  | d + 1, p, acc, h1, h2, h3 => by
    by_cases c : p < l.length
    · obtain ⟨n1, n2, n3⟩ := n_bounds l p c
      have ih := spec_list l pc hp hb hlen d (p + nOf l p) (acc ++ [lineOf l pc p (nOf l p) (tOf l pc p)]) (by omega) n3 (by simp; omega)
      have e : acc ++ listL l pc (d + 1) p = (acc ++ [lineOf l pc p (nOf l p) (tOf l pc p)]) ++ listL l pc d (p + nOf l p) := by
        rw [listL, if_pos c]
        simp
      rw [e]
      have fin := spec_jl l pc hb hlen acc (by omega) p (nOf l p) n2 n3 (tOf l pc p) (t_size l pc hb p) ih
      have hd := bytes_drop hb p
      have q := rd_nat hb p
      refine Ev.step (f := fun k => (spec_ShowOp.f k (l.drop p) (P pc p)).bind fun t199 => (spec_SizeOf.f k (((rd l (p : Int)).toNat : Nat) : Int)).bind fun t201 => if t199.toList = [] then ((spec_HexText.f k (((rd l (p : Int)).toNat : Nat) : Int) ((2 : Nat) : Int)).bind fun t203 => if 7 + t203.size ≤ 9223372036854775807 then spec_Listing.j1 k l pc acc (p : Int) (P pc p) ((⟨#[46, 98, 121, 116, 101, 32, 36]⟩ : ByteArray) ++ t203) 1 else none) else spec_Listing.j1 k l pc acc (p : Int) (P pc p) t199 t201) (fun k => ?_) (Ev.bind (spec_show (l.drop p) (P pc p) (P_range pc p) hd (by simp; omega)) (Ev.bind (ssize_ev q.2) ?_))
      · simp only [spec_Listing.l0, rd_nat' hb p]
        rw [if_pos (by omega), if_pos (by omega), if_pos (by omega), Int.toNat_natCast, ← q.1]
        rfl
      · have hs := show_nil (l.drop p) (P pc p) hd
        by_cases w : isW l p
        · have w' := w
          unfold isW at w'
          have g : ¬ (showL (l.drop p) (P pc p)).toList = [] := fun h => (hs.1 h) w'
          simp only [g, if_false]
          have e1 : nOf l p = sz (md (rd l (p : Int)).toNat) := by unfold nOf; rw [if_pos w]
          have e2 : tOf l pc p = showL (l.drop p) (P pc p) := by unfold tOf; rw [if_pos w]
          rw [e1, e2] at fin
          rw [e1, e2]
          exact fin
        · have w' := w
          unfold isW at w'
          have g : (showL (l.drop p) (P pc p)).toList = [] := hs.2 w'
          have e1 : nOf l p = 1 := by unfold nOf; rw [if_neg w]
          have e2 : tOf l pc p = (⟨#[46, 98, 121, 116, 101, 32, 36]⟩ : ByteArray) ++ hx2 (rd l (p : Int)).toNat := by unfold tOf; rw [if_neg w]
          simp only [g, if_true]
          refine Ev.bind (spec_hex (by omega) (by omega) (by omega)) ?_
          have g2 : 7 + (strOfNums (hexL 2 (rd l (p : Int)).toNat)).size ≤ 9223372036854775807 := by have : (strOfNums (hexL 2 (rd l (p : Int)).toNat)).size = 2 := hx2_size _; omega
          simp only [g2, if_true]
          rw [e1, e2] at fin
          rw [e1, e2]
          exact fin
    · refine Ev.step (f := fun _ => some acc) (fun k => ?_) (by rw [listL, if_neg c]; simpa using Ev.now acc)
      simp only [spec_Listing.l0]
      rw [if_neg (by omega)]
end Go.Proofs.YtfbhgmpgkhmikaaDoor.MLS
