/-
Listing: what the program's lines are.
-/
import Derived.Test.YtlglpolokcnlhaaDoorMKx2
import Derived.Test.YtlglpolokcnlhaaDoorMKx3
import Derived.Test.YtlglpolokcnlhaaDoorMKx9
import Derived.Test.YtlglpolokcnlhaaDoorKListSameI
set_option linter.unusedSimpArgs false
set_option linter.unusedVariables false
namespace Go.Proofs.YtlglpolokcnlhaaDoor.MKS
open Go.RowKit Go.Proofs.YtlglpolokcnlhaaDoor.MK Go.Proofs.YtlglpolokcnlhaaDoorW.PrintWords Go.Proofs.YtlglpolokcnlhaaDoorW.PrintLast Go.Proofs.YtlglpolokcnlhaaDoor.Lst Go.Proofs.YtlglpolokcnlhaaDoor.MKO Go.Proofs.YtlglpolokcnlhaaDoor.MKH

theorem ird {l : List Int} (h : ∀ x ∈ l, 0 ≤ x ∧ x < 256) (i : Nat) : Go.RowKit.wrap64 (rd l (i : Int)) = (((rd l (i : Int)).toNat : Nat) : Int) := by
  obtain ⟨a, b⟩ := rd_nat h i
  rw [wrap_in (by omega) (by omega)]
  exact a
theorem rd_cut (l : List Int) (p n q : Nat) (hq : q < n) : rd ((l.take (p + n)).drop p) (q : Int) = rd l ((p + q : Nat) : Int) := by
  unfold rd
  rw [Int.toNat_natCast, Int.toNat_natCast, List.getD_eq_getElem?_getD, List.getD_eq_getElem?_getD, List.getElem?_drop, List.getElem?_take, if_pos (by omega)]
theorem rep_ev (n : Nat) (hn : n ≤ 100) : strings_Repeat.f (⟨#[32]⟩ : ByteArray) (n : Int) = some (sp n) := by
  unfold strings_Repeat.f Giv.rep
  rw [if_pos ⟨by omega, by omega, by rw [c1]; omega⟩, Int.toNat_natCast, rep_sp]
theorem impl_l1 (l : List Int) (pc : Int) (hb : ∀ x ∈ l, 0 ≤ x ∧ x < 256) (acc : List ByteArray) (hacc : acc.length < 1000000) (p n : Nat) (hn : n ≤ 3) (hpn : p + n ≤ l.length) (hlen : l.length ≤ 1000000) (text : ByteArray) (ht : text.size ≤ 24) {R : List ByteArray} : ∀ (d q : Nat) (x : ByteArray), q + d = n → x.size = 5 + 3 * q →
    Ev (fun k => impl_Listing.l0 k l pc (acc ++ [(addB l p d q x ++ sp (15 - (5 + 3 * n))) ++ text]) ((p + n : Nat) : Int)) R → Ev (fun k => impl_Listing.l1 k l pc acc (p : Int) (n : Int) text x ((l.take (p + n)).drop p) (n : Int) (q : Int)) R
  | 0, q, x, hq, hx, h => by
    have w : Go.RowKit.wrap64 (15 - (x.size : Int)) = ((15 - (5 + 3 * n) : Nat) : Int) := by rw [wrap_in (by omega) (by omega)]; omega
    have wp : Go.RowKit.wrap64 ((p : Int) + (n : Int)) = ((p + n : Nat) : Int) := by rw [wrap_in (by omega) (by omega)]; omega
    have s1 := sp_size (15 - (5 + 3 * n))
    refine Ev.step (fun k => ?_) h
    simp only [impl_Listing.l1, addB, w, wp, rep_ev _ (show 15 - (5 + 3 * n) ≤ 100 by omega), Option.bind_some]
    clear w wp
    rw [if_neg (by omega), if_pos (by omega), if_pos (by rw [ByteArray.size_append]; omega), if_pos (by omega)]
  | d + 1, q, x, hq, hx, h => by
    have ih := impl_l1 l pc hb acc hacc p n hn hpn hlen text ht d (q + 1) (x ++ ((⟨#[32]⟩ : ByteArray) ++ hx2 (rd l ((p + q : Nat) : Int)).toNat)) (by omega) (by rw [ByteArray.size_append, ByteArray.size_append, c1, hx2_size]; omega) h
    have wq := w1 (i := q) (by omega)
    refine Ev.step (f := fun k => (impl_HexText.f k (((rd l ((p + q : Nat) : Int)).toNat : Nat) : Int) ((2 : Nat) : Int)).bind fun t280 => if 1 + t280.size ≤ 9223372036854775807 then (if x.size + ((⟨#[32]⟩ : ByteArray) ++ t280).size ≤ 9223372036854775807 then impl_Listing.l1 k l pc acc (p : Int) (n : Int) text (x ++ ((⟨#[32]⟩ : ByteArray) ++ t280)) ((l.take (p + n)).drop p) (n : Int) ((q + 1 : Nat) : Int) else none) else none) (fun k => ?_) (Ev.bind (impl_hex (by omega) (by omega) (by have := (rd_nat hb (p + q)).2; omega)) ?_)
    · simp only [impl_Listing.l1, wq, rd_cut l p n q (show q < n by omega), ird hb (p + q)]
      clear wq
      rw [if_pos (by omega), if_pos (by omega), if_pos (by rw [List.length_drop, List.length_take]; omega)]
      rfl
    · have hs : (strOfNums (hexL 2 (rd l ((p + q : Nat) : Int)).toNat)).size = 2 := hx2_size _
      have g1 : 1 + (strOfNums (hexL 2 (rd l ((p + q : Nat) : Int)).toNat)).size ≤ 9223372036854775807 := by omega
      have g2 : x.size + ((⟨#[32]⟩ : ByteArray) ++ strOfNums (hexL 2 (rd l ((p + q : Nat) : Int)).toNat)).size ≤ 9223372036854775807 := by rw [ByteArray.size_append, c1]; omega
      simp only [g1, g2, if_true]
      exact ih
theorem impl_jl (l : List Int) (pc : Int) (hb : ∀ x ∈ l, 0 ≤ x ∧ x < 256) (hlen : l.length ≤ 1000000) (acc : List ByteArray) (hacc : acc.length < 1000000) (p n : Nat) (hn : n ≤ 3) (hpn : p + n ≤ l.length) (text : ByteArray) (ht : text.size ≤ 24) {R : List ByteArray}
    (h : Ev (fun k => impl_Listing.l0 k l pc (acc ++ [lineOf l pc p n text]) ((p + n : Nat) : Int)) R) : Ev (fun k => impl_Listing.j1 k l pc acc (p : Int) (P pc p) (n : Int) text) R := by
  have hP := P_range pc p
  have wP : Go.RowKit.wrap64 (P pc p) = (((P pc p).toNat : Nat) : Int) := by rw [wrap_in (by omega) (by omega)]; omega
  have wp : Go.RowKit.wrap64 ((p : Int) + (n : Int)) = ((p + n : Nat) : Int) := by rw [wrap_in (by omega) (by omega)]; omega
  have hcl : (((l.take (p + n)).drop p).length : Int) = (n : Int) := by rw [List.length_drop, List.length_take]; omega
  refine Ev.step (f := fun k => (impl_HexText.f k (((P pc p).toNat : Nat) : Int) ((4 : Nat) : Int)).bind fun t277 => if t277.size + 1 ≤ 9223372036854775807 then impl_Listing.l1 k l pc acc (p : Int) (n : Int) text (t277 ++ (⟨#[58]⟩ : ByteArray)) ((l.take (p + n)).drop p) (n : Int) 0 else none) (fun k => ?_) (Ev.bind (impl_hex (by omega) (by omega) (by clear wP wp; omega)) ?_)
  · simp only [impl_Listing.j1, wP, wp]
    clear wP wp
    congr 1
    funext t277
    by_cases c : t277.size + 1 ≤ 9223372036854775807
    · rw [if_pos c, if_pos c, if_pos (by omega), if_pos (by omega), if_pos (by omega), Int.toNat_natCast, Int.toNat_natCast, hcl]
    · rw [if_neg c, if_neg c]
  · have g : (strOfNums (hexL 4 (P pc p).toNat)).size + 1 ≤ 9223372036854775807 := by rw [hx4_size]; omega
    simp only [g, if_true]
    clear wP wp
    refine impl_l1 l pc hb acc hacc p n hn hpn hlen text ht n 0 (hd pc p) (by omega) (by rw [hd_size]) ?_
    exact h
theorem impl_list (l : List Int) (pc : Int) (hp : 0 ≤ pc ∧ pc < 65536) (hb : ∀ x ∈ l, 0 ≤ x ∧ x < 256) (hlen : l.length ≤ 1000000) : ∀ (d p : Nat) (acc : List ByteArray), l.length ≤ p + d → p ≤ l.length → acc.length ≤ p → Ev (fun k => impl_Listing.l0 k l pc acc (p : Int)) (acc ++ listL l pc d p)
  | 0, p, acc, h1, h2, h3 => by
    refine Ev.step (f := fun _ => some acc) (fun k => ?_) (by simpa [listL] using Ev.now acc)
    simp only [impl_Listing.l0]
    rw [if_neg (by omega)]
  | d + 1, p, acc, h1, h2, h3 => by
    by_cases c : p < l.length
    · obtain ⟨n1, n2, n3⟩ := n_bounds l p c
      have ih := impl_list l pc hp hb hlen d (p + nOf l p) (acc ++ [lineOf l pc p (nOf l p) (tOf l pc p)]) (by omega) n3 (by simp; omega)
      have e : acc ++ listL l pc (d + 1) p = (acc ++ [lineOf l pc p (nOf l p) (tOf l pc p)]) ++ listL l pc d (p + nOf l p) := by
        rw [listL, if_pos c]
        simp
      rw [e]
      have fin := impl_jl l pc hb hlen acc (by omega) p (nOf l p) n2 n3 (tOf l pc p) (t_size l pc hb p) ih
      have hd := bytes_drop hb p
      have q := rd_nat hb p
      have hw : Ev (fun k => impl_isWhole.f k (l.drop p)) (decide (isW l p)) := by
        have := whole_ev (l.drop p) hd
        exact this
      refine Ev.step (f := fun k => (impl_HexText.f k (((rd l (p : Int)).toNat : Nat) : Int) ((2 : Nat) : Int)).bind fun t270 => if 7 + t270.size ≤ 9223372036854775807 then ((impl_isWhole.f k (l.drop p)).bind fun t272 => if t272 = true then ((impl_SizeOf.f k (((rd l (p : Int)).toNat : Nat) : Int)).bind fun t274 => (impl_ShowOp.f k (l.drop p) (P pc p)).bind fun t276 => impl_Listing.j1 k l pc acc (p : Int) (P pc p) t274 t276) else impl_Listing.j1 k l pc acc (p : Int) (P pc p) 1 ((⟨#[46, 98, 121, 116, 101, 32, 36]⟩ : ByteArray) ++ t270)) else none) (fun k => ?_) (Ev.bind (impl_hex (by omega) (by omega) (by omega)) ?_)
      · simp only [impl_Listing.l0, ird hb p]
        rw [if_pos (by omega), if_pos (by omega)]
        congr 1
        funext t270
        by_cases g : 7 + t270.size ≤ 9223372036854775807
        · rw [if_pos g, if_pos g, if_pos (by omega), Int.toNat_natCast, ← q.1]
          rfl
        · rw [if_neg g, if_neg g]
      · have g : 7 + (strOfNums (hexL 2 (rd l (p : Int)).toNat)).size ≤ 9223372036854775807 := by have : (strOfNums (hexL 2 (rd l (p : Int)).toNat)).size = 2 := hx2_size _; omega
        simp only [g, if_true]
        refine Ev.bind hw ?_
        by_cases w : isW l p
        · have e1 : nOf l p = sz (md (rd l (p : Int)).toNat) := by unfold nOf; rw [if_pos w]
          have e2 : tOf l pc p = showL (l.drop p) (P pc p) := by unfold tOf; rw [if_pos w]
          simp only [w, decide_true, if_true]
          refine Ev.bind (isize_ev q.2) (Ev.bind (impl_show (l.drop p) (P pc p) (P_range pc p) hd) ?_)
          rw [e1, e2] at fin
          rw [e1, e2]
          exact fin
        · have e1 : nOf l p = 1 := by unfold nOf; rw [if_neg w]
          have e2 : tOf l pc p = (⟨#[46, 98, 121, 116, 101, 32, 36]⟩ : ByteArray) ++ hx2 (rd l (p : Int)).toNat := by unfold tOf; rw [if_neg w]
          simp only [w, decide_false, Bool.false_eq_true, if_false]
          rw [e1, e2] at fin
          rw [e1, e2]
          exact fin
    · refine Ev.step (f := fun _ => some acc) (fun k => ?_) (by rw [listL, if_neg c]; simpa using Ev.now acc)
      simp only [impl_Listing.l0]
      rw [if_neg (by omega)]
theorem listL_length (l : List Int) (pc : Int) : ∀ d p, p ≤ l.length → (listL l pc d p).length ≤ d
  | 0, _, _ => Nat.le_refl _
  | d + 1, p, h => by
    rw [listL]
    split
    · rename_i c
      have := listL_length l pc d (p + nOf l p) (n_bounds l p c).2.2
      simp
      omega
    · simp
end Go.Proofs.YtlglpolokcnlhaaDoor.MKS
