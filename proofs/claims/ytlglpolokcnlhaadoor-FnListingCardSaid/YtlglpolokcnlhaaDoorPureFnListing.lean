/-
FnListing: whatever the bytes, what is listed comes back from its listing, assembled where it stood.
-/
import Derived.Test.YtlglpolokcnlhaaDoorMKx5
import Derived.Test.YtlglpolokcnlhaaDoorMKx6
import Derived.Test.YtlglpolokcnlhaaDoorMKx9
import Derived.Test.YtlglpolokcnlhaaDoorMKx10
import Derived.Test.YtlglpolokcnlhaaDoorKListBack
import Derived.Test.YtlglpolokcnlhaaDoorKDrawList
set_option linter.unusedSimpArgs false
set_option linter.unusedVariables false
namespace Go.Proofs.YtlglpolokcnlhaaDoor.Pure
open Go.RowKit Go.Proofs.YtlglpolokcnlhaaDoor.MK Go.Proofs.YtlglpolokcnlhaaDoor.MKL Go.Proofs.YtlglpolokcnlhaaDoor.MKV Go.Proofs.YtlglpolokcnlhaaDoor.MKD Go.Proofs.YtlglpolokcnlhaaDoor.MKH Go.Proofs.YtlglpolokcnlhaaDoor.MKO Go.Proofs.YtlglpolokcnlhaaDoorW.PrintWords Go.Proofs.YtlglpolokcnlhaaDoorW.PrintLast Go.Proofs.YtlglpolokcnlhaaDoor.Lst
open Go.Proofs.YtlglpolokcnlhaaDoor.MKS (sz tg tOf nOf isW n_bounds P P_range hx2 bytes_drop rd_drop showL listL lineOf addB addB_size hd hd_size t_size sp_size hx2_size c1 c3)

theorem app_cut (A t : ByteArray) : (A ++ t).extract A.size (A ++ t).size = t := by
  obtain ⟨a, rfl⟩ : ∃ a, A = BA a := ⟨_, BA_data A⟩
  obtain ⟨b, rfl⟩ : ∃ b, t = BA b := ⟨_, BA_data t⟩
  have e : BA a ++ BA b = BA (a ++ b) := by apply ByteArray.ext; simp
  rw [e, cut_list, size_list, size_list, List.drop_left', List.take_of_length_le (by rw [List.length_append]; omega)]
  rfl
theorem line_cut (l : List Int) (pc : Int) (p n : Nat) (hn : n ≤ 3) (t : ByteArray) : (lineOf l pc p n t).size = 15 + t.size ∧ (lineOf l pc p n t).extract 15 (lineOf l pc p n t).size = t := by
  have hA : (addB l p n 0 (hd pc p) ++ Go.Proofs.YtlglpolokcnlhaaDoor.MKS.sp (15 - (5 + 3 * n))).size = 15 := by
    rw [ByteArray.size_append, addB_size, hd_size, sp_size]
    omega
  unfold lineOf
  have h := app_cut (addB l p n 0 (hd pc p) ++ Go.Proofs.YtlglpolokcnlhaaDoor.MKS.sp (15 - (5 + 3 * n))) t
  rw [hA] at h
  exact ⟨by rw [ByteArray.size_append, hA], h⟩
theorem text_three (l : List Int) (hb : ∀ x ∈ l, 0 ≤ x ∧ x < 256) (pc : Int) (p : Nat) : 3 ≤ (tOf l pc p).size := by
  have hz : (tOf l pc p).size = (tOf l pc p).data.toList.length := by rw [Array.length_toList]; rfl
  unfold tOf at hz ⊢
  by_cases hw : isW l p
  · rw [if_pos hw] at hz ⊢
    obtain ⟨i, hi, r0, hm, hn, hzz⟩ := place l hb p hw
    have hst := show_take (l.drop p) (P pc p) i r0 hm hzz
    have hl : ((l.drop p).take (sz (md i))).length = sz (md i) := by rw [List.length_take]; omega
    have hs : 0 < sz (md i) := by
      rcases modes hm with h | h | h | h | h | h | h | h | h | h | h | h | h <;> rw [h] <;> decide
    have h0 : rd ((l.drop p).take (sz (md i))) 0 = (i : Int) := by
      rw [← r0]
      unfold rd
      rw [List.getD_eq_getElem?_getD, List.getD_eq_getElem?_getD, List.getElem?_take, if_pos (by show 0 < _; exact hs)]
    have hsh := show_shape i hi hm _ hl h0 (P pc p)
    rw [hst] at hsh
    rw [hsh, List.length_append] at hz
    have hname := name_all ⟨i, hi⟩
    simp only at hname
    rcases hname with ⟨h, _⟩ | ⟨_, _, h, _⟩
    · omega
    · omega
  · rw [if_neg hw] at hz ⊢
    rw [ByteArray.size_append, hx2_size]
    decide
/-- The texts with what stands behind each. -/
def bodyL (l : List Int) (pc : Int) (d p : Nat) : List UInt8 := ((textsL l pc d p).map (fun t => t ++ E7 ++ [10])).flatten
theorem law_loop (l : List Int) (hb : ∀ x ∈ l, 0 ≤ x ∧ x < 256) (hlen : l.length ≤ 1024) (pc : Int) (LS : List ByteArray) (hLS : LS.length ≤ 1024) : ∀ (d p i : Nat) (T : List UInt8), LS.drop i = listL l pc d p → l.length ≤ p + d → p ≤ l.length → T ++ bodyL l pc d p = bodyL l pc l.length 0 → T.length ≤ 32 * i → i ≤ 2000 →
    Ev (fun k => laws_FnListing.l0 k l pc LS (BA T) (i : Int)) true
  | d, p, i, T, h1, h2, h3, h4, h5, h6 => by
    by_cases c : p < l.length
    · match d, h1, h2, h4 with
      | 0, h1, h2, h4 => omega
      | d + 1, h1, h2, h4 =>
        obtain ⟨n1, n2, n3⟩ := n_bounds l p c
        rw [listL, if_pos c] at h1
        have hi : i < LS.length := by
          have : (LS.drop i).length ≠ 0 := by rw [h1]; simp
          rw [List.length_drop] at this
          omega
        have hd := List.drop_eq_getElem_cons hi
        rw [h1] at hd
        have hd' := List.cons.inj hd
        have hrd : rdOf ByteArray.empty LS (i : Int) = lineOf l pc p (nOf l p) (tOf l pc p) := by
          unfold rdOf
          rw [Int.toNat_natCast, List.getD_eq_getElem?_getD, List.getElem?_eq_getElem hi, hd'.1]
          rfl
        obtain ⟨z1, z2⟩ := line_cut l pc p (nOf l p) n2 (tOf l pc p)
        rw [z1] at z2
        have t3 := text_three l hb pc p
        have t24 := t_size l pc hb p
        obtain ⟨t, ht⟩ : ∃ t, tOf l pc p = BA t := ⟨_, BA_data _⟩
        have htz : (tOf l pc p).size = t.length := by rw [ht, size_list]
        have htd : (tOf l pc p).data.toList = t := by rw [ht]
        have hbody : bodyL l pc (d + 1) p = t ++ E7 ++ [10] ++ bodyL l pc d (p + nOf l p) := by
          unfold bodyL
          rw [textsL, if_pos c, List.map_cons, List.flatten_cons, htd]
        have ih := law_loop l hb hlen pc LS hLS d (p + nOf l p) (i + 1) (T ++ t ++ E7 ++ [10]) hd'.2.symm (by omega) n3 (by rw [← h4, hbody]; simp) (by
          have e7 : E7.length = 7 := rfl
          have e1 : ([10] : List UInt8).length = 1 := rfl
          rw [List.length_append, List.length_append, List.length_append, e7, e1]
          omega) (by omega)
        have zT : (BA T).size = T.length := size_list T
        have cat : (BA T ++ tOf l pc p) ++ (⟨#[32, 59, 32, 115, 97, 105, 100, 10]⟩ : ByteArray) = BA (T ++ t ++ E7 ++ [10]) := by
          rw [ht]
          apply ByteArray.ext
          simp
        have g0 : ¬ ((15 + (tOf l pc p).size : Nat) : Int) < 18 := by omega
        have g1 : (15 : Int) ≤ ((15 + (tOf l pc p).size : Nat) : Int) := by omega
        have g2 : (BA T).size + (tOf l pc p).size ≤ 9223372036854775807 := by rw [zT]; omega
        have g3 : (BA T ++ tOf l pc p).size + 8 ≤ 9223372036854775807 := by rw [ByteArray.size_append, zT]; omega
        have g4 : (i : Int) < (LS.length : Int) := by omega
        have g5 : (0 : Int) ≤ (i : Int) := by omega
        have i63 : i < 9223372036854775807 := by omega
        refine Ev.step (fun k => ?_) ih
        have w := w1 i63
        simp only [laws_FnListing.l0, hrd, z2, z1, if_pos g4, if_pos g5, if_neg g0, if_pos g1, if_pos g2, if_pos g3, cat, w]
    · have e : listL l pc d p = [] := by
        cases d with
        | zero => rfl
        | succ d => rw [listL, if_neg c]
      have e2 : bodyL l pc d p = [] := by
        unfold bodyL
        cases d with
        | zero => rfl
        | succ d => rw [textsL, if_neg c]; rfl
      rw [e] at h1
      rw [e2, List.append_nil] at h4
      have hi : ¬ (i : Int) < (LS.length : Int) := by
        have : (LS.drop i).length = 0 := by rw [h1]; rfl
        rw [List.length_drop] at this
        omega
      have hz : ((BA T).size : Int) = (T.length : Int) := by rw [size_list]
      have hs := sameBytes_ev l (by omega)
      refine Ev.step (f := fun k => (impl_Assemble.f k (BA T) pc).bind fun bt412 => (if ((BA T).size : Int) > 20000 then (some true) else (if bt412.2 = 0 then ((laws_sameBytes.f k bt412.1 l).bind fun t416 => (some t416)) else (some false)))) (fun k => by simp only [laws_FnListing.l0, if_neg hi]) ?_
      by_cases g : (T.length : Int) > 20000
      · have ha : Ev (fun k => impl_Assemble.f k (BA T) pc) ([], 1) := by
          unfold impl_Assemble.f
          simp only [hz, if_pos g]
          exact Ev.now _
        refine Ev.bind ha ?_
        simp only [hz, if_pos g]
        exact Ev.now _
      · have ha := asm_text l hb hlen pc T h4 (by omega)
        refine Ev.bind ha ?_
        simp only [hz, if_neg g, if_true]
        refine Ev.bind hs ?_
        exact Ev.now _
theorem draw_list (L : List Int) (hL : (L.length : Int) < 4611686018427387904) : ∃ (l : List Int) (pc : Int), Ev (fun k => spec_DrawListing.f k L) (l, pc) ∧ (∀ x ∈ l, 0 ≤ x ∧ x < 256) ∧ (0 ≤ pc ∧ pc < 65536) ∧ l.length ≤ 2000 := by
  obtain ⟨s, hs⟩ := new_ok L hL
  obtain ⟨v, p0, s0, e0, hv, hp0⟩ := below_ok L 0 s 8 (at_zero L hL) (by decide)
  obtain ⟨⟨l, p1, s1⟩, e1, hx, hlen, hp1⟩ := bytesN_ok L v.toNat (by omega) p0 s0 hp0
  have ev : ((v.toNat : Nat) : Int) = v := by omega
  rw [ev] at e1
  obtain ⟨q, p2, s2, e2, hp2⟩ := once_ok L p1 s1 20 hp1 (by decide)
  by_cases c : q = true
  · obtain ⟨m, p3, s3, e3, hm, hp3⟩ := below_ok L p2 s2 3 hp2 (by decide)
    obtain ⟨pc, p4, s4, e4, hpc, _⟩ := pc_ok L p3 s3 hp3
    have g1 : 0 ≤ 1023 + m := by omega
    have g2 : (1023 + m).toNat ≤ 281474976710656 := by omega
    have g3 : (List.replicate (1023 + m).toNat (0 : Int)).length ≤ 2000 := by rw [List.length_replicate]; omega
    have lo : -9223372036854775808 ≤ 1023 + m := by omega
    have hi : 1023 + m ≤ 9223372036854775807 := by omega
    refine ⟨List.replicate (1023 + m).toNat 0, pc, ?_, fun x h => ?_, hpc, g3⟩
    · unfold spec_DrawListing.f
      refine Ev.bind hs ?_
      simp only [e0, Option.bind_some]
      refine Ev.bind e1 ?_
      have w := wrap_in lo hi
      simp only [e2, Option.bind_some, if_pos c, e3, w, if_pos g1, if_pos g2, e4]
      exact Ev.now _
    · have := (List.mem_replicate.mp h).2
      omega
  · obtain ⟨pc, p4, s4, e4, hpc, _⟩ := pc_ok L p2 s2 hp2
    refine ⟨l, pc, ?_, hx, hpc, by have : l.length ≤ 100 := hlen; omega⟩
    unfold spec_DrawListing.f
    refine Ev.bind hs ?_
    simp only [e0, Option.bind_some]
    refine Ev.bind e1 ?_
    simp only [e2, Option.bind_some, if_neg c, e4]
    exact Ev.now _
theorem FnListing : laws_FnListing.Pure := by
  intro l0 hlen _ hw
  refine Ev.rounds (g := fun k => laws_FnListing.f k l0) ?_
  unfold laws_FnListing.f laws_big.f
  simp only [Option.bind_some]
  by_cases c : (l0.length : Int) > 1048576
  · simp only [decide_eq_true c, if_true]
    exact Ev.now _
  · simp only [decide_eq_false c, Bool.false_eq_true, if_false]
    obtain ⟨l, pc, hd, hx, hp, hl⟩ := draw_list l0 (by omega)
    refine Ev.bind hd ?_
    by_cases g : (l.length : Int) > 1024
    · have hi : Ev (fun k => impl_Listing.f k l pc) [] := by
        unfold impl_Listing.f
        simp only [if_pos g]
        exact Ev.now _
      refine Ev.bind hi ?_
      simp only [if_pos g]
      exact Ev.now _
    · have hi : Ev (fun k => impl_Listing.f k l pc) (listL l pc l.length 0) := by
        have h := Go.Proofs.YtlglpolokcnlhaaDoor.MKS.impl_list l pc hp hx (by omega) l.length 0 [] (by omega) (by omega) (by simp)
        unfold impl_Listing.f
        simp only [if_neg g]
        simpa using h
      have hLS := Go.Proofs.YtlglpolokcnlhaaDoor.MKS.listL_length l pc l.length 0 (by omega)
      refine Ev.bind hi ?_
      simp only [if_neg g]
      exact law_loop l hx (by omega) pc (listL l pc l.length 0) (by omega) l.length 0 0 [] rfl (by omega) (by omega) (by simp) (by simp) (by omega)
end Go.Proofs.YtlglpolokcnlhaaDoor.Pure
