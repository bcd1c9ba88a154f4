/-
A listing's texts, assembled where they stood, are the bytes that were listed.
-/
import Derived.Test.YtlglpolokcnlhaaDoorMKx5
import Derived.Test.YtlglpolokcnlhaaDoorKAsmStep
import Derived.Test.YtlglpolokcnlhaaDoorKListImplI
set_option linter.unusedSimpArgs false
set_option linter.unusedVariables false
namespace Go.Proofs.YtlglpolokcnlhaaDoor.MKL
open Go.RowKit Go.Proofs.YtlglpolokcnlhaaDoor.MK Go.Proofs.YtlglpolokcnlhaaDoor.MKV Go.Proofs.YtlglpolokcnlhaaDoor.MKH Go.Proofs.YtlglpolokcnlhaaDoor.MKO Go.Proofs.YtlglpolokcnlhaaDoorW.PrintWords Go.Proofs.YtlglpolokcnlhaaDoorW.PrintLast Go.Proofs.YtlglpolokcnlhaaDoor.Lst
open Go.Proofs.YtlglpolokcnlhaaDoor.MKS (sz tg tOf nOf isW n_bounds P P_range hx2 bytes_drop rd_drop showL rd_nat)

/-- Bytes of which a word may be. -/
def plain (b : UInt8) : Bool := !(blank b) && b != 59 && b != 10
theorem plain_is {b : UInt8} (h : plain b = true) : blank b = false ∧ b ≠ 59 ∧ b ≠ 10 := by
  unfold plain at h
  simp at h
  exact ⟨h.1.1, h.1.2, h.2⟩
/-- A text of one word or two. -/
def okT (t : List UInt8) : Prop := ∃ u v : List UInt8, u ≠ [] ∧ (∀ b ∈ u, plain b = true) ∧ (t = u ∨ (v ≠ [] ∧ (∀ b ∈ v, plain b = true) ∧ t = u ++ 32 :: v))
/-- What stands behind a text in its line. -/
abbrev E7 : List UInt8 := [32, 59, 32, 115, 97, 105, 100]
theorem ahead_of (a r : List UInt8) (h : ∀ b ∈ a, b ≠ 59) : ahead (a ++ 59 :: r) = a := by
  unfold ahead
  induction a with
  | nil => simp
  | cons x a ih =>
    have hx : (x != 59) = true := by simpa using h x (by simp)
    rw [List.cons_append, List.takeWhile_cons, if_pos hx, ih (fun b hb => h b (by simp [hb]))]
theorem ls_of (a r : List UInt8) : ∀ cur : List UInt8, (∀ b ∈ a, b ≠ 10) → ls cur (a ++ 10 :: r) = (cur ++ a) :: ls [] r := by
  induction a with
  | nil => intro cur _; simp [ls]
  | cons x a ih =>
    intro cur h
    have hx : x ≠ 10 := h x (by simp)
    have := ih (cur ++ [x]) (fun b hb => h b (by simp [hb]))
    simp only [List.cons_append, ls, if_neg hx]
    rw [this]
    simp
theorem wd_one (u : List UInt8) (hu : u ≠ []) (h : ∀ b ∈ u, plain b = true) (r : List UInt8) : wd [] (u ++ 32 :: r) = u :: wd [] r := by
  rw [wd_chunk u [] (32 :: r) (fun b hb => (plain_is (h b hb)).1), List.nil_append]
  have hb : blank 32 = true := rfl
  simp only [wd, hb, if_true, if_neg hu]
theorem tx_of (t : List UInt8) (h : okT t) : tx (t ++ E7) = t := by
  obtain ⟨u, v, hu, pu, h⟩ := h
  rcases h with rfl | ⟨hv, pv, rfl⟩
  · have e : ahead (t ++ E7) = t ++ [32] := by
      have := ahead_of (t ++ [32]) [32, 115, 97, 105, 100] (fun b hb => by
        rcases List.mem_append.mp hb with h | h
        · exact (plain_is (pu b h)).2.1
        · simp at h
          rw [h]
          decide)
      rw [← this]
      simp
    unfold tx
    rw [e, wd_one t hu pu []]
    simp [wd, Lib.join_one]
  · have e : ahead ((u ++ 32 :: v) ++ E7) = u ++ 32 :: (v ++ [32]) := by
      have := ahead_of (u ++ 32 :: (v ++ [32])) [32, 115, 97, 105, 100] (fun b hb => by
        rcases List.mem_append.mp hb with h | h
        · exact (plain_is (pu b h)).2.1
        · rcases List.mem_cons.mp h with h | h
          · rw [h]
            decide
          · rcases List.mem_append.mp h with h | h
            · exact (plain_is (pv b h)).2.1
            · simp at h
              rw [h]
              decide)
      rw [← this]
      simp
    unfold tx
    rw [e, wd_one u hu pu, wd_one v hv pv []]
    simp [wd, Lib.join_cons, Lib.joinTail]
theorem okT_ten (t : List UInt8) (h : okT t) : ∀ b ∈ t ++ E7, b ≠ 10 := by
  obtain ⟨u, v, hu, pu, h⟩ := h
  intro b hb
  have hE : ∀ b ∈ E7, b ≠ 10 := by decide
  rcases List.mem_append.mp hb with hb | hb
  · rcases h with rfl | ⟨hv, pv, rfl⟩
    · exact (plain_is (pu b hb)).2.2
    · rcases List.mem_append.mp hb with hb | hb
      · exact (plain_is (pu b hb)).2.2
      · rcases List.mem_cons.mp hb with hb | hb
        · rw [hb]
          decide
        · exact (plain_is (pv b hb)).2.2
  · exact hE b hb
/-- The text's lines are the texts, each with what stands behind it. -/
theorem ls_body : ∀ (ts : List (List UInt8)), (∀ t ∈ ts, okT t) → ls [] ((ts.map (fun t => t ++ E7 ++ [10])).flatten) = ts.map (fun t => t ++ E7)
  | [], _ => rfl
  | t :: ts, h => by
    have ih := ls_body ts (fun x hx => h x (by simp [hx]))
    have := ls_of (t ++ E7) ((ts.map (fun t => t ++ E7 ++ [10])).flatten) [] (okT_ten t (h t (by simp)))
    simp only [List.map_cons, List.flatten_cons, List.append_assoc, List.cons_append, List.nil_append] at this ih ⊢
    rw [this, ih]
theorem dgb_plain : ∀ j : Fin 16, plain (dgb j.val) = true := by decide +kernel
set_option maxRecDepth 100000 in
theorem name_plain : ∀ i : Fin 256, (nm i.val).data.toList.all plain = true := by decide +kernel
theorem TB_ok (m : Int) (hm : 0 ≤ m ∧ m ≤ 12) (b1 b2 t : Nat) : TB m b1 b2 t = [] ∨ ∃ v, v ≠ [] ∧ (∀ b ∈ v, plain b = true) ∧ TB m b1 b2 t = 32 :: v := by
  have q := q_lt m b1 b2 t
  have p0 := dgb_plain ⟨_, q.1⟩
  have p1 := dgb_plain ⟨_, q.2.1⟩
  have p2 := dgb_plain ⟨_, q.2.2.1⟩
  have p3 := dgb_plain ⟨_, q.2.2.2⟩
  simp only at p0 p1 p2 p3
  unfold TB
  generalize dgb (q0 m b1 b2 t) = a at p0 ⊢
  generalize dgb (q1 m b1 b2 t) = b at p1 ⊢
  generalize dgb (q2 m b1 t) = c at p2 ⊢
  generalize dgb (q3 m b1 t) = d at p3 ⊢
  have c65 : plain 65 = true := by decide
  have c35 : plain 35 = true := by decide
  have c36 : plain 36 = true := by decide
  have c44 : plain 44 = true := by decide
  have c88 : plain 88 = true := by decide
  have c89 : plain 89 = true := by decide
  have c40 : plain 40 = true := by decide
  have c41 : plain 41 = true := by decide
  rcases modes hm with rfl | rfl | rfl | rfl | rfl | rfl | rfl | rfl | rfl | rfl | rfl | rfl | rfl
  · left; rfl
  all_goals
    right
    exact ⟨_, by simp, by simp [p0, p1, p2, p3, c65, c35, c36, c44, c88, c89, c40, c41], rfl⟩
theorem show_of (l : List Int) (pc : Int) (i : Nat) (h0 : rd l 0 = (i : Int)) (hm : 0 ≤ md i ∧ md i ≤ 12) (hz : sz (md i) ≤ l.length) : showL l pc = if md i = 0 then nm i else (nm i ++ ⟨#[32]⟩) ++ Go.Proofs.YtlglpolokcnlhaaDoor.MKS.opnd (md i) (rd l 1).toNat (rd l 2).toNat (tg pc (rd l 1).toNat) := by
  have hs : sz (md i) ≠ 0 := by
    rcases modes hm with h | h | h | h | h | h | h | h | h | h | h | h | h <;> rw [h] <;> decide
  unfold showL
  rw [if_neg (show ¬ l.length = 0 by omega)]
  simp only [h0, Int.toNat_natCast]
  rw [if_neg hs, if_neg (show ¬ l.length < sz (md i) by omega)]
/-- The text of an operation depends on its own bytes alone. -/
theorem show_take (l : List Int) (pc : Int) (i : Nat) (h0 : rd l 0 = (i : Int)) (hm : 0 ≤ md i ∧ md i ≤ 12) (hz : sz (md i) ≤ l.length) : showL (l.take (sz (md i))) pc = showL l pc := by
  have rdt : ∀ k : Nat, k < sz (md i) → rd (l.take (sz (md i))) (k : Int) = rd l (k : Int) := fun k hk => by
    unfold rd
    rw [Int.toNat_natCast, List.getD_eq_getElem?_getD, List.getD_eq_getElem?_getD, List.getElem?_take, if_pos hk]
  have hs : 0 < sz (md i) := by
    rcases modes hm with h | h | h | h | h | h | h | h | h | h | h | h | h <;> rw [h] <;> decide
  have r0 := rdt 0 hs
  have e0 : rd (l.take (sz (md i))) 0 = (i : Int) := by rw [← h0]; exact r0
  have hl : (l.take (sz (md i))).length = sz (md i) := by rw [List.length_take]; omega
  rw [show_of (l.take (sz (md i))) pc i e0 hm (by omega), show_of l pc i h0 hm hz]
  by_cases c : md i = 0
  · rw [if_pos c, if_pos c]
  · rw [if_neg c, if_neg c]
    by_cases c1 : md i = 1
    · rw [c1]
      rfl
    · have h2 : 2 ≤ sz (md i) := by
        have : md i = 2 ∨ md i = 3 ∨ md i = 4 ∨ md i = 5 ∨ md i = 6 ∨ md i = 7 ∨ md i = 8 ∨ md i = 9 ∨ md i = 10 ∨ md i = 11 ∨ md i = 12 := by omega
        rcases this with h | h | h | h | h | h | h | h | h | h | h <;> rw [h] <;> decide
      have r1 : rd (l.take (sz (md i))) 1 = rd l 1 := rdt 1 (by omega)
      rw [r1]
      by_cases c2 : 6 ≤ md i ∧ md i ≤ 9
      · have h3 : 3 ≤ sz (md i) := by
          have : md i = 6 ∨ md i = 7 ∨ md i = 8 ∨ md i = 9 := by omega
          rcases this with h | h | h | h <;> rw [h] <;> decide
        have r2 : rd (l.take (sz (md i))) 2 = rd l 2 := rdt 2 (by omega)
        rw [r2]
      · have : md i = 2 ∨ md i = 3 ∨ md i = 4 ∨ md i = 5 ∨ md i = 10 ∨ md i = 11 ∨ md i = 12 := by omega
        rcases this with h | h | h | h | h | h | h <;> rw [h] <;> rfl
/-- What is known of a place in the bytes. -/
theorem place (l : List Int) (hb : ∀ x ∈ l, 0 ≤ x ∧ x < 256) (p : Nat) (hw : isW l p) : ∃ i : Nat, i < 256 ∧ rd (l.drop p) 0 = (i : Int) ∧ (0 ≤ md i ∧ md i ≤ 12) ∧ nOf l p = sz (md i) ∧ sz (md i) ≤ (l.drop p).length := by
  obtain ⟨r0, q0⟩ := rd_nat (bytes_drop hb p) 0
  obtain ⟨i, hi0⟩ : ∃ i, (rd (l.drop p) (0 : Int)).toNat = i := ⟨_, rfl⟩
  have r0' : rd (l.drop p) 0 = (i : Int) := by rw [← hi0]; exact r0
  have hi : i < 256 := by rw [← hi0]; exact q0
  have hw' := hw
  unfold isW at hw'
  rw [hi0] at hw'
  have hn : nOf l p = sz (md i) := by
    unfold nOf
    rw [if_pos hw, ← rd_drop, r0', Int.toNat_natCast]
  refine ⟨i, hi, r0', ?_, hn, hw'.2.2⟩
  have h := name_all ⟨i, hi⟩
  simp only at h
  rcases h with ⟨h, _⟩ | ⟨h, h', _⟩
  · rw [h] at hw'
    exact absurd rfl hw'.2.1
  · exact ⟨h, h'⟩
theorem text_ok (l : List Int) (hb : ∀ x ∈ l, 0 ≤ x ∧ x < 256) (pc : Int) (p : Nat) : okT (tOf l pc p).data.toList := by
  unfold tOf
  by_cases hw : isW l p
  · rw [if_pos hw]
    obtain ⟨i, hi, r0, hm, hn, hz⟩ := place l hb p hw
    have hst := show_take (l.drop p) (P pc p) i r0 hm hz
    rw [← hst]
    have hl : ((l.drop p).take (sz (md i))).length = sz (md i) := by rw [List.length_take]; omega
    have hs : 0 < sz (md i) := by
      rcases modes hm with h | h | h | h | h | h | h | h | h | h | h | h | h <;> rw [h] <;> decide
    have h0 : rd ((l.drop p).take (sz (md i))) 0 = (i : Int) := by
      rw [← r0]
      unfold rd
      rw [List.getD_eq_getElem?_getD, List.getD_eq_getElem?_getD, List.getElem?_take, if_pos (by show 0 < _; exact hs)]
    rw [show_shape i hi hm _ hl h0 (P pc p)]
    have hname := name_all ⟨i, hi⟩
    have hpl := name_plain ⟨i, hi⟩
    simp only at hname hpl
    have hn3 : (nm i).data.toList.length = 3 := by
      rcases hname with ⟨h, _⟩ | ⟨_, _, h, _⟩
      · omega
      · exact h
    have hne : (nm i).data.toList ≠ [] := fun e => by rw [e] at hn3; exact absurd hn3 (by decide)
    rcases TB_ok (md i) hm (rd ((l.drop p).take (sz (md i))) 1).toNat (rd ((l.drop p).take (sz (md i))) 2).toNat (tg (P pc p) (rd ((l.drop p).take (sz (md i))) 1).toNat) with e | ⟨v, hv, pv, e⟩
    · rw [e, List.append_nil]
      exact ⟨_, [], hne, fun b hb => List.all_eq_true.mp hpl b hb, Or.inl rfl⟩
    · rw [e]
      exact ⟨_, v, hne, fun b hb => List.all_eq_true.mp hpl b hb, Or.inr ⟨hv, pv, rfl⟩⟩
  · rw [if_neg hw]
    have p0 := dgb_plain ⟨(rd l (p : Int)).toNat / 16 % 16, by omega⟩
    have p1 := dgb_plain ⟨(rd l (p : Int)).toNat % 16, by omega⟩
    simp only at p0 p1
    refine ⟨[46, 98, 121, 116, 101], [36, dgb ((rd l (p : Int)).toNat / 16 % 16), dgb ((rd l (p : Int)).toNat % 16)], by simp, by decide, Or.inr ⟨by simp, ?_, ?_⟩⟩
    · intro b hb
      simp at hb
      rcases hb with h | h | h
      · rw [h]; decide
      · rw [h]; exact p0
      · rw [h]; exact p1
    · unfold hx2
      rw [two_digits]
      simp
theorem line_back (l : List Int) (hb : ∀ x ∈ l, 0 ≤ x ∧ x < 256) (pc : Int) (p : Nat) (hp : p < l.length) (ln : List UInt8) (hln : ln.length ≤ 1000) (ht : tx ln = (tOf l pc p).data.toList) :
    Ev (fun k => impl_lineBytes.f k (BA ln) (P pc p)) ((l.drop p).take (nOf l p), true) := by
  obtain ⟨i1, i2, i3⟩ := impl_line ln (by omega) (P pc p)
  have hok := text_ok l hb pc p
  rw [← ht] at hok
  have hne : ¬ tx ln = [] := fun e => by
    obtain ⟨u, v, hu, _, h⟩ := hok
    rcases h with h | ⟨_, _, h⟩
    · rw [e] at h; exact hu h.symm
    · rw [e] at h
      exact absurd h (by simp)
  by_cases hw : isW l p
  · obtain ⟨i, hi, r0, hm, hn, hz⟩ := place l hb p hw
    have hst := show_take (l.drop p) (P pc p) i r0 hm hz
    have hl : ((l.drop p).take (sz (md i))).length = sz (md i) := by rw [List.length_take]; omega
    have hs : 0 < sz (md i) := by
      rcases modes hm with h | h | h | h | h | h | h | h | h | h | h | h | h <;> rw [h] <;> decide
    have h0 : rd ((l.drop p).take (sz (md i))) 0 = (i : Int) := by
      rw [← r0]
      unfold rd
      rw [List.getD_eq_getElem?_getD, List.getD_eq_getElem?_getD, List.getElem?_take, if_pos (by show 0 < _; exact hs)]
    have hbt : ∀ x ∈ (l.drop p).take (sz (md i)), 0 ≤ x ∧ x < 256 := fun x hx => bytes_drop hb p x (List.mem_of_mem_take hx)
    have et : tOf l pc p = showL ((l.drop p).take (sz (md i))) (P pc p) := by unfold tOf; rw [if_pos hw, hst]
    have hsh := show_shape i hi hm _ hl h0 (P pc p)
    have hname := name_all ⟨i, hi⟩
    simp only at hname
    have hn3 : (nm i).data.toList.length = 3 := by
      rcases hname with ⟨h, _⟩ | ⟨_, _, h, _⟩
      · omega
      · exact h
    have h3 : 3 ≤ (tx ln).length := by rw [ht, et, hsh, List.length_append]; omega
    have n7 : ¬ (tx ln).take 7 = P7 := fun e => by
      have hh := dot_all ⟨i, hi⟩
      simp only at hh
      have hd : (tx ln).head? = some 46 := by
        cases hq : tx ln with
        | nil => exact absurd hq hne
        | cons a q =>
          rw [hq] at e
          have := List.cons.inj e
          rw [this.1]
          rfl
      apply hh
      rw [ht, et, hsh] at hd
      generalize (nm i).data.toList = q at hn3 hd
      match q, hn3 with
      | [a, b, c], _ => simpa using hd
    have bk := back (tx ln) h3 (P pc p) (P_range pc p) i hi hm _ hl h0 hbt (by rw [ht, et])
    rw [hn]
    refine i3 hne n7 _ ?_
    have htl := tx_le ln
    refine impl_num _ ⟨h3, by omega⟩ (P pc p) _ ?_
    rw [← bk]
    exact Ev.step (fun k => by simp only [impl_ReadOp.j0]; rfl) (impl_search _ h3 _ (P pc p) (P_range pc p) 13 0 rfl)
  · have hn : nOf l p = 1 := by unfold nOf; rw [if_neg hw]
    obtain ⟨rb, qb⟩ := rd_nat hb p
    have et : tx ln = [46, 98, 121, 116, 101, 32, 36, dgb ((rd l (p : Int)).toNat / 16 % 16), dgb ((rd l (p : Int)).toNat % 16)] := by
      rw [ht]
      unfold tOf
      rw [if_neg hw]
      unfold hx2
      rw [two_digits]
      simp
    have e7 : (tx ln).take 7 = P7 := by rw [et]; rfl
    have d7 : BA ((tx ln).drop 7) = ⟨#[dgb ((rd l (p : Int)).toNat / 16 % 16), dgb ((rd l (p : Int)).toNat % 16)]⟩ := by rw [et]; rfl
    have hv := rh_two ⟨(rd l (p : Int)).toNat / 16 % 16, by omega⟩ ⟨(rd l (p : Int)).toNat % 16, by omega⟩
    simp only at hv
    have h2 := i2 hne e7
    rw [d7, hv] at h2
    have e1 : (16 * (((rd l (p : Int)).toNat / 16 % 16 : Nat) : Int) + (((rd l (p : Int)).toNat % 16 : Nat) : Int)) = rd l (p : Int) := by omega
    rw [e1, decide_eq_true (by omega)] at h2
    have e2 : rd l (p : Int) % 256 = rd l (p : Int) := by omega
    have e3 : (l.drop p).take 1 = [rd l (p : Int)] := by
      rw [List.drop_eq_getElem_cons hp]
      unfold rd
      rw [Int.toNat_natCast, List.getD_eq_getElem?_getD, List.getElem?_eq_getElem hp]
      rfl
    rw [hn, e3, ← e2]
    rw [e2] at h2 ⊢
    exact h2
/-- The texts of a listing, from a place on. -/
def textsL (l : List Int) (pc : Int) : Nat → Nat → List (List UInt8)
  | 0, _ => []
  | d + 1, p => if p < l.length then (tOf l pc p).data.toList :: textsL l pc d (p + nOf l p) else []
theorem textsL_ok (l : List Int) (hb : ∀ x ∈ l, 0 ≤ x ∧ x < 256) (pc : Int) : ∀ (d p : Nat), ∀ t ∈ textsL l pc d p, okT t
  | 0, _, t, h => absurd h (by simp [textsL])
  | d + 1, p, t, h => by
    unfold textsL at h
    split at h
    · rcases List.mem_cons.mp h with h | h
      · rw [h]
        exact text_ok l hb pc p
      · exact textsL_ok l hb pc d (p + nOf l p) t h
    · exact absurd h (by simp)
theorem asm_list (l : List Int) (hb : ∀ x ∈ l, 0 ≤ x ∧ x < 256) (hlen : l.length ≤ 1024) (pc : Int) (LN : List (List UInt8)) (hLN : LN.length ≤ 1000000) : ∀ (d p j : Nat), l.length ≤ p + d → p ≤ l.length → LN.drop j = (textsL l pc d p).map (fun t => t ++ E7) →
    Ev (fun k => impl_Assemble.l0 k pc (l.take p) (LN.map BA) (LN.length : Int) (j : Int)) (l, 0)
  | d, p, j, h1, h2, h3 => by
    by_cases c : p < l.length
    · match d, h1, h3 with
      | 0, h1, h3 => omega
      | d + 1, h1, h3 =>
        obtain ⟨n1, n2, n3⟩ := n_bounds l p c
        rw [textsL, if_pos c, List.map_cons] at h3
        have hj : j < LN.length := by
          have : (LN.drop j).length ≠ 0 := by rw [h3]; simp
          rw [List.length_drop] at this
          omega
        have hd := List.drop_eq_getElem_cons hj
        rw [h3] at hd
        have hd' := List.cons.inj hd
        obtain ⟨ln, hl⟩ : ∃ ln, LN[j] = ln := ⟨_, rfl⟩
        have hlt := Go.Proofs.YtlglpolokcnlhaaDoor.MKS.t_size l pc hb p
        have hlt2 : (tOf l pc p).data.toList.length ≤ 24 := by rw [Array.length_toList]; exact hlt
        have eln : ln = (tOf l pc p).data.toList ++ E7 := by rw [← hl, ← hd'.1]
        have hlb := line_back l hb pc p c ln (by rw [eln, List.length_append]; simp; omega) (by rw [eln, tx_of _ (text_ok l hb pc p)])
        have hrd : rdOf ByteArray.empty (LN.map BA) (j : Int) = BA ln := by
          unfold rdOf
          rw [Int.toNat_natCast, List.getD_eq_getElem?_getD, List.getElem?_map, List.getElem?_eq_getElem hj, hl]
          rfl
        have ih := asm_list l hb hlen pc LN hLN d (p + nOf l p) (j + 1) (by omega) n3 hd'.2.symm
        have hlp : (l.take p).length = p := by rw [List.length_take]; omega
        have hln : ((l.drop p).take (nOf l p)).length = nOf l p := by rw [List.length_take, List.length_drop]; omega
        have hcat : l.take p ++ (l.drop p).take (nOf l p) = l.take (p + nOf l p) := by rw [List.take_add]
        have hP : IntKind.u16.wrap (pc + (IntKind.u16.wrap (((l.take p).length : Int)))) = P pc p := by rw [hlp]; rfl
        have g1 : ¬ ((p + nOf l p : Nat) : Int) > 1024 := by omega
        have g2 : (l.take p).length + ((l.drop p).take (nOf l p)).length < 140737488355328 := by rw [hlp, hln]; omega
        have lo1 : -9223372036854775808 ≤ ((l.take p).length : Int) + (((l.drop p).take (nOf l p)).length : Int) := by omega
        have hi1 : ((l.take p).length : Int) + (((l.drop p).take (nOf l p)).length : Int) ≤ 9223372036854775807 := by rw [hlp, hln]; omega
        have cast : ((l.take p).length : Int) + (((l.drop p).take (nOf l p)).length : Int) = ((p + nOf l p : Nat) : Int) := by rw [hlp, hln]; omega
        have j63 : j < 9223372036854775807 := by omega
        refine Ev.step (f := fun k => (impl_lineBytes.f k (BA ln) (P pc p)).bind fun bt378 => (if bt378.2 = true then (if (wrap64 (((l.take p).length : Int) + (bt378.1.length : Int))) > 1024 then (some (([] : List Int), wrap64 ((j : Int) + 1))) else (if (l.take p).length + bt378.1.length < 140737488355328 then (impl_Assemble.l0 k pc (l.take p ++ bt378.1) (LN.map BA) (LN.length : Int) (wrap64 ((j : Int) + 1))) else (none))) else (some (([] : List Int), wrap64 ((j : Int) + 1))))) (fun k => ?_) ?_
        · simp only [impl_Assemble.l0, hrd, List.length_map, hP]
          rw [if_pos (by omega), if_pos (by omega), if_pos (by omega)]
        · refine Ev.bind hlb ?_
          have wo := (wrap_in lo1 hi1).trans cast
          have w := w1 j63
          simp only [if_true, wo, w, if_neg g1, if_pos g2, hcat]
          exact ih
    · have e : textsL l pc d p = [] := by
        cases d with
        | zero => rfl
        | succ d => rw [textsL, if_neg c]
      rw [e, List.map_nil] at h3
      have hj : LN.length ≤ j := by
        have : (LN.drop j).length = 0 := by rw [h3]; rfl
        rw [List.length_drop] at this
        omega
      have hpl : l.take p = l := List.take_of_length_le (by omega)
      rw [hpl]
      refine Ev.step (f := fun _ => some (l, 0)) (fun k => ?_) (Ev.now _)
      simp only [impl_Assemble.l0]
      rw [if_neg (by omega)]
/-- A listing's text, assembled. -/
theorem asm_text (l : List Int) (hb : ∀ x ∈ l, 0 ≤ x ∧ x < 256) (hlen : l.length ≤ 1024) (pc : Int) (T : List UInt8) (hT : T = ((textsL l pc l.length 0).map (fun t => t ++ E7 ++ [10])).flatten) (hl : T.length ≤ 20000) : Ev (fun k => impl_Assemble.f k (BA T) pc) (l, 0) := by
  have hz : ((BA T).size : Int) = (T.length : Int) := by rw [size_list]
  have hlines := impl_lines T (by omega)
  have hls : ls [] T = (textsL l pc l.length 0).map (fun t => t ++ E7) := by rw [hT]; exact ls_body _ (textsL_ok l hb pc l.length 0)
  have hll := ls_len T []
  have h := asm_list l hb hlen pc (ls [] T) (by omega) l.length 0 0 (by omega) (by omega) (by rw [hls]; rfl)
  unfold impl_Assemble.f
  simp only [hz, if_neg (show ¬ (T.length : Int) > 20000 by omega), hlines, Option.bind_some, List.length_map]
  exact h
end Go.Proofs.YtlglpolokcnlhaaDoor.MKL
