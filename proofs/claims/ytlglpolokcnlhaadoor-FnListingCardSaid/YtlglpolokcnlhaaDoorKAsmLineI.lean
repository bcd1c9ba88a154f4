/-
Assemble's lines: how the reference and the program part a text into lines, and a line into words, and put the words together again.
-/
import Derived.Test.YtlglpolokcnlhaaDoorMKx1
import Derived.Test.YtlglpolokcnlhaaDoorMKx3
import Derived.Test.YtlglpolokcnlhaaDoorMKx5
import Derived.Test.YtlglpolokcnlhaaDoorKReadOpBothI
import Derived.Lib.SplitLaws
import Derived.Lib.Join
import Derived.Lib.SpaceUEq
import Derived.Lib.FieldsP
set_option linter.unusedSimpArgs false
set_option linter.unusedVariables false
namespace Go.Proofs.YtlglpolokcnlhaaDoor.MKL
open Go.RowKit Go.Proofs.YtlglpolokcnlhaaDoor.MK Go.Proofs.YtlglpolokcnlhaaDoorW.PrintWords Go.Proofs.YtlglpolokcnlhaaDoorW.PrintLast Go.Proofs.YtlglpolokcnlhaaDoor.Lst Go.Proofs.YtlglpolokcnlhaaDoor.MKV

abbrev BA (l : List UInt8) : ByteArray := ⟨l.toArray⟩
theorem BA_data (s : ByteArray) : s = BA s.data.toList := by apply ByteArray.ext; simp
/-- The lines: what stands ahead of it in the line, and what is left. -/
def ls : List UInt8 → List UInt8 → List (List UInt8)
  | cur, [] => if cur = [] then [] else [cur]
  | cur, b :: t => if b = 10 then cur :: ls [] t else ls (cur ++ [b]) t
/-- The pieces between the line ends. -/
def sp : List UInt8 → List UInt8 → List (List UInt8)
  | cur, [] => [cur]
  | cur, b :: t => if b = 10 then cur :: sp [] t else sp (cur ++ [b]) t
theorem ls_len : ∀ (l cur : List UInt8), (ls cur l).length ≤ l.length + 1
  | [], cur => by unfold ls; split <;> simp
  | b :: t, cur => by
    unfold ls
    split
    · have := ls_len t []
      simp; omega
    · have := ls_len t (cur ++ [b])
      simp; omega
theorem ls_size : ∀ (l cur x : List UInt8), x ∈ ls cur l → x.length ≤ cur.length + l.length
  | [], cur, x, h => by
    unfold ls at h
    split at h
    · simp at h
    · simp at h
      rw [h]
      omega
  | b :: t, cur, x, h => by
    unfold ls at h
    split at h
    · rcases List.mem_cons.mp h with h | h
      · rw [h]
        omega
      · have := ls_size t [] x h
        simp at this ⊢
        omega
    · have := ls_size t (cur ++ [b]) x h
      simp at this ⊢
      omega
theorem split_cons_eq (l : List UInt8) : Lib.split (10 :: l) [10] = [] :: Lib.split l [10] := by
  unfold Lib.split
  rw [Lib.count_cons_eq, Nat.add_comm]
  have hi : Lib.index (10 :: l) [10] = 0 := by simp [Lib.index]
  simp only [Lib.splitK, hi]
  rfl
theorem index_cons_ne (b : UInt8) (l : List UInt8) (h : b ≠ 10) : Lib.index (b :: l) [10] = if Lib.index l [10] = -1 then -1 else Lib.index l [10] + 1 := by
  have hb : (10 == b) = false := beq_eq_false_iff_ne.mpr (Ne.symm h)
  simp only [Lib.index]
  rw [if_neg (by simp [List.isPrefixOf, hb])]
  by_cases c : Lib.index l [10] = -1
  · rw [if_pos (by simpa using c), if_pos c]
  · rw [if_neg (by simpa using c), if_neg c]
theorem split_cons_ne (b : UInt8) (l : List UInt8) (h : b ≠ 10) : ∀ (x : List UInt8) (r : List (List UInt8)), Lib.split l [10] = x :: r → Lib.split (b :: l) [10] = (b :: x) :: r := by
  intro x r e
  unfold Lib.split at e ⊢
  rw [Lib.count_cons_ne b 10 l h]
  cases hk : Lib.count l [10] with
  | zero =>
    rw [hk] at e
    simp only [Lib.splitK] at e ⊢
    have e1 := List.cons.inj e
    rw [e1.1, ← e1.2]
  | succ k =>
    rw [hk] at e
    simp only [Lib.splitK] at e ⊢
    rw [index_cons_ne b l h]
    by_cases c : Lib.index l [10] = -1
    · simp only [c, beq_self_eq_true, if_true] at e ⊢
      have e1 := List.cons.inj e
      rw [e1.1, ← e1.2]
    · have hge := Lib.index_ge l [10]
      obtain ⟨i, hi⟩ : ∃ i : Nat, Lib.index l [10] = (i : Int) := ⟨(Lib.index l [10]).toNat, by omega⟩
      have c1 : ¬ ((i : Int) == -1) = true := fun q => by have := beq_iff_eq.mp q; omega
      have c2 : ¬ ((((i : Int) + 1)) == -1) = true := fun q => by have := beq_iff_eq.mp q; omega
      have hidx : (if (i : Int) = -1 then (-1 : Int) else (i : Int) + 1) = (i : Int) + 1 := if_neg (by omega)
      rw [hi] at e
      rw [if_neg c1] at e
      rw [hi, hidx, if_neg c2]
      have e1 := List.cons.inj e
      have t1 : ((i : Int) + 1).toNat = i + 1 := by omega
      rw [t1, ← e1.1, ← e1.2, Int.toNat_natCast]
      rfl
theorem split_ne (l : List UInt8) : ∃ x r, Lib.split l [10] = x :: r := by
  unfold Lib.split
  cases Lib.count l [10] with
  | zero => exact ⟨_, _, rfl⟩
  | succ k =>
    simp only [Lib.splitK]
    split
    · exact ⟨_, _, rfl⟩
    · exact ⟨_, _, rfl⟩
theorem split_sp : ∀ (l cur x : List UInt8) (r : List (List UInt8)), Lib.split l [10] = x :: r → sp cur l = (cur ++ x) :: r
  | [], cur, x, r, h => by
    have : Lib.split [] [10] = [[]] := by decide
    rw [this] at h
    have e := List.cons.inj h
    unfold sp
    rw [← e.1, ← e.2, List.append_nil]
  | b :: t, cur, x, r, h => by
    by_cases c : b = 10
    · subst c
      rw [split_cons_eq] at h
      have e := List.cons.inj h
      obtain ⟨x', r', h'⟩ := split_ne t
      have ih := split_sp t [] x' r' h'
      unfold sp
      rw [if_pos rfl, ih, ← e.1, ← e.2, h']
      simp
    · obtain ⟨x', r', h'⟩ := split_ne t
      have hs := split_cons_ne b t c x' r' h'
      rw [hs] at h
      have e := List.cons.inj h
      have ih := split_sp t (cur ++ [b]) x' r' h'
      unfold sp
      rw [if_neg c, ih, ← e.1, ← e.2]
      simp
theorem sp_pos : ∀ (l cur : List UInt8), 0 < (sp cur l).length
  | [], cur => by simp [sp]
  | b :: t, cur => by
    unfold sp
    split
    · simp
    · exact sp_pos t (cur ++ [b])
/-- The last piece falls away where it is empty. -/
theorem sp_last : ∀ (l cur : List UInt8), (if (sp cur l).getD ((sp cur l).length - 1) [] = [] then (sp cur l).take ((sp cur l).length - 1) else sp cur l) = ls cur l
  | [], cur => by
    by_cases c : cur = []
    · subst c
      rfl
    · exact (if_neg c).trans (if_neg c).symm
  | b :: t, cur => by
    by_cases c : b = 10
    · have ih := sp_last t []
      have hp := sp_pos t []
      simp only [sp, ls, if_pos c]
      rw [← ih]
      generalize sp [] t = Q at hp ⊢
      have e1 : (cur :: Q).length - 1 = (Q.length - 1) + 1 := by simp; omega
      rw [e1, List.getD_cons_succ, List.take_succ_cons]
      split
      · rfl
      · rfl
    · have ih := sp_last t (cur ++ [b])
      simp only [sp, ls, if_neg c]
      exact ih
theorem impl_lines (l : List UInt8) (hl : l.length ≤ 1000000) : impl_Lines.f (BA l) = some ((ls [] l).map BA) := by
  have hz : (BA l).size = l.length := size_list l
  have hs : strings_Split.f (BA l) (⟨#[10]⟩ : ByteArray) = some (Lib.splitB ⟨#[10]⟩ 0 (Lib.countB (BA l) ⟨#[10]⟩) (BA l)) := by
    unfold strings_Split.f Giv.splitG
    rw [if_pos ⟨by omega, rfl⟩]
  have hd := Lib.splitB_data ⟨#[10]⟩ 0 (Lib.countB (BA l) ⟨#[10]⟩) (BA l)
  have hsp : Lib.splitK [10] 0 (Lib.countB (BA l) ⟨#[10]⟩) l = sp [] l := by
    obtain ⟨x, r, h⟩ := split_ne l
    have e := split_sp l [] x r h
    rw [e, List.nil_append, ← h]
    rfl
  have el : (BA l).data.toList = l := by simp
  have e10 : (⟨#[10]⟩ : ByteArray).data.toList = [10] := rfl
  rw [el, e10, hsp] at hd
  generalize Lib.splitB ⟨#[10]⟩ 0 (Lib.countB (BA l) ⟨#[10]⟩) (BA l) = P at hs hd
  have hP : P = (sp [] l).map BA := by
    rw [← hd, List.map_map]
    have : (BA ∘ fun x : ByteArray => x.data.toList) = id := by funext x; exact (BA_data x).symm
    rw [this, List.map_id]
  have hpos := sp_pos l []
  have hlast := sp_last l []
  unfold impl_Lines.f
  rw [hs]
  simp only [Option.bind_some]
  have hn : P.length = (sp [] l).length := by rw [hP, List.length_map]
  have hle : (sp [] l).length ≤ l.length + 1 := by
    have go : ∀ (l cur : List UInt8), (sp cur l).length ≤ l.length + 1 := by
      intro l
      induction l with
      | nil => intro cur; simp [sp]
      | cons b t ih =>
        intro cur
        unfold sp
        split
        · have := ih []
          simp; omega
        · have := ih (cur ++ [b])
          simp; omega
    exact go l []
  have w : wrap64 ((P.length : Int) - 1) = (((sp [] l).length - 1 : Nat) : Int) := by rw [wrap_in (by omega) (by omega)]; omega
  have hr : (rdOf ByteArray.empty P (((sp [] l).length - 1 : Nat) : Int)).toList = (sp [] l).getD ((sp [] l).length - 1) [] := by
    unfold rdOf
    rw [Int.toNat_natCast, hP, toList_data, List.getD_eq_getElem?_getD, List.getD_eq_getElem?_getD, List.getElem?_map, List.getElem?_eq_getElem (by omega)]
    simp
  simp only [w, hr, Int.toNat_natCast]
  clear w
  rw [if_pos (by omega), if_pos (by omega)]
  by_cases c : (sp [] l).getD ((sp [] l).length - 1) [] = []
  · rw [if_pos c] at hlast
    rw [if_pos c, if_pos (by omega), hP, ← List.map_take, hlast]
  · rw [if_neg c] at hlast
    rw [if_neg c, hP, hlast]
theorem byte_mid (pre t : List UInt8) (b : UInt8) : bt (BA (pre ++ b :: t)) (pre.length : Int) = (b.toNat : Int) := by
  rw [bt_list, getD_right _ _ _ (Nat.le_refl _), Nat.sub_self]
  rfl
theorem cut_mid (pre cur t : List UInt8) : (BA (pre ++ cur ++ t)).extract pre.length (pre.length + cur.length) = BA cur := by
  rw [cut_list, Nat.add_sub_cancel_left, List.append_assoc, List.drop_left']
  · rw [List.take_left']
    rfl
  · rfl
theorem is_byte (b c : UInt8) (m : Int) (h : (c.toNat : Int) = m) : ((b.toNat : Int) = m) ↔ b = c := by
  constructor
  · intro e
    apply UInt8.toNat_inj.mp
    omega
  · intro e
    rw [e]
    exact h
/-! ### words -/
def blank (b : UInt8) : Bool := b == 32 || b == 9
/-- The words: what is read of the word, and what is left. -/
def wd : List UInt8 → List UInt8 → List (List UInt8)
  | cur, [] => if cur = [] then [] else [cur]
  | cur, b :: t => if blank b then (if cur = [] then wd [] t else cur :: wd [] t) else wd (cur ++ [b]) t
/-- How long they are, a byte more for each. -/
def wl (xs : List (List UInt8)) : Nat := (xs.map (fun x => x.length + 1)).sum
theorem wl_cons (x : List UInt8) (r : List (List UInt8)) : wl (x :: r) = x.length + 1 + wl r := by simp [wl]
theorem wl_len : ∀ ws : List (List UInt8), ws.length ≤ wl ws
  | [] => Nat.zero_le _
  | x :: r => by
    have := wl_len r
    rw [wl_cons, List.length_cons]
    omega
theorem wd_wl : ∀ (l cur : List UInt8), wl (wd cur l) ≤ cur.length + l.length + 1
  | [], cur => by
    unfold wd
    split
    · simp [wl]
    · simp [wl]
  | b :: t, cur => by
    unfold wd
    by_cases c : blank b = true
    · rw [if_pos c]
      have ih := wd_wl t []
      by_cases d : cur = []
      · rw [if_pos d]
        simp at ih ⊢
        omega
      · rw [if_neg d]
        have e : wl (cur :: wd [] t) = cur.length + 1 + wl (wd [] t) := by simp [wl]
        rw [e]
        simp at ih ⊢
        omega
    · rw [if_neg c]
      have ih := wd_wl t (cur ++ [b])
      simp at ih ⊢
      omega
/-- Bytes none of which is a blank join the word. -/
theorem wd_chunk : ∀ (c cur t : List UInt8), (∀ b ∈ c, blank b = false) → wd cur (c ++ t) = wd (cur ++ c) t
  | [], cur, t, h => by simp
  | b :: c, cur, t, h => by
    have hb := h b (by simp)
    have ih := wd_chunk c (cur ++ [b]) t (fun x hx => h x (by simp [hx]))
    simp only [List.cons_append, wd, hb, Bool.false_eq_true, if_false]
    rw [ih]
    simp
theorem blank_lo (b : UInt8) (h : 128 ≤ b.toNat) : blank b = false := by
  unfold blank
  have e1 : (b == 32) = false := beq_eq_false_iff_ne.mpr (fun e => by rw [e] at h; exact absurd h (by decide))
  have e2 : (b == 9) = false := beq_eq_false_iff_ne.mpr (fun e => by rw [e] at h; exact absurd h (by decide))
  rw [e1, e2]
  rfl
theorem wordP_lo (b : UInt8) : Giv.wordP b.toNat = blank b := by
  unfold Giv.wordP blank
  by_cases c : b = 32
  · subst c
    rfl
  · by_cases d : b = 9
    · subst d
      rfl
    · have e1 : (b == 32) = false := beq_eq_false_iff_ne.mpr c
      have e2 : (b == 9) = false := beq_eq_false_iff_ne.mpr d
      have n1 : ¬ ((b.toNat : Int) = 32) := fun e => c ((is_byte b 32 32 rfl).mp e)
      have n2 : ¬ ((b.toNat : Int) = 9) := fun e => d ((is_byte b 9 9 rfl).mp e)
      rw [e1, e2, decide_eq_false n1, decide_eq_false n2]
theorem wordP_hi (n : Nat) (h : 128 ≤ n) : Giv.wordP n = false := by
  unfold Giv.wordP
  rw [decide_eq_false (by omega), decide_eq_false (by omega)]
  rfl
/-- A rune's bytes: one byte below 128, or none of them is a blank. -/
theorem rune_bytes (l : List UInt8) (pos : Nat) (b : UInt8) (t : List UInt8) (hd : l.drop pos = b :: t) :
    (b.toNat < 128 ∧ Utf8.decode (BA l) pos = (b.toNat, 1)) ∨ (128 ≤ (Utf8.decode (BA l) pos).1 ∧ ∃ c t', c.length = (Utf8.decode (BA l) pos).2 ∧ 1 ≤ c.length ∧ b :: t = c ++ t' ∧ ∀ x ∈ c, blank x = false) := by
  have el : (BA l).data.toList = l := by simp
  have hdec : Utf8.decode (BA l) pos = Lib.decodeN (b :: t).length b.toNat ((b :: t).getD 1 0).toNat ((b :: t).getD 2 0).toNat ((b :: t).getD 3 0).toNat := by
    have h := Lib.decodeL_drop (BA l) pos
    rw [el, hd] at h
    rw [← h, Lib.decodeL_N]
    rfl
  by_cases c : b.toNat < 128
  · left
    refine ⟨c, ?_⟩
    rw [hdec, Lib.decodeN_ascii _ _ _ _ _ c]
  · right
    have hcs := Lib.decodeN_cases (b :: t).length b.toNat ((b :: t).getD 1 0).toNat ((b :: t).getD 2 0).toNat ((b :: t).getD 3 0).toNat
    have hco := Lib.decodeN_conts (b :: t).length b.toNat ((b :: t).getD 1 0).toNat ((b :: t).getD 2 0).toNat ((b :: t).getD 3 0).toNat
    have hge := Lib.decodeN_ge1 (b :: t).length b.toNat ((b :: t).getD 1 0).toNat ((b :: t).getD 2 0).toNat ((b :: t).getD 3 0).toNat
    have hlo : 128 ≤ (Utf8.decode (BA l) pos).1 := by
      rw [hdec]
      rcases hcs with ⟨h, _⟩ | ⟨_, _, _, h, e⟩ | ⟨_, _, _, _, h, e⟩ | ⟨h, _⟩ | e
      · omega
      · rw [e]; exact h
      · rw [e]; show 128 ≤ _; omega
      · omega
      · rw [e]; decide
    refine ⟨hlo, ?_⟩
    rw [hdec]
    generalize hw : (Lib.decodeN (b :: t).length b.toNat ((b :: t).getD 1 0).toNat ((b :: t).getD 2 0).toNat ((b :: t).getD 3 0).toNat).2 = w at hco hge
    have hwl : w ≤ (b :: t).length := by
      have hl : 1 ≤ (b :: t).length := by simp
      have := hco.1
      have := hco.2.1
      have := hco.2.2.1
      have := hco.2.2.2
      by_cases w2 : 2 ≤ w
      · by_cases w3 : 3 ≤ w
        · by_cases w4 : 4 ≤ w
          · have := (hco.2.2.1 w4).2; omega
          · have := (hco.2.1 w3).2; omega
        · have := (hco.1 w2).2; omega
      · omega
    refine ⟨(b :: t).take w, (b :: t).drop w, by rw [List.length_take]; omega, by rw [List.length_take]; omega, (List.take_append_drop w (b :: t)).symm, fun x hx => ?_⟩
    obtain ⟨i, hi, hxi⟩ := List.getElem_of_mem hx
    rw [List.length_take] at hi
    have hg : x = (b :: t).getD i 0 := by
      rw [← hxi, List.getElem_take, List.getD_eq_getElem?_getD, List.getElem?_eq_getElem (by omega)]
      rfl
    apply blank_lo
    have h4 := hco.2.2.2
    have : i = 0 ∨ i = 1 ∨ i = 2 ∨ i = 3 := by omega
    rcases this with rfl | rfl | rfl | rfl
    · rw [hg]; show 128 ≤ b.toNat; omega
    · have := (hco.1 (by omega)).1
      rw [hg]; omega
    · have := (hco.2.1 (by omega)).1
      rw [hg]; omega
    · have := (hco.2.2.1 (by omega)).1
      rw [hg]; omega
theorem impl_words_from (l : List UInt8) : ∀ (f : Nat) (rest pre cur : List UInt8) (acc : List (Nat × Nat)), l = pre ++ cur ++ rest → rest.length ≤ f →
    (Lib.closeSpans (BA l) (Lib.spansFromP Giv.wordP (BA l) f (pre.length + cur.length) (if cur = [] then none else some pre.length) acc)).map (fun x => (BA l).extract x.1 x.2) = acc.map (fun x => (BA l).extract x.1 x.2) ++ (wd cur rest).map BA
  | f, [], pre, cur, acc, hl, hf => by
    have hz : (BA l).size = pre.length + cur.length := by rw [size_list, hl]; (first | (simp; done) | (simp; omega))
    rw [Lib.spansFromP_end _ _ _ _ _ _ (by omega)]
    by_cases c : cur = []
    · subst c
      simp [Lib.closeSpans, wd]
    · rw [if_neg c]
      have hx := cut_mid pre cur []
      rw [← hl] at hx
      simp only [Lib.closeSpans, List.map_append, List.map_cons, List.map_nil]
      rw [hz, hx]
      simp [wd, c]
  | 0, b :: t, pre, cur, acc, hl, hf => by simp at hf
  | f + 1, b :: t, pre, cur, acc, hl, hf => by
    have hz : (BA l).size = pre.length + cur.length + (t.length + 1) := by rw [size_list, hl]; (first | (simp; done) | (simp; omega))
    have hd : l.drop (pre.length + cur.length) = b :: t := by
      rw [hl, List.drop_left']
      rw [List.length_append]
    have hp : pre.length + cur.length < (BA l).size := by omega
    rcases rune_bytes l (pre.length + cur.length) b t hd with ⟨hlo, hdec⟩ | ⟨hhi, c, t', hcl, hc1, hsplit, hnb⟩
    · simp only [Lib.spansFromP, if_pos hp, hdec, wordP_lo]
      by_cases q : blank b = true
      · simp only [q, if_true]
        by_cases e : cur = []
        · subst e
          have ih := impl_words_from l f t (pre ++ [b]) [] acc (by rw [hl]; simp) (by simp at hf; omega)
          simp only [if_true, List.length_append, List.length_cons, List.length_nil, Nat.add_zero, Nat.zero_add] at ih ⊢
          rw [ih]
          simp [wd, q]
        · have ih := impl_words_from l f t (pre ++ cur ++ [b]) [] (acc ++ [(pre.length, pre.length + cur.length)]) (by rw [hl]; simp) (by simp at hf; omega)
          simp only [if_neg e]
          simp only [if_true, List.length_append, List.length_cons, List.length_nil, Nat.add_zero, Nat.zero_add] at ih ⊢
          rw [ih]
          have hx := cut_mid pre cur (b :: t)
          rw [← hl] at hx
          simp [wd, q, e, hx]
      · have q' : blank b = false := by simpa using q
        have ih := impl_words_from l f t pre (cur ++ [b]) acc (by rw [hl]; simp) (by simp at hf; omega)
        have ne : ¬ cur ++ [b] = [] := by simp
        simp only [if_neg ne, List.length_append, List.length_cons, List.length_nil, Nat.zero_add] at ih
        have er : wd cur (b :: t) = wd (cur ++ [b]) t := by simp [wd, q']
        rw [er, ← ih]
        simp only [q', Bool.false_eq_true, if_false]
        by_cases e : cur = []
        · subst e
          simp only [if_true, List.length_nil, Nat.add_zero, Nat.zero_add]
        · simp only [if_neg e]
          rw [Nat.add_assoc]
    · simp only [Lib.spansFromP, if_pos hp, wordP_hi _ hhi, Bool.false_eq_true, if_false]
      have hlen : t.length + 1 = c.length + t'.length := by
        have := congrArg List.length hsplit
        simpa using this
      have ih := impl_words_from l f t' pre (cur ++ c) acc (by rw [hl, hsplit]; simp) (by simp at hf; omega)
      have ne : ¬ cur ++ c = [] := fun e => by
        have hcc : c = [] := (List.append_eq_nil_iff.mp e).2
        rw [hcc] at hc1
        exact absurd hc1 (by decide)
      simp only [if_neg ne, List.length_append] at ih
      have er : wd cur (b :: t) = wd (cur ++ c) t' := by rw [hsplit]; exact wd_chunk c cur t' hnb
      rw [er, ← ih, ← hcl]
      by_cases e : cur = []
      · subst e
        simp only [if_true, List.length_nil, Nat.add_zero, Nat.zero_add]
      · simp only [if_neg e]
        rw [Nat.add_assoc]
theorem impl_words (l : List UInt8) (hl : l.length ≤ 1000000) : impl_Words.f (BA l) = some ((wd [] l).map BA) := by
  have hz : (BA l).size = l.length := size_list l
  unfold impl_Words.f Giv.wordsG
  rw [if_pos (by omega)]
  congr 1
  have h := impl_words_from l (BA l).size l [] [] [] (by simp) (by omega)
  simp only [if_true, List.length_nil, Nat.add_zero, List.map_nil, List.nil_append] at h
  exact h

/-! ### a line's text -/
/-- What stands ahead of the sign ';'. -/
def ahead (l : List UInt8) : List UInt8 := l.takeWhile (fun b => b != 59)
/-- The line's words, one blank between each two. -/
def tx (l : List UInt8) : List UInt8 := Lib.join (wd [] (ahead l)) [32]
theorem join_le (xs : List (List UInt8)) : (Lib.join xs [32]).length ≤ wl xs := by
  cases xs with
  | nil => simp [Lib.join_nil, wl]
  | cons x r =>
    rw [Lib.join_cons, List.length_append]
    have : (Lib.joinTail [32] r).length = wl r := by
      induction r with
      | nil => rfl
      | cons y r ih =>
        simp only [Lib.joinTail, List.map_cons, List.flatten_cons, List.length_append] at ih ⊢
        rw [ih]
        simp [wl]
        omega
    rw [this]
    simp [wl]
theorem ahead_le (l : List UInt8) : (ahead l).length ≤ l.length := by
  unfold ahead
  exact (List.takeWhile_sublist _).length_le
theorem tx_le (l : List UInt8) : (tx l).length ≤ l.length + 1 := by
  have h1 := join_le (wd [] (ahead l))
  have h2 := wd_wl (ahead l) []
  have h3 := ahead_le l
  unfold tx
  simp at h2
  omega
theorem cut_ahead : ∀ l : List UInt8, (Lib.cut l [59]).1 = ahead l
  | [] => by decide
  | b :: t => by
    have ih := cut_ahead t
    unfold Lib.cut ahead at ih ⊢
    have hi : Lib.index (b :: t) [59] = if b = 59 then 0 else if Lib.index t [59] = -1 then -1 else Lib.index t [59] + 1 := by
      simp only [Lib.index]
      by_cases c : b = 59
      · subst c
        simp
      · have hb : (59 == b) = false := beq_eq_false_iff_ne.mpr (Ne.symm c)
        rw [if_neg (by simp [List.isPrefixOf, hb]), if_neg c]
        by_cases d : Lib.index t [59] = -1
        · rw [if_pos (by simpa using d), if_pos d]
        · rw [if_neg (by simpa using d), if_neg d]
    have hge := Lib.index_ge t [59]
    rw [hi]
    by_cases c : b = 59
    · subst c
      simp
    · have hb : (b != 59) = true := by simpa using c
      rw [if_neg c, List.takeWhile_cons, if_pos hb, ← ih]
      by_cases d : Lib.index t [59] = -1
      · rw [if_pos d, if_neg (by decide), if_neg (by omega)]
      · obtain ⟨i, hii⟩ : ∃ i : Nat, Lib.index t [59] = (i : Int) := ⟨(Lib.index t [59]).toNat, by omega⟩
        rw [if_neg d, hii, if_pos (by omega), if_pos (by omega)]
        have e1 : ((i : Int) + 1).toNat = i + 1 := by omega
        rw [e1, Int.toNat_natCast]
        rfl
theorem impl_text (l : List UInt8) (hl : l.length ≤ 1000000) : ∃ r2 r3, strings_Cut.f (BA l) (⟨#[59]⟩ : ByteArray) = some (BA (ahead l), r2, r3) ∧ impl_Words.f (BA (ahead l)) = some ((wd [] (ahead l)).map BA) ∧ strings_Join.f ((wd [] (ahead l)).map BA) (⟨#[32]⟩ : ByteArray) = some (BA (tx l)) := by
  have hz : (BA l).size = l.length := size_list l
  have hal := ahead_le l
  have htl := tx_le l
  refine ⟨⟨(Lib.cut l [59]).2.1.toArray⟩, (Lib.cut l [59]).2.2, ?_, impl_words (ahead l) (by omega), ?_⟩
  · unfold strings_Cut.f Giv.cut
    rw [if_pos (by omega)]
    have e : (BA l).data.toList = l := by simp
    have e59 : (⟨#[59]⟩ : ByteArray).data.toList = [59] := rfl
    rw [e, e59, cut_ahead]
  · unfold strings_Join.f Giv.joinG
    have e : ((wd [] (ahead l)).map BA).map (fun x => x.data.toList) = wd [] (ahead l) := by
      rw [List.map_map]
      have : ((fun x : ByteArray => x.data.toList) ∘ BA) = id := by funext x; simp
      rw [this, List.map_id]
    have e32 : (⟨#[32]⟩ : ByteArray).data.toList = [32] := rfl
    rw [e, e32]
    have hn : (wd [] (ahead l)).length ≤ wl (wd [] (ahead l)) := by
      generalize wd [] (ahead l) = xs
      induction xs with
      | nil => simp
      | cons x r ih =>
        simp [wl] at ih ⊢
        omega
    have h2 := wd_wl (ahead l) []
    simp at h2
    unfold tx at htl ⊢
    rw [if_pos ⟨by omega, by rw [List.length_map]; omega⟩]
end Go.Proofs.YtlglpolokcnlhaaDoor.MKL
