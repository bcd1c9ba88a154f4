/-
FnReadOp: whatever the bytes, a text that is an operation's is that of the bytes that it is read as.
-/
import Derived.Test.YtlglpolokcnlhaaDoorMJx5
import Derived.Test.YtlglpolokcnlhaaDoorMJx13
import Derived.Test.YtlglpolokcnlhaaDoorMJx14
import Derived.Test.YtlglpolokcnlhaaDoorJReadOpBoth
import Derived.Test.YtlglpolokcnlhaaDoorJDrawOps
set_option linter.unusedSimpArgs false
set_option linter.unusedVariables false
namespace Go.Proofs.YtlglpolokcnlhaaDoor.Pure
open Go.RowKit Go.Proofs.YtlglpolokcnlhaaDoor.MJ Go.Proofs.YtlglpolokcnlhaaDoor.MJV Go.Proofs.YtlglpolokcnlhaaDoor.MJD Go.Proofs.YtlglpolokcnlhaaDoor.MJH Go.Proofs.YtlglpolokcnlhaaDoor.MJO Go.Proofs.YtlglpolokcnlhaaDoor.MJS Go.Proofs.YtlglpolokcnlhaaDoorW.PrintWords Go.Proofs.YtlglpolokcnlhaaDoorW.PrintLast Go.Proofs.YtlglpolokcnlhaaDoor.Lst

theorem text_ok (L : List Int) (p s : Int) (l : List ByteArray) (h : At L p) (hl : 0 < l.length) : ∃ v p' s', spec_l01Pick.f L p s l = some (v, p', s') ∧ v ∈ l ∧ At L p' := by
  obtain ⟨v, p', s', e, hv, hp⟩ := below_ok L p s (l.length : Int) h (by omega)
  unfold spec_l01Pick.f
  rw [e]
  refine ⟨rdOf ByteArray.empty l v, p', s', by simp only [Option.bind_some]; rw [if_pos hv.1, if_pos hv.2], ?_, hp⟩
  unfold rdOf
  have hi : v.toNat < l.length := by omega
  rw [List.getD_eq_getElem?_getD, List.getElem?_eq_getElem hi]
  exact List.getElem_mem hi
theorem ext_le (a : ByteArray) (i j : Nat) : (a.extract i j).size ≤ a.size := by
  rw [ByteArray.size_extract]
  omega
/-- A text that is bent stays short. -/
theorem bent_ok (L : List Int) (p s : Int) (a : ByteArray) (h : At L p) (ha : a.size ≤ 1000) : ∃ v p' s', spec_l01Bent.f L p s a = some (v, p', s') ∧ v.size ≤ 3000 := by
  have wa : wrap64 ((a.size : Int) + 1) = ((a.size + 1 : Nat) : Int) := w1 (by omega)
  obtain ⟨i, p0, s0, e0, hi, hp0⟩ := below_ok L p s ((a.size + 1 : Nat) : Int) h (by omega)
  obtain ⟨c, p1, s1, e1, _, hp1⟩ := below_ok L p0 s0 10 hp0 (by decide)
  have x1 := ext_le a 0 i.toNat
  have x2 := ext_le a i.toNat a.size
  unfold spec_l01Bent.f
  simp only [wa, e0, Option.bind_some, e1]
  by_cases c0 : c = 0
  · refine ⟨a.extract 0 i.toNat, p1, s1, ?_, by omega⟩
    simp only [if_pos c0, if_pos hi.1, if_pos (show i ≤ (a.size : Int) by omega)]
  · by_cases c1 : c = 1
    · obtain ⟨v, p2, s2, e2, hv, _⟩ := text_ok L p1 s1 ([(⟨#[48]⟩ : ByteArray), (⟨#[32]⟩ : ByteArray), (⟨#[255]⟩ : ByteArray), (⟨#[35]⟩ : ByteArray), (⟨#[10]⟩ : ByteArray), (⟨#[97]⟩ : ByteArray), (⟨#[70]⟩ : ByteArray), (⟨#[36]⟩ : ByteArray), (⟨#[119]⟩ : ByteArray), (⟨#[44]⟩ : ByteArray)] : List ByteArray) hp1 (by decide)
      have hv1 : v.size = 1 := by
        simp at hv
        rcases hv with h | h | h | h | h | h | h | h | h | h <;> rw [h] <;> rfl
      refine ⟨(a.extract 0 i.toNat ++ v) ++ a.extract i.toNat a.size, p2, s2, ?_, by rw [ByteArray.size_append, ByteArray.size_append]; omega⟩
      simp only [if_neg c0, if_pos c1, if_pos hi.1, if_pos (show i ≤ (a.size : Int) by omega), e2, Option.bind_some, if_pos (show (a.extract 0 i.toNat).size + v.size ≤ 9223372036854775807 by omega), if_pos (show (a.extract 0 i.toNat ++ v).size + (a.extract i.toNat a.size).size ≤ 9223372036854775807 by rw [ByteArray.size_append]; omega)]
    · by_cases c2 : c = 2
      · by_cases c3 : i < (a.size : Int)
        · obtain ⟨v, p2, s2, e2, hv, _⟩ := text_ok L p1 s1 ([(⟨#[48]⟩ : ByteArray), (⟨#[65]⟩ : ByteArray), (⟨#[0]⟩ : ByteArray), (⟨#[57]⟩ : ByteArray), (⟨#[36]⟩ : ByteArray), (⟨#[114]⟩ : ByteArray)] : List ByteArray) hp1 (by decide)
          have hv1 : v.size = 1 := by
            simp at hv
            rcases hv with h | h | h | h | h | h <;> rw [h] <;> rfl
          have wi : wrap64 (i + 1) = i + 1 := wrap_in (by omega) (by omega)
          have x3 := ext_le a (i + 1).toNat a.size
          refine ⟨(a.extract 0 i.toNat ++ v) ++ a.extract (i + 1).toNat a.size, p2, s2, ?_, by rw [ByteArray.size_append, ByteArray.size_append]; omega⟩
          simp only [wi]
          clear wi wa
          simp only [if_neg c0, if_neg c1, if_pos c2, if_pos c3, if_pos hi.1, if_pos (show i ≤ (a.size : Int) by omega), e2, Option.bind_some, if_pos (show (a.extract 0 i.toNat).size + v.size ≤ 9223372036854775807 by omega), if_pos (show 0 ≤ i + 1 by omega), if_pos (show i + 1 ≤ (a.size : Int) by omega), if_pos (show (a.extract 0 i.toNat ++ v).size + (a.extract (i + 1).toNat a.size).size ≤ 9223372036854775807 by rw [ByteArray.size_append]; omega)]
        · refine ⟨a, p1, s1, ?_, by omega⟩
          simp only [if_neg c0, if_neg c1, if_pos c2, if_neg c3]
      · refine ⟨a, p1, s1, ?_, by omega⟩
        simp only [if_neg c0, if_neg c1, if_neg c2]
theorem ite_size {c : Prop} [Decidable c] (a b : ByteArray) (h1 : a.size ≤ 100) (h2 : b.size ≤ 100) : (if c then a else b).size ≤ 100 := by
  by_cases h : c
  · rw [if_pos h]; exact h1
  · rw [if_neg h]; exact h2
theorem opnd_size (m : Int) (b1 b2 t : Nat) : (opnd m b1 b2 t).size ≤ 100 := by
  have h1 := one_size b1
  have h2 := two_size b1 b2
  have h4 := hx4_size t
  have d1 : D.size = 1 := rfl
  unfold opnd
  repeat' (first | apply ite_size)
  all_goals first
    | decide
    | omega
    | (simp only [ByteArray.size_append, h1, h2, h4, d1, c1, c2, c3]; omega)
    | (simp only [ByteArray.size_append, h1, h2, h4, d1, c1, c2, c3]; decide)
theorem showL_size (l : List Int) (pc : Int) (hb : ∀ x ∈ l, 0 ≤ x ∧ x < 256) : (showL l pc).size ≤ 1000 := by
  have hi := (rd_nat hb 0).2
  have hi' : (rd l 0).toNat < 256 := hi
  have hn := (size_all ⟨_, hi'⟩).2.2.2.2
  simp only at hn
  have ho := opnd_size (md (rd l 0).toNat) (rd l 1).toNat (rd l 2).toNat (tg pc (rd l 1).toNat)
  have z : (⟨#[]⟩ : ByteArray).size = 0 := rfl
  unfold showL
  by_cases a : l.length = 0
  · rw [if_pos a]
    omega
  · rw [if_neg a]
    show (if sz (md (rd l 0).toNat) = 0 then (⟨#[]⟩ : ByteArray) else if l.length < sz (md (rd l 0).toNat) then ⟨#[]⟩ else if md (rd l 0).toNat = 0 then nm (rd l 0).toNat else (nm (rd l 0).toNat ++ ⟨#[32]⟩) ++ opnd (md (rd l 0).toNat) (rd l 1).toNat (rd l 2).toNat (tg pc (rd l 1).toNat)).size ≤ 1000
    by_cases b : sz (md (rd l 0).toNat) = 0
    · rw [if_pos b]
      omega
    · rw [if_neg b]
      by_cases c : l.length < sz (md (rd l 0).toNat)
      · rw [if_pos c]
        omega
      · rw [if_neg c]
        by_cases d : md (rd l 0).toNat = 0
        · rw [if_pos d]
          omega
        · rw [if_neg d, ByteArray.size_append, ByteArray.size_append, c1]
          omega
theorem draw_read (L : List Int) (hL : (L.length : Int) < 4611686018427387904) : ∃ (a : ByteArray) (pc : Int), Ev (fun k => spec_DrawReadOp.f k L) (a, pc) ∧ (0 ≤ pc ∧ pc < 65536) ∧ a.size ≤ 3000 := by
  obtain ⟨s, hs⟩ := new_ok L hL
  obtain ⟨pc, p0, s0, e0, hpc, hp0⟩ := pc_ok L 0 s (at_zero L hL)
  obtain ⟨v, p1, s1, e1, hp1⟩ := once_ok L p0 s0 4 hp0 (by decide)
  by_cases c : v = true
  · obtain ⟨a, p2, s2, e2, ha, _⟩ := text_ok L p1 s1 ([(⟨#[]⟩ : ByteArray), (⟨#[76, 68, 65]⟩ : ByteArray), (⟨#[76, 68, 65, 32, 35, 36, 49]⟩ : ByteArray), (⟨#[76, 68, 65, 32, 36, 48, 48, 49]⟩ : ByteArray), (⟨#[83, 84, 65, 32, 35, 36, 49, 48]⟩ : ByteArray), (⟨#[65, 83, 76]⟩ : ByteArray), (⟨#[65, 83, 76, 32, 65]⟩ : ByteArray), (⟨#[78, 79, 80, 32, 65]⟩ : ByteArray), (⟨#[76, 68, 65, 32, 40, 36, 49, 48, 41, 44, 88]⟩ : ByteArray), (⟨#[74, 77, 80, 32, 40, 36, 49, 50, 51, 52, 41]⟩ : ByteArray), (⟨#[66, 78, 69, 32, 36, 49, 48, 48, 48]⟩ : ByteArray), (⟨#[66, 78, 69, 32, 36, 49, 48]⟩ : ByteArray), (⟨#[108, 100, 97, 32, 35, 36, 49, 48]⟩ : ByteArray), (⟨#[76, 68, 88, 32, 36, 49, 50, 44, 89]⟩ : ByteArray), (⟨#[83, 84, 88, 32, 36, 49, 50, 51, 52, 44, 89]⟩ : ByteArray), (⟨#[76, 68, 65, 32, 32, 35, 36, 49, 48]⟩ : ByteArray)] : List ByteArray) hp1 (by decide)
    refine ⟨a, pc, ?_, hpc, ?_⟩
    · unfold spec_DrawReadOp.f
      refine Ev.bind hs ?_
      simp only [e0, Option.bind_some, e1, if_pos c, e2]
      exact Ev.now _
    · have hz : a.size ≤ 20 := by
        simp only [List.mem_cons, List.not_mem_nil, or_false] at ha
        rcases ha with h | h | h | h | h | h | h | h | h | h | h | h | h | h | h | h <;> rw [h] <;> decide
      omega
  · obtain ⟨l, p2, s2, e2, hx, ⟨b, _, _, hlen⟩, hp2⟩ := bytes_ok L p1 s1 hp1
    have hs3 := sz3 (md b)
    obtain ⟨a, p3, s3, e3, ha⟩ := bent_ok L p2 s2 (showL l pc) hp2 (showL_size l pc hx)
    refine ⟨a, pc, ?_, hpc, ha⟩
    unfold spec_DrawReadOp.f
    refine Ev.bind hs ?_
    simp only [e0, Option.bind_some, e1, if_neg c]
    refine Ev.bind e2 (Ev.bind (spec_show l pc hpc hx (by omega)) ?_)
    simp only [e3, Option.bind_some]
    exact Ev.now _
theorem FnReadOp : laws_FnReadOp.Pure := by
  intro l0 hlen _ hw
  refine Ev.rounds (g := fun k => laws_FnReadOp.f k l0) ?_
  unfold laws_FnReadOp.f laws_big.f
  simp only [Option.bind_some]
  by_cases c : (l0.length : Int) > 1048576
  · simp only [decide_eq_true c, if_true]
    exact Ev.now _
  · simp only [decide_eq_false c, Bool.false_eq_true, if_false]
    obtain ⟨a, pc, hd, hp, ha⟩ := draw_read l0 (by omega)
    obtain ⟨r, e1, e2, h⟩ := readOp_both a (by omega) pc hp
    refine Ev.bind hd (Ev.bind e2 (Ev.bind e1 ?_))
    have hb : ∀ b : Bool, (b != b) = false := by decide
    simp only [hb, Bool.false_eq_true, if_false]
    rcases h with h | ⟨i, hi, hm, h, hsh⟩
    · rw [h]
      simp only [Bool.false_eq_true, if_false]
      exact Ev.now _
    · rw [h]
      simp only [if_true]
      refine Ev.bind (impl_show (BI i (numI a.data.toList) pc) pc hp (mem_BI i hi _ _)) ?_
      have h0 := (rd_BS0 i hm (numI a.data.toList) pc).2.1
      have hlen := len_BI i (numI a.data.toList) pc
      have hs : sz (md i) ≠ 0 := by
        rcases modes hm with h | h | h | h | h | h | h | h | h | h | h | h | h <;> rw [h] <;> decide
      simp only [hsh, if_true, if_pos (show 0 < ((BI i (numI a.data.toList) pc).length : Int) by rw [hlen]; omega), h0]
      refine Ev.bind (isize_ev hi) ?_
      rw [hlen]
      simp only [if_true]
      exact Ev.now _
end Go.Proofs.YtlglpolokcnlhaaDoor.Pure
