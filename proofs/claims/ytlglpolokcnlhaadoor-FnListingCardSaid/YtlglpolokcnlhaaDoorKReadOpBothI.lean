/-
ReadOp: the reference's search over bytes and the program's search over modes end at the same operation.
-/
import Derived.Test.YtlglpolokcnlhaaDoorMKx2
import Derived.Test.YtlglpolokcnlhaaDoorMKx3
import Derived.Test.YtlglpolokcnlhaaDoorMKx4
import Derived.Test.YtlglpolokcnlhaaDoorMKx5
import Derived.Test.YtlglpolokcnlhaaDoorKReadOpNumI
import Derived.Test.YtlglpolokcnlhaaDoorKShowImplI
import Derived.Test.YtlglpolokcnlhaaDoorKCodeFirst2
set_option linter.unusedSimpArgs false
set_option linter.unusedVariables false
namespace Go.Proofs.YtlglpolokcnlhaaDoor.MKV
open Go.RowKit Go.Proofs.YtlglpolokcnlhaaDoor.MK Go.Proofs.YtlglpolokcnlhaaDoorW.PrintWords Go.Proofs.YtlglpolokcnlhaaDoorW.PrintLast Go.Proofs.YtlglpolokcnlhaaDoor.Lst Go.Proofs.YtlglpolokcnlhaaDoor.Bit Go.Proofs.YtlglpolokcnlhaaDoor.MKO Go.Proofs.YtlglpolokcnlhaaDoor.MKH Go.Proofs.YtlglpolokcnlhaaDoor.MKS
open Go.Proofs.YtlglpolokcnlhaaDoor.MKX (hexv hexF hexv_range wr)

theorem toList_data (s : ByteArray) : s.toList = s.data.toList := by
  have go : ∀ (d i : Nat) (r : List UInt8), i + d = s.size → ByteArray.toList.loop s i r = r.reverse ++ s.data.toList.drop i := by
    intro d
    induction d with
    | zero =>
      intro i r h
      unfold ByteArray.toList.loop
      rw [if_neg (by omega), List.drop_eq_nil_of_le (by rw [Array.length_toList]; exact Nat.le_of_eq (show s.size = i by omega)), List.append_nil]
    | succ d ih =>
      intro i r h
      unfold ByteArray.toList.loop
      rw [if_pos (by omega), ih (i + 1) _ (by omega)]
      have hl : i < s.data.toList.length := by rw [Array.length_toList]; exact (by omega : i < s.size)
      rw [List.drop_eq_getElem_cons hl, List.reverse_cons, List.append_assoc]
      congr 1
      have e : s.get! i = s.data.toList[i] := by
        have : s.get! i = s.data[i]! := rfl
        rw [this, getElem!_pos s.data i (by simpa using hl)]
        simp
      rw [e]
      rfl
  have h := go s.size 0 [] (by omega)
  simpa [ByteArray.toList] using h
/-- The bytes that the reference lays at a byte of an operation; those that the program lays. -/
def BS (i : Nat) (n pc : Int) : List Int := if md i = 12 then [(i : Int), (Go.bits .and .i64 (wrap64 ((wrap64 (n - (wrap64 pc))) - 2)) 255) % 256] else ([(i : Int), (Go.bits .and .i64 n 255) % 256, (wrap64 (Int.tdiv n 256)) % 256] : List Int).take (sz (md i))
def BI (i : Nat) (n pc : Int) : List Int := if md i = 12 then [(i : Int), (wrap64 ((wrap64 (n - (wrap64 pc))) - 2)) % 256] else ([(i : Int), n % 256, n / 256 % 256] : List Int).take (sz (md i))
theorem and255 (x : Int) : Go.bits .and .i64 x 255 = x % 256 := by
  have e : Go.bits .and .i64 x 255 = IntKind.i64.wrap ((BitVec.ofInt 64 x &&& BitVec.ofInt 64 255).toNat : Int) := rfl
  have m : ∀ v : BitVec 64, (v &&& 255#64).toNat = v.toNat % 256 := fun v => by
    rw [BitVec.toNat_and]
    exact Nat.and_two_pow_sub_one_eq_mod _ 8
  rw [e, show BitVec.ofInt 64 255 = 255#64 from rfl, m, IntKind.wrap_i64, BitVec.toNat_ofInt]
  omega
theorem B_same (i : Nat) (n pc : Int) (hn : 0 ≤ n ∧ n < 65536) (hp : 0 ≤ pc ∧ pc < 65536) : BS i n pc = B i n pc ∧ BI i n pc = B i n pc := by
  unfold BS BI B
  have w0 : wrap64 pc = pc := wrap_in (by omega) (by omega)
  have w1 : wrap64 (n - pc) = n - pc := wrap_in (by clear w0; omega) (by clear w0; omega)
  have w2 : wrap64 (n - pc - 2) = n - pc - 2 := wrap_in (by clear w0 w1; omega) (by clear w0 w1; omega)
  have t : Int.tdiv n 256 = n / 256 := Int.tdiv_eq_ediv_of_nonneg hn.1
  have w3 : wrap64 (n / 256) = n / 256 := wrap_in (by clear w0 w1 w2; omega) (by clear w0 w1 w2; omega)
  simp only [and255, w0, w1, w2, t, w3, Int.emod_emod_of_dvd _ (Int.dvd_refl 256), and_self]
theorem mem_BS (i : Nat) (hi : i < 256) (n pc : Int) : ∀ x ∈ BS i n pc, 0 ≤ x ∧ x < 256 := by
  intro x hx
  unfold BS at hx
  split at hx
  · simp at hx
    rcases hx with rfl | rfl <;> omega
  · have := List.mem_of_mem_take hx
    simp at this
    rcases this with rfl | rfl | rfl <;> omega
theorem mem_BI (i : Nat) (hi : i < 256) (n pc : Int) : ∀ x ∈ BI i n pc, 0 ≤ x ∧ x < 256 := by
  intro x hx
  unfold BI at hx
  split at hx
  · simp at hx
    rcases hx with rfl | rfl <;> omega
  · have := List.mem_of_mem_take hx
    simp at this
    rcases this with rfl | rfl | rfl <;> omega
theorem sz_le (m : Int) : sz m ≤ 3 := by
  unfold sz
  (repeat' split) <;> omega
theorem sz_12 : sz 12 = 2 := by decide
theorem len_BS (i : Nat) (n pc : Int) : (BS i n pc).length = sz (md i) := by
  unfold BS
  split
  · rename_i h
    rw [h, sz_12]
    rfl
  · have := sz_le (md i)
    simp
    omega
theorem len_BI (i : Nat) (n pc : Int) : (BI i n pc).length = sz (md i) := by
  unfold BI
  split
  · rename_i h
    rw [h, sz_12]
    rfl
  · have := sz_le (md i)
    simp
    omega
/-- Where the reference's search ends. -/
def findS (s3 l : List UInt8) (n pc : Int) : Nat → Nat → List Int × Bool
  | 0, _ => ([], false)
  | d + 1, j => if (nm j).data.toList = s3 ∧ (showL (BS j n pc) pc).data.toList = l then (BS j n pc, true) else findS s3 l n pc d (j + 1)
/-- Where the program's search ends. -/
def findI (s3 : ByteArray) (l : List UInt8) (n pc : Int) : Nat → Nat → List Int × Bool
  | 0, _ => ([], false)
  | d + 1, m => if codeFrom s3 (m : Int) 256 0 < 0 then findI s3 l n pc d (m + 1) else if (showL (BI (codeFrom s3 (m : Int) 256 0).toNat n pc) pc).data.toList = l then (BI (codeFrom s3 (m : Int) 256 0).toNat n pc, true) else findI s3 l n pc d (m + 1)
/-- What a byte that is found is. -/
theorem codeFrom_is (a0 : ByteArray) (a1 : Int) : ∀ (d j : Nat), j + d = 256 → codeFrom a0 a1 d j < 0 ∨ (∃ i : Nat, codeFrom a0 a1 d j = (i : Int) ∧ i < 256 ∧ (nm i).toList = a0.toList ∧ md i = a1 ∧ ¬ a0.toList = [])
  | 0, j, h => Or.inl (by simp [codeFrom])
  | d + 1, j, h => by
    simp only [codeFrom]
    by_cases c : (nm j).toList = a0.toList ∧ md j = a1 ∧ ¬ a0.toList = []
    · rw [if_pos c]
      exact Or.inr ⟨j, rfl, by omega, c.1, c.2.1, c.2.2⟩
    · rw [if_neg c]
      exact codeFrom_is a0 a1 d (j + 1) (by omega)
theorem impl_search (l : List UInt8) (hl : 3 ≤ l.length) (n pc : Int) (hp : 0 ≤ pc ∧ pc < 65536) : ∀ (d m : Nat), m + d = 13 → Ev (fun k => impl_ReadOp.l0 k ⟨l.toArray⟩ pc n (m : Int)) (findI ⟨(l.take 3).toArray⟩ l n pc d m)
  | 0, m, h => by
    refine Ev.step (f := fun _ => some ([], false)) (fun k => ?_) (Ev.now _)
    simp only [impl_ReadOp.l0]
    rw [if_neg (by omega)]
  | d + 1, m, h => by
    have ih := impl_search l hl n pc hp d (m + 1) (by omega)
    have w := w1 (i := m) (by omega)
    have hz : ((⟨l.toArray⟩ : ByteArray).size : Int) = (l.length : Int) := by rw [size_list]
    have c3 : (⟨l.toArray⟩ : ByteArray).extract 0 3 = ⟨(l.take 3).toArray⟩ := by rw [cut_list]; rfl
    have hc := impl_codeOf ⟨(l.take 3).toArray⟩ (m : Int)
    have hx := codeFrom_is ⟨(l.take 3).toArray⟩ (m : Int) 256 0 rfl
    simp only [findI]
    generalize codeFrom ⟨(l.take 3).toArray⟩ (m : Int) 256 0 = code at hc hx ⊢
    refine Ev.step (f := fun k => (impl_CodeOf.f k ⟨(l.take 3).toArray⟩ (m : Int)).bind fun t276 => (if t276 < 0 then (impl_ReadOp.l0 k ⟨l.toArray⟩ pc n ((m + 1 : Nat) : Int)) else ((impl_SizeOf.f k ((t276) % 256)).bind fun t280 => (if 0 ≤ t280 then (if t280 ≤ 3 then (if (m : Int) = 12 then (if 1 < ((([(t276) % 256, (n) % 256, (n / 256) % 256] : List Int).take t280.toNat).length : Int) then (impl_ReadOp.j2 k ⟨l.toArray⟩ pc n (m : Int) ((([(t276) % 256, (n) % 256, (n / 256) % 256] : List Int).take t280.toNat).set 1 ((wrap64 ((wrap64 (n - (wrap64 pc))) - 2)) % 256))) else none) else (impl_ReadOp.j2 k ⟨l.toArray⟩ pc n (m : Int) (([(t276) % 256, (n) % 256, (n / 256) % 256] : List Int).take t280.toNat))) else none) else none)))) (fun k => ?_) ?_
    · simp only [impl_ReadOp.l0, hz, w, c3, Option.bind_some]
      rw [if_pos (by omega)]
      simp only [if_pos (show (0 : Nat) ≤ 3 by omega), if_pos (show (0 : Int) ≤ 3 by omega), if_pos (show (3 : Int) ≤ (l.length : Int) by omega)]
      rfl
    · refine Ev.bind hc ?_
      by_cases c : code < 0
      · simp only [if_pos c]
        exact ih
      · obtain ⟨i, rfl, hi, _, hm, _⟩ := hx.resolve_left c
        have hz3 := sz_le (md i)
        have hs1 : 1 ≤ sz (md i) := by
          rw [hm]
          have : m = 0 ∨ m = 1 ∨ m = 2 ∨ m = 3 ∨ m = 4 ∨ m = 5 ∨ m = 6 ∨ m = 7 ∨ m = 8 ∨ m = 9 ∨ m = 10 ∨ m = 11 ∨ m = 12 := by omega
          rcases this with rfl | rfl | rfl | rfl | rfl | rfl | rfl | rfl | rfl | rfl | rfl | rfl | rfl <;> decide
        simp only [if_neg c, mod256 hi, Int.toNat_natCast]
        refine Ev.bind (isize_ev hi) ?_
        simp only [if_pos (show (0 : Int) ≤ ((sz (md i) : Nat) : Int) by omega), if_pos (show ((sz (md i) : Nat) : Int) ≤ 3 by omega), Int.toNat_natCast]
        have last : Ev (fun k => impl_ReadOp.j2 k ⟨l.toArray⟩ pc n (m : Int) (BI i n pc)) (if (showL (BI i n pc) pc).data.toList = l then (BI i n pc, true) else findI ⟨(l.take 3).toArray⟩ l n pc d (m + 1)) := by
          have cl : slices_Clone_byte_byte.f (BI i n pc) = some (BI i n pc) := by
            unfold slices_Clone_byte_byte.f Giv.cloneB
            rw [if_pos (by rw [len_BI]; omega)]
          refine Ev.step (f := fun k => (impl_ShowOp.f k (BI i n pc) pc).bind fun t => (if t.data.toList = l then (some (BI i n pc, true)) else (impl_ReadOp.l0 k ⟨l.toArray⟩ pc n ((m + 1 : Nat) : Int)))) (fun k => ?_) ?_
          · simp only [impl_ReadOp.j2, w, toList_data, cl, Option.bind_some]
          · refine Ev.bind (impl_show (BI i n pc) pc hp (mem_BI i hi n pc)) ?_
            by_cases g : (showL (BI i n pc) pc).data.toList = l
            · simp only [if_pos g]
              exact Ev.now _
            · simp only [if_neg g]
              exact ih
        by_cases g : md i = 12
        · have hb : BI i n pc = (([(i : Int), n % 256, n / 256 % 256] : List Int).take (sz (md i))).set 1 ((wrap64 ((wrap64 (n - (wrap64 pc))) - 2)) % 256) := by
            unfold BI
            rw [if_pos g, g, sz_12]
            rfl
          have hlen : (1 : Int) < ((([(i : Int), n % 256, n / 256 % 256] : List Int).take (sz (md i))).length : Int) := by
            rw [g, sz_12]
            simp
          rw [hb] at last ⊢
          simp only [if_pos (show (m : Int) = 12 by omega), if_pos hlen]
          exact last
        · have hb : BI i n pc = ([(i : Int), n % 256, n / 256 % 256] : List Int).take (sz (md i)) := by
            unfold BI
            rw [if_neg g]
          rw [hb] at last ⊢
          simp only [if_neg (show ¬ (m : Int) = 12 by omega)]
          exact last

set_option maxRecDepth 100000 in
theorem name_all : ∀ i : Fin 256, (md i.val = -1 ∧ (nm i.val).data.toList = []) ∨ (0 ≤ md i.val ∧ md i.val ≤ 12 ∧ (nm i.val).data.toList.length = 3 ∧ (nm i.val).data.toList.all (fun b => b != 36) = true) := by decide +kernel
set_option maxRecDepth 100000 in
/-- No name has both a branch and a word. -/
theorem branch_apart : ∀ i : Fin 256, (List.range 256).all (fun j => !(key i.val % 16 == 13 && key j % 16 == 7 && key i.val / 16 == key j / 16)) = true := by decide +kernel
theorem key_lo (i : Nat) (hi : i < 256) : key i % 16 = (md i + 1).toNat % 16 ∧ key i / 16 = ((nm i).toList.foldl (fun a b => a * 256 + b.toNat) 0) + (md i + 1).toNat / 16 := by
  have h := (key_all ⟨i, hi⟩).1
  simp only at h
  have e : Go.Proofs.YtlglpolokcnlhaaDoor.MKO.keyOf (nm i).toList (md i) = ((nm i).toList.foldl (fun a b => a * 256 + b.toNat) 0) * 16 + (md i + 1).toNat := rfl
  rw [← h, e]
  constructor <;> omega
theorem no_both {i j : Nat} (hi : i < 256) (hj : j < 256) (hn : (nm i).toList = (nm j).toList) (h12 : md i = 12) (h6 : md j = 6) : False := by
  have h := List.all_eq_true.mp (branch_apart ⟨i, hi⟩) j (by simpa using hj)
  have a := key_lo i hi
  have b := key_lo j hj
  rw [h12] at a
  rw [h6, ← hn] at b
  have e1 : key i % 16 = 13 := a.1
  have e2 : key j % 16 = 7 := b.1
  have e3 : key i / 16 = key j / 16 := by rw [a.2, b.2]; rfl
  simp [e1, e2, e3] at h
/-- The text of bytes that are an operation's. -/
theorem show_shape (i : Nat) (hi : i < 256) (hm : 0 ≤ md i ∧ md i ≤ 12) (L : List Int) (hL : L.length = sz (md i)) (h0 : rd L 0 = (i : Int)) (pc : Int) : (showL L pc).data.toList = (nm i).data.toList ++ TB (md i) (rd L 1).toNat (rd L 2).toNat (tg pc (rd L 1).toNat) := by
  have hs : sz (md i) ≠ 0 := by
    rcases modes hm with h | h | h | h | h | h | h | h | h | h | h | h | h <;> rw [h] <;> decide
  unfold showL
  rw [if_neg (by omega)]
  simp only [h0, Int.toNat_natCast]
  rw [if_neg hs, if_neg (by omega)]
  exact opnd_T (nm i) (md i) hm _ _ _
theorem rd_BS0 (i : Nat) (hm : 0 ≤ md i ∧ md i ≤ 12) (n pc : Int) : rd (BS i n pc) 0 = (i : Int) ∧ rd (BI i n pc) 0 = (i : Int) ∧ rd (B i n pc) 0 = (i : Int) := by
  have hs : ∃ q, sz (md i) = q + 1 := by
    rcases modes hm with h | h | h | h | h | h | h | h | h | h | h | h | h <;> rw [h] <;> exact ⟨_, rfl⟩
  obtain ⟨q, hq⟩ := hs
  unfold BS BI B
  by_cases c : md i = 12
  · simp only [if_pos c]
    exact ⟨rfl, rfl, rfl⟩
  · simp only [if_neg c, hq]
    exact ⟨rfl, rfl, rfl⟩
/-- Whatever numbers were read: a text that fits an operation is of its shape. -/
theorem fits_shape (s3 l : List UInt8) (h3 : s3.length = 3) (i : Nat) (hi : i < 256) (hn : (nm i).data.toList = s3) : (0 ≤ md i ∧ md i ≤ 12) ∧ ∃ x y z : UInt8, s3 = [x, y, z] ∧ x ≠ 36 ∧ y ≠ 36 ∧ z ≠ 36 := by
  have h := name_all ⟨i, hi⟩
  simp only at h
  rcases h with ⟨_, h⟩ | ⟨h0, h1, h2, h4⟩
  · rw [hn] at h
    rw [h] at h3
    exact absurd h3 (by decide)
  · refine ⟨⟨h0, h1⟩, ?_⟩
    rw [hn] at h4
    match s3, h3 with
    | [x, y, z], _ =>
      simp at h4
      exact ⟨x, y, z, rfl, h4.1, h4.2.1, h4.2.2⟩
theorem numT_range (m : Int) (a b c d : Fin 16) : 0 ≤ numT m a.val b.val c.val d.val ∧ numT m a.val b.val c.val d.val < 65536 := by
  unfold numT
  split <;> omega
theorem sz_one {m : Int} (h : 0 ≤ m ∧ m ≤ 12) (hs : ¬ 2 ≤ m) : sz m = 1 := by
  have : m = 0 ∨ m = 1 := by omega
  rcases this with rfl | rfl <;> rfl
theorem B_one (i : Nat) (n n' pc : Int) (hs : sz (md i) = 1) : BS i n pc = BI i n' pc := by
  have g : ¬ md i = 12 := fun e => by rw [e] at hs; exact absurd hs (by decide)
  unfold BS BI
  rw [if_neg g, if_neg g, hs]
  rfl
/-- Where a text fits an operation for what was read on one side, it does so for the other, with the same bytes. -/
theorem same_bytes (l : List UInt8) (hl : 3 ≤ l.length) (pc : Int) (hp : 0 ≤ pc ∧ pc < 65536) (i : Nat) (hi : i < 256) (hn : (nm i).data.toList = l.take 3) (L : List Int) (hL : L = BS i (numS l) pc ∨ L = BI i (numI l) pc) (hf : (showL L pc).data.toList = l) : BS i (numS l) pc = BI i (numI l) pc := by
  obtain ⟨hm, x, y, z, hxyz, hx, hy, hw⟩ := fits_shape (l.take 3) l (by simp; omega) i hi hn
  by_cases h2 : 2 ≤ md i
  · have hlen : L.length = sz (md i) := by rcases hL with h | h <;> rw [h]; (· exact len_BS _ _ _); exact len_BI _ _ _
    have h0 : rd L 0 = (i : Int) := by rcases hL with h | h <;> rw [h]; (· exact (rd_BS0 i hm _ _).1); exact (rd_BS0 i hm _ _).2.1
    have hs := show_shape i hi hm L hlen h0 pc
    rw [hf, hn, hxyz] at hs
    generalize (rd L 1).toNat = b1 at hs
    generalize (rd L 2).toNat = b2 at hs
    unfold TB at hs
    have q := q_lt (md i) b1 b2 (tg pc b1)
    have ns := nums_shape x y z hx hy hw (md i) ⟨h2, hm.2⟩ ⟨_, q.1⟩ ⟨_, q.2.1⟩ ⟨_, q.2.2.1⟩ ⟨_, q.2.2.2⟩
    have nr := numT_range (md i) ⟨_, q.1⟩ ⟨_, q.2.1⟩ ⟨_, q.2.2.1⟩ ⟨_, q.2.2.2⟩
    simp only at ns nr
    rw [← hs] at ns
    rw [ns.1, ns.2]
    rw [(B_same i _ pc nr hp).1, (B_same i _ pc nr hp).2]
  · exact B_one i _ _ pc (sz_one hm h2)
theorem same_op (l : List UInt8) (hl : 3 ≤ l.length) (pc : Int) (i j : Nat) (hi : i < 256) (hj : j < 256) (hn : (nm i).data.toList = l.take 3) (hn' : (nm j).data.toList = l.take 3) (L L' : List Int) (hL : L.length = sz (md i)) (h0 : rd L 0 = (i : Int)) (hL' : L'.length = sz (md j)) (h0' : rd L' 0 = (j : Int)) (hf : (showL L pc).data.toList = l) (hf' : (showL L' pc).data.toList = l) : i = j := by
  obtain ⟨hm, x, y, z, hxyz, hx, hy, hw⟩ := fits_shape (l.take 3) l (by simp; omega) i hi hn
  obtain ⟨hm', _⟩ := fits_shape (l.take 3) l (by simp; omega) j hj hn'
  have hs := show_shape i hi hm L hL h0 pc
  have hs' := show_shape j hj hm' L' hL' h0' pc
  rw [hf, hn] at hs
  rw [hf', hn'] at hs'
  have ht := hs.symm.trans hs'
  have ht := List.append_cancel_left ht
  unfold TB at ht
  have q := q_lt (md i) (rd L 1).toNat (rd L 2).toNat (tg pc (rd L 1).toNat)
  have q' := q_lt (md j) (rd L' 1).toNat (rd L' 2).toNat (tg pc (rd L' 1).toNat)
  have hmm := T_inj (md i) (md j) hm hm' ⟨_, q.1⟩ ⟨_, q.2.1⟩ ⟨_, q.2.2.1⟩ ⟨_, q.2.2.2⟩ ⟨_, q'.1⟩ ⟨_, q'.2.1⟩ ⟨_, q'.2.2.1⟩ ⟨_, q'.2.2.2⟩ ht
  have hnn : (nm i).toList = (nm j).toList := by rw [toList_data, toList_data, hn, hn']
  have ne : ¬ (nm i).toList = [] := by rw [toList_data, hn, hxyz]; simp
  rcases hmm with e | ⟨e6, e12⟩ | ⟨e12, e6⟩
  · have a := code_of i hi ne
    have b := code_of j hj (by rw [← hnn]; exact ne)
    have e' : codeFrom (nm i) (md i) 256 0 = codeFrom (nm j) (md j) 256 0 := by
      have en : nm i = nm j := by apply ByteArray.ext; apply Array.ext'; rw [hn, hn']
      rw [en, e]
    omega
  · exact (no_both hj hi hnn.symm e12 e6).elim
  · exact (no_both hi hj hnn e12 e6).elim
theorem findS_none (s3 l : List UInt8) (n pc : Int) : ∀ (d j : Nat), j + d = 256 → (∀ i, i < 256 → ¬ ((nm i).data.toList = s3 ∧ (showL (BS i n pc) pc).data.toList = l)) → findS s3 l n pc d j = ([], false)
  | 0, j, h, hno => rfl
  | d + 1, j, h, hno => by
    simp only [findS]
    rw [if_neg (hno j (by omega))]
    exact findS_none s3 l n pc d (j + 1) (by omega) hno
theorem findS_some (s3 l : List UInt8) (n pc : Int) (i : Nat) (hg : (nm i).data.toList = s3 ∧ (showL (BS i n pc) pc).data.toList = l) (hu : ∀ j, j < 256 → (nm j).data.toList = s3 ∧ (showL (BS j n pc) pc).data.toList = l → j = i) : ∀ (d j : Nat), j + d = 256 → j ≤ i → i < 256 → findS s3 l n pc d j = (BS i n pc, true)
  | 0, j, h, h1, h2 => by omega
  | d + 1, j, h, h1, h2 => by
    simp only [findS]
    by_cases e : j = i
    · subst e
      rw [if_pos hg]
    · rw [if_neg (fun x => e (hu j (by omega) x))]
      exact findS_some s3 l n pc i hg hu d (j + 1) (by omega) (by omega) h2
/-- The program's byte at a mode fits. -/
def GoodI (s3 : ByteArray) (l : List UInt8) (n pc : Int) (c : Nat) : Prop := (nm c).toList = s3.toList ∧ (showL (BI c n pc) pc).data.toList = l
theorem findI_none (s3 : ByteArray) (l : List UInt8) (n pc : Int) (hno : ∀ c, c < 256 → ¬ GoodI s3 l n pc c) : ∀ (d m : Nat), m + d = 13 → findI s3 l n pc d m = ([], false)
  | 0, m, h => rfl
  | d + 1, m, h => by
    have hx := codeFrom_is s3 (m : Int) 256 0 rfl
    simp only [findI]
    generalize codeFrom s3 (m : Int) 256 0 = code at hx ⊢
    by_cases c : code < 0
    · rw [if_pos c]
      exact findI_none s3 l n pc hno d (m + 1) (by omega)
    · obtain ⟨i, rfl, hi, h1, h2, h3⟩ := hx.resolve_left c
      rw [if_neg c, Int.toNat_natCast, if_neg (fun e => hno i hi ⟨h1, e⟩)]
      exact findI_none s3 l n pc hno d (m + 1) (by omega)
theorem findI_some (s3 : ByteArray) (l : List UInt8) (n pc : Int) (i : Nat) (hi : i < 256) (hg : GoodI s3 l n pc i) (hne : ¬ s3.toList = []) (hu : ∀ c, c < 256 → GoodI s3 l n pc c → c = i) : ∀ (d m : Nat), m + d = 13 → (m : Int) ≤ md i → md i ≤ 12 → findI s3 l n pc d m = (BI i n pc, true)
  | 0, m, h, h1, h2 => by omega
  | d + 1, m, h, h1, h2 => by
    have hx := codeFrom_is s3 (m : Int) 256 0 rfl
    simp only [findI]
    by_cases e : (m : Int) = md i
    · have hc : codeFrom s3 (m : Int) 256 0 = (i : Int) := by
        have a := code_of i hi (by rw [hg.1]; exact hne)
        have en : nm i = s3 := by apply ByteArray.ext; apply Array.ext'; rw [← toList_data, ← toList_data]; exact hg.1
        rw [e, ← en]
        exact a
      rw [hc, if_neg (by omega), Int.toNat_natCast, if_pos hg.2]
    · generalize codeFrom s3 (m : Int) 256 0 = code at hx ⊢
      by_cases c : code < 0
      · rw [if_pos c]
        exact findI_some s3 l n pc i hi hg hne hu d (m + 1) (by omega) (by omega) h2
      · obtain ⟨j, rfl, hj, h3, h4, h5⟩ := hx.resolve_left c
        rw [if_neg c, Int.toNat_natCast, if_neg (fun x => e (by rw [← h4, hu j hj ⟨h3, x⟩]))]
        exact findI_some s3 l n pc i hi hg hne hu d (m + 1) (by omega) (by omega) h2
/-- Both searches end alike. -/
theorem find_same (l : List UInt8) (hl : 3 ≤ l.length) (pc : Int) (hp : 0 ≤ pc ∧ pc < 65536) : findS (l.take 3) l (numS l) pc 256 0 = findI ⟨(l.take 3).toArray⟩ l (numI l) pc 13 0 ∧ (findS (l.take 3) l (numS l) pc 256 0 = ([], false) ∨ ∃ i, i < 256 ∧ (0 ≤ md i ∧ md i ≤ 12) ∧ findS (l.take 3) l (numS l) pc 256 0 = (BI i (numI l) pc, true) ∧ (showL (BI i (numI l) pc) pc).data.toList = l) := by
  have e3 : (⟨(l.take 3).toArray⟩ : ByteArray).toList = l.take 3 := by rw [toList_data]
  by_cases hg : ∃ i, i < 256 ∧ (nm i).data.toList = l.take 3 ∧ (showL (BS i (numS l) pc) pc).data.toList = l
  · obtain ⟨i, hi, h1, h2⟩ := hg
    obtain ⟨hm, x, y, z, hxyz, hx, hy, hw⟩ := fits_shape (l.take 3) l (by simp; omega) i hi h1
    have hb := same_bytes l hl pc hp i hi h1 _ (Or.inl rfl) h2
    have r0 := rd_BS0 i hm (numS l) pc
    have uS : ∀ j, j < 256 → (nm j).data.toList = l.take 3 ∧ (showL (BS j (numS l) pc) pc).data.toList = l → j = i := fun j hj hh => by
      obtain ⟨hm', _⟩ := fits_shape (l.take 3) l (by simp; omega) j hj hh.1
      exact same_op l hl pc j i hj hi hh.1 h1 _ _ (len_BS _ _ _) (rd_BS0 j hm' _ _).1 (len_BS _ _ _) r0.1 hh.2 h2
    have uI : ∀ c, c < 256 → GoodI ⟨(l.take 3).toArray⟩ l (numI l) pc c → c = i := fun j hj hh => by
      have hh1 : (nm j).data.toList = l.take 3 := by rw [← toList_data, hh.1, e3]
      obtain ⟨hm', _⟩ := fits_shape (l.take 3) l (by simp; omega) j hj hh1
      exact same_op l hl pc j i hj hi hh1 h1 _ _ (len_BI _ _ _) (rd_BS0 j hm' (numI l) pc).2.1 (len_BS _ _ _) r0.1 hh.2 h2
    have a := findS_some (l.take 3) l (numS l) pc i ⟨h1, h2⟩ uS 256 0 rfl (Nat.zero_le _) hi
    have g : GoodI ⟨(l.take 3).toArray⟩ l (numI l) pc i := ⟨by rw [toList_data, h1, e3], by rw [← hb]; exact h2⟩
    have b := findI_some ⟨(l.take 3).toArray⟩ l (numI l) pc i hi g (by rw [e3, hxyz]; simp) uI 13 0 rfl (by omega) hm.2
    rw [a, b, hb]
    exact ⟨rfl, Or.inr ⟨i, hi, hm, rfl, g.2⟩⟩
  · have noS : ∀ i, i < 256 → ¬ ((nm i).data.toList = l.take 3 ∧ (showL (BS i (numS l) pc) pc).data.toList = l) := fun i hi hh => hg ⟨i, hi, hh.1, hh.2⟩
    have noI : ∀ c, c < 256 → ¬ GoodI ⟨(l.take 3).toArray⟩ l (numI l) pc c := fun i hi hh => by
      have hh1 : (nm i).data.toList = l.take 3 := by rw [← toList_data, hh.1, e3]
      have hb := same_bytes l hl pc hp i hi hh1 _ (Or.inr rfl) hh.2
      exact hg ⟨i, hi, hh1, by rw [hb]; exact hh.2⟩
    rw [findS_none (l.take 3) l (numS l) pc 256 0 rfl noS, findI_none _ l (numI l) pc noI 13 0 rfl]
    exact ⟨rfl, Or.inl rfl⟩
/-- A text that is longer than any operation's fits none. -/
theorem show_len (i : Nat) (hi : i < 256) (hm : 0 ≤ md i ∧ md i ≤ 12) (L : List Int) (hL : L.length = sz (md i)) (h0 : rd L 0 = (i : Int)) (pc : Int) : (showL L pc).data.toList.length ≤ 12 := by
  rw [show_shape i hi hm L hL h0 pc, List.length_append]
  have h := name_all ⟨i, hi⟩
  simp only at h
  have hlen : (nm i).data.toList.length ≤ 3 := by
    rcases h with ⟨_, h⟩ | ⟨_, _, h, _⟩
    · rw [h]; simp
    · omega
  have : (TB (md i) (rd L 1).toNat (rd L 2).toNat (tg pc (rd L 1).toNat)).length ≤ 8 := by
    unfold TB
    rcases modes hm with e | e | e | e | e | e | e | e | e | e | e | e | e <;> rw [e] <;> simp [T]
  omega
theorem long_none (l : List UInt8) (hl : 12 < l.length) (pc : Int) : findI ⟨(l.take 3).toArray⟩ l (numI l) pc 13 0 = ([], false) := by
  have e3 : (⟨(l.take 3).toArray⟩ : ByteArray).toList = l.take 3 := by rw [toList_data]
  refine findI_none _ l (numI l) pc (fun i hi hh => ?_) 13 0 rfl
  have hh1 : (nm i).data.toList = l.take 3 := by rw [← toList_data, hh.1, e3]
  obtain ⟨hm, _⟩ := fits_shape (l.take 3) l (by simp; omega) i hi hh1
  have := show_len i hi hm (BI i (numI l) pc) (len_BI _ _ _) (rd_BS0 i hm (numI l) pc).2.1 pc
  rw [hh.2] at this
  omega
end Go.Proofs.YtlglpolokcnlhaaDoor.MKV
