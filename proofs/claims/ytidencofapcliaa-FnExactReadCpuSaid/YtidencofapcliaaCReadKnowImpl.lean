/-
ReadKnow: the program's and the reference's answers are the same for every text.
-/
import Derived.Test.YtidencofapcliaaMCx5
import Derived.Test.YtidencofapcliaaMCx6
import Derived.Test.YtidencofapcliaaCReadHexSame
import Derived.Test.YtidencofapcliaaCKnowImpl
import Derived.Test.YtidencofapcliaaTxtSame
set_option linter.unusedSimpArgs false
set_option linter.unusedVariables false
namespace Go.Proofs.Ytidencofapcliaa.MCB
open Go.RowKit Go.Proofs.Ytidencofapcliaa.MC Go.Proofs.Ytidencofapcliaa.MCK Go.Proofs.Ytidencofapcliaa.Txt Go.Proofs.YtidencofapcliaaW.PrintWords Go.Proofs.YtidencofapcliaaW.PrintLast Go.Proofs.Ytidencofapcliaa.Bit Go.Proofs.Ytidencofapcliaa.Lst

abbrev R12 := Int × Int × Int × Int × Int × Int × Int × Int × Int × Int × Int × Bool
abbrev none12 : R12 := (0, 0, 0, 0, 0, 0, 0, 0, 0, 0, 0, false)
abbrev NV : ByteArray := ⟨#[78, 86, 68, 73, 90, 67]⟩
def sgb (x : Int) (i : Nat) : UInt8 := if x = -1 then 63 else if x = 0 then 45 else NV.get! i
theorem sign_byte (x : Int) (i : Nat) (hi : i < 6) : impl_KnowText.sign x i = ⟨#[sgb x i]⟩ := by
  unfold impl_KnowText.sign sgb
  by_cases c : x = -1
  · rw [if_pos c, if_pos c]
  · rw [if_neg c, if_neg c]
    by_cases d : x = 0
    · rw [if_pos d, if_pos d]
    · rw [if_neg d, if_neg d]
      match i, hi with
      | 0, _ => rfl
      | 1, _ => rfl
      | 2, _ => rfl
      | 3, _ => rfl
      | 4, _ => rfl
      | 5, _ => rfl
      | n + 6, h => omega
theorem sgb_val (x : Int) (i : Nat) (hi : i < 6) : ((sgb x i).toNat : Int) = if x = -1 then 63 else if x = 0 then 45 else bt NV (i : Int) := by
  unfold sgb
  by_cases c : x = -1
  · rw [if_pos c, if_pos c]; rfl
  · rw [if_neg c, if_neg c]
    by_cases d : x = 0
    · rw [if_pos d, if_pos d]; rfl
    · rw [if_neg d, if_neg d]
      match i, hi with
      | 0, _ => rfl
      | 1, _ => rfl
      | 2, _ => rfl
      | 3, _ => rfl
      | 4, _ => rfl
      | 5, _ => rfl
      | n + 6, h => omega
theorem letter (i : Nat) (hi : i < 6) : bt NV (i : Int) ≠ 63 ∧ bt NV (i : Int) ≠ 45 := by
  match i, hi with
  | 0, _ => exact ⟨by decide, by decide⟩
  | 1, _ => exact ⟨by decide, by decide⟩
  | 2, _ => exact ⟨by decide, by decide⟩
  | 3, _ => exact ⟨by decide, by decide⟩
  | 4, _ => exact ⟨by decide, by decide⟩
  | 5, _ => exact ⟨by decide, by decide⟩
  | n + 6, h => omega
/-- A right Know's text: its bytes. -/
theorem KT_bytes (a0 a1 a2 a3 a4 a5 a6 a7 a8 a9 a10 : Int) (h : okB a0 a1 a2 a3 a4 a5 a6 a7 a8 a9 a10 = true) : ∃ p0 p1 p2 p3 p4 p5 p6 p7 p8 p9 pa pb : UInt8,
    (dgs 2 a0 = ⟨#[p0, p1]⟩ ∧ dgs 2 a1 = ⟨#[p2, p3]⟩ ∧ dgs 2 a2 = ⟨#[p4, p5]⟩ ∧ dgs 2 a3 = ⟨#[p6, p7]⟩ ∧ dgs 4 a4 = ⟨#[p8, p9, pa, pb]⟩) ∧
    KT a0 a1 a2 a3 a4 a5 a6 a7 a8 a9 a10 = ⟨#[65, 61, p0, p1, 32, 88, 61, p2, p3, 32, 89, 61, p4, p5, 32, 83, 61, p6, p7, 32, 80, 67, 61, p8, p9, pa, pb, 32, sgb a5 0, sgb a6 1, sgb a7 2, sgb a8 3, sgb a9 4, sgb a10 5]⟩ := by
  obtain ⟨p0, p1, e0⟩ := two_bytes _ (dgs_size (Or.inl rfl) a0)
  obtain ⟨p2, p3, e1⟩ := two_bytes _ (dgs_size (Or.inl rfl) a1)
  obtain ⟨p4, p5, e2⟩ := two_bytes _ (dgs_size (Or.inl rfl) a2)
  obtain ⟨p6, p7, e3⟩ := two_bytes _ (dgs_size (Or.inl rfl) a3)
  obtain ⟨p8, p9, pa, pb, e4⟩ := four_bytes _ (dgs_size (Or.inr rfl) a4)
  refine ⟨p0, p1, p2, p3, p4, p5, p6, p7, p8, p9, pa, pb, ⟨e0, e1, e2, e3, e4⟩, ?_⟩
  unfold KT
  rw [if_pos h, e0, e1, e2, e3, e4]
  unfold impl_KnowText.head
  simp only [impl_KnowText.signs, sign_byte _ 0 (by decide), sign_byte _ (0 + 1) (by decide), sign_byte _ (0 + 1 + 1) (by decide), sign_byte _ (0 + 1 + 1 + 1) (by decide), sign_byte _ (0 + 1 + 1 + 1 + 1) (by decide), sign_byte _ (0 + 1 + 1 + 1 + 1 + 1) (by decide)]
  apply ByteArray.ext
  simp
theorem KT_ok {s : ByteArray} {a0 a1 a2 a3 a4 a5 a6 a7 a8 a9 a10 : Int} (h : KT a0 a1 a2 a3 a4 a5 a6 a7 a8 a9 a10 = s) (hz : s.size = 34) : okB a0 a1 a2 a3 a4 a5 a6 a7 a8 a9 a10 = true := by
  by_cases c : okB a0 a1 a2 a3 a4 a5 a6 a7 a8 a9 a10 = true
  · exact c
  · unfold KT at h
    rw [if_neg c] at h
    rw [← h] at hz
    exact absurd hz (by decide)
theorem KT_at {s : ByteArray} {r0 r1 r2 r3 r4 : Int} (F : Nat → Int) (h : KT r0 r1 r2 r3 r4 (F 0) (F 1) (F 2) (F 3) (F 4) (F 5) = s) (hz : s.size = 34) (j : Nat) (hj : j < 6) :
    bt s ((28 + j : Nat) : Int) = if F j = -1 then 63 else if F j = 0 then 45 else bt NV (j : Int) := by
  obtain ⟨p0, p1, p2, p3, p4, p5, p6, p7, p8, p9, pa, pb, _, e⟩ := KT_bytes _ _ _ _ _ _ _ _ _ _ _ (KT_ok h hz)
  rw [← sgb_val (F j) j hj, ← h, e]
  match j, hj with
  | 0, _ => rfl
  | 1, _ => rfl
  | 2, _ => rfl
  | 3, _ => rfl
  | 4, _ => rfl
  | 5, _ => rfl
  | n + 6, h => omega
/-- What the reference reads of a sign. -/
def sf (s : ByteArray) (j : Nat) : Int := if bt s ((28 + j : Nat) : Int) = 63 then -1 else if bt s ((28 + j : Nat) : Int) = 45 then 0 else 1
def fin12 (s t : ByteArray) (a0 a1 a2 a3 a4 a5 a6 a7 a8 a9 a10 : Int) : R12 := if t = s then (a0, a1, a2, a3, a4, a5, a6, a7, a8, a9, a10, true) else none12
def rh (s : ByteArray) (x y n : Nat) : Int := MCX.hexF (s.extract x y) n 0 0
theorem ex_size {s : ByteArray} (hz : s.size = 34) {x y n : Nat} (h : x + n = y) (hy : y ≤ 34) : (s.extract x y).size = n := by
  rw [ByteArray.size_extract]
  omega
/-- The answer for a text. -/
def answer (s : ByteArray) : R12 := if s.size = 34 then fin12 s (KT (rh s 2 4 2) (rh s 7 9 2) (rh s 12 14 2) (rh s 17 19 2) (rh s 23 27 4) (sf s 0) (sf s 1) (sf s 2) (sf s 3) (sf s 4) (sf s 5)) (rh s 2 4 2) (rh s 7 9 2) (rh s 12 14 2) (rh s 17 19 2) (rh s 23 27 4) (sf s 0) (sf s 1) (sf s 2) (sf s 3) (sf s 4) (sf s 5) else none12
theorem nothing_size : (KT (-1) (-1) (-1) (-1) (-1) (-1) (-1) (-1) (-1) (-1) (-1)).size = 34 := by
  obtain ⟨p0, p1, p2, p3, p4, p5, p6, p7, p8, p9, pa, pb, _, e⟩ := KT_bytes (-1) (-1) (-1) (-1) (-1) (-1) (-1) (-1) (-1) (-1) (-1) (by decide)
  rw [e]
  rfl
theorem impl_read (s : ByteArray) : Ev (fun k => impl_ReadKnow.f k s) (answer s) := by
  unfold impl_ReadKnow.f answer
  refine Ev.bind (impl_text (-1) (-1) (-1) (-1) (-1) (-1) (-1) (-1) (-1) (-1) (-1)) ?_
  simp only [nothing_size]
  by_cases hz : s.size = 34
  · simp only [if_pos hz, if_true]
    refine Ev.bind (MCX.impl_hex (n := 2) (by omega) (ex_size hz (by rfl) (by omega))) (Ev.bind (MCX.impl_hex (n := 2) (by omega) (ex_size hz (by rfl) (by omega))) (Ev.bind (MCX.impl_hex (n := 2) (by omega) (ex_size hz (by rfl) (by omega))) (Ev.bind (MCX.impl_hex (n := 2) (by omega) (ex_size hz (by rfl) (by omega))) (Ev.bind (MCX.impl_hex (n := 4) (by omega) (ex_size hz (by rfl) (by omega))) ?_))))
    show Ev _ (fin12 s (KT (rh s 2 4 2) (rh s 7 9 2) (rh s 12 14 2) (rh s 17 19 2) (rh s 23 27 4) (sf s 0) (sf s 1) (sf s 2) (sf s 3) (sf s 4) (sf s 5)) (rh s 2 4 2) (rh s 7 9 2) (rh s 12 14 2) (rh s 17 19 2) (rh s 23 27 4) (sf s 0) (sf s 1) (sf s 2) (sf s 3) (sf s 4) (sf s 5))
    change Ev (fun k => (impl_KnowText.f k (rh s 2 4 2) (rh s 7 9 2) (rh s 12 14 2) (rh s 17 19 2) (rh s 23 27 4) (impl_ReadKnow.flag s 0) (impl_ReadKnow.flag s 1) (impl_ReadKnow.flag s 2) (impl_ReadKnow.flag s 3) (impl_ReadKnow.flag s 4) (impl_ReadKnow.flag s 5)).bind fun tx => if tx.toList = s.toList then some (rh s 2 4 2, rh s 7 9 2, rh s 12 14 2, rh s 17 19 2, rh s 23 27 4, impl_ReadKnow.flag s 0, impl_ReadKnow.flag s 1, impl_ReadKnow.flag s 2, impl_ReadKnow.flag s 3, impl_ReadKnow.flag s 4, impl_ReadKnow.flag s 5, true) else some none12) _
    generalize rh s 2 4 2 = r0
    generalize rh s 7 9 2 = r1
    generalize rh s 12 14 2 = r2
    generalize rh s 17 19 2 = r3
    generalize rh s 23 27 4 = r4
    refine Ev.bind (impl_text r0 r1 r2 r3 r4 _ _ _ _ _ _) ?_
    simp only [toList_iff]
    by_cases good : ∀ j, j < 6 → bt s ((28 + j : Nat) : Int) = 63 ∨ bt s ((28 + j : Nat) : Int) = 45 ∨ bt s ((28 + j : Nat) : Int) = bt NV (j : Int)
    · have e : ∀ j, j < 6 → impl_ReadKnow.flag s j = sf s j := fun j hj => by
        have hl := letter j hj
        unfold impl_ReadKnow.flag sf
        rcases good j hj with g | g | g
        · rw [if_pos g, if_pos g]
        · have x1 : ¬ bt s ((28 + j : Nat) : Int) = 63 := by rw [g]; decide
          have x2 : ¬ bt s ((28 + j : Nat) : Int) = bt NV (j : Int) := by rw [g]; exact fun h => hl.2 h.symm
          rw [if_neg x1, if_neg x2, if_neg x1, if_pos g]
        · have x1 : ¬ bt s ((28 + j : Nat) : Int) = 63 := by rw [g]; exact hl.1
          have x2 : ¬ bt s ((28 + j : Nat) : Int) = 45 := by rw [g]; exact hl.2
          rw [if_neg x1, if_pos g, if_neg x1, if_neg x2]
      rw [e 0 (by decide), e 1 (by decide), e 2 (by decide), e 3 (by decide), e 4 (by decide), e 5 (by decide)]
      unfold fin12
      by_cases c : KT r0 r1 r2 r3 r4 (sf s 0) (sf s 1) (sf s 2) (sf s 3) (sf s 4) (sf s 5) = s
      · rw [if_pos c, if_pos c]; exact Ev.now _
      · rw [if_neg c, if_neg c]; exact Ev.now _
    · obtain ⟨j, hj⟩ := Classical.not_forall.mp good
      obtain ⟨hj6, hb⟩ := Classical.not_imp.mp hj
      have b1 : ¬ bt s ((28 + j : Nat) : Int) = 63 := fun h => hb (Or.inl h)
      have b2 : ¬ bt s ((28 + j : Nat) : Int) = 45 := fun h => hb (Or.inr (Or.inl h))
      have b3 : ¬ bt s ((28 + j : Nat) : Int) = bt NV (j : Int) := fun h => hb (Or.inr (Or.inr h))
      have n1 : ¬ KT r0 r1 r2 r3 r4 (impl_ReadKnow.flag s 0) (impl_ReadKnow.flag s 1) (impl_ReadKnow.flag s 2) (impl_ReadKnow.flag s 3) (impl_ReadKnow.flag s 4) (impl_ReadKnow.flag s 5) = s := fun h => by
        have q := KT_at (fun j => impl_ReadKnow.flag s j) h hz j hj6
        have f : impl_ReadKnow.flag s j = 0 := by unfold impl_ReadKnow.flag; rw [if_neg b1, if_neg b3]
        simp only [f] at q
        exact b2 q
      have n2 : ¬ KT r0 r1 r2 r3 r4 (sf s 0) (sf s 1) (sf s 2) (sf s 3) (sf s 4) (sf s 5) = s := fun h => by
        have q := KT_at (fun j => sf s j) h hz j hj6
        have f : sf s j = 1 := by unfold sf; rw [if_neg b1, if_neg b2]
        simp only [f] at q
        exact b3 q
      unfold fin12
      rw [if_neg n1, if_neg n2]
      exact Ev.now _
  · simp only [if_neg hz]
    exact Ev.now _
end Go.Proofs.Ytidencofapcliaa.MCB
