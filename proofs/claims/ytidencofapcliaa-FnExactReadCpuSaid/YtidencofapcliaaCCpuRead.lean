/-
ReadCpu: the program's and the reference's answers are the same for every text.
-/
import Derived.Test.YtidencofapcliaaMCx2
import Derived.Test.YtidencofapcliaaMCx3
import Derived.Test.YtidencofapcliaaMCx5
import Derived.Test.YtidencofapcliaaMCx7
import Derived.Test.YtidencofapcliaaCCpuSame
import Derived.Test.YtidencofapcliaaCReadKnowImpl
set_option linter.unusedSimpArgs false
set_option linter.unusedVariables false
namespace Go.Proofs.Ytidencofapcliaa.MCR
open Go.RowKit Go.Proofs.Ytidencofapcliaa.MC Go.Proofs.Ytidencofapcliaa.MCK Go.Proofs.Ytidencofapcliaa.MCB Go.Proofs.Ytidencofapcliaa.MCC Go.Proofs.Ytidencofapcliaa.MCH Go.Proofs.Ytidencofapcliaa.Txt Go.Proofs.YtidencofapcliaaW.PrintWords Go.Proofs.YtidencofapcliaaW.PrintLast Go.Proofs.Ytidencofapcliaa.Bit Go.Proofs.Ytidencofapcliaa.Lst

abbrev C12 := Int × Int × Int × Int × Int × Bool × Bool × Bool × Bool × Bool × Bool × Bool
abbrev noc : C12 := (0, 0, 0, 0, 0, false, false, false, false, false, false, false)
def cfin (s t : ByteArray) (a0 a1 a2 a3 a4 : Int) (f0 f1 f2 f3 f4 f5 : Bool) : C12 := if t = s then (a0, a1, a2, a3, a4, f0, f1, f2, f3, f4, f5, true) else noc
/-- Is the letter there? -/
def lf (s : ByteArray) (j : Nat) (c : Int) : Bool := bt s ((28 + j : Nat) : Int) == c
theorem hexF2 (s : ByteArray) : -1 ≤ MCX.hexF s 2 0 0 ∧ MCX.hexF s 2 0 0 < 256 := by
  simp only [MCX.hexF]
  have h0 := MCX.hexv_range (bt s ((0 : Nat) : Int)).toNat
  have h1 := MCX.hexv_range (bt s ((0 + 1 : Nat) : Int)).toNat
  repeat' split
  all_goals omega
theorem hexF4 (s : ByteArray) : -1 ≤ MCX.hexF s 4 0 0 ∧ MCX.hexF s 4 0 0 < 65536 := by
  simp only [MCX.hexF]
  have h0 := MCX.hexv_range (bt s ((0 : Nat) : Int)).toNat
  have h1 := MCX.hexv_range (bt s ((0 + 1 : Nat) : Int)).toNat
  have h2 := MCX.hexv_range (bt s ((0 + 1 + 1 : Nat) : Int)).toNat
  have h3 := MCX.hexv_range (bt s ((0 + 1 + 1 + 1 : Nat) : Int)).toNat
  repeat' split
  all_goals omega
theorem rh2 (s : ByteArray) (x y : Nat) : -1 ≤ rh s x y 2 ∧ rh s x y 2 < 256 := hexF2 _
theorem rh4 (s : ByteArray) (x y : Nat) : -1 ≤ rh s x y 4 ∧ rh s x y 4 < 65536 := hexF4 _
theorem wrap16 {x : Int} (h : 0 ≤ x ∧ x < 65536) : IntKind.u16.wrap x = x := by
  have e : IntKind.u16.wrap x = x % 65536 := by simp [IntKind.wrap, IntKind.bits, IntKind.signed]
  rw [e]
  omega
theorem wrap16_range (x : Int) : 0 ≤ IntKind.u16.wrap x ∧ IntKind.u16.wrap x < 65536 := by
  have e : IntKind.u16.wrap x = x % 65536 := by simp [IntKind.wrap, IntKind.bits, IntKind.signed]
  rw [e]
  omega
theorem CT_bytes (a0 a1 a2 a3 a4 : Int) (f0 f1 f2 f3 f4 f5 : Bool) : ∃ p0 p1 p2 p3 p4 p5 p6 p7 p8 p9 pa pb : UInt8,
    (dgs 2 a0 = ⟨#[p0, p1]⟩ ∧ dgs 2 a1 = ⟨#[p2, p3]⟩ ∧ dgs 2 a2 = ⟨#[p4, p5]⟩ ∧ dgs 2 a3 = ⟨#[p6, p7]⟩ ∧ dgs 4 a4 = ⟨#[p8, p9, pa, pb]⟩) ∧
    CT a0 a1 a2 a3 a4 f0 f1 f2 f3 f4 f5 = ⟨#[65, 61, p0, p1, 32, 88, 61, p2, p3, 32, 89, 61, p4, p5, 32, 83, 61, p6, p7, 32, 80, 67, 61, p8, p9, pa, pb, 32, fb f0 78, fb f1 86, fb f2 68, fb f3 73, fb f4 90, fb f5 67]⟩ := by
  obtain ⟨p0, p1, e0⟩ := two_bytes _ (dgs_size (Or.inl rfl) a0)
  obtain ⟨p2, p3, e1⟩ := two_bytes _ (dgs_size (Or.inl rfl) a1)
  obtain ⟨p4, p5, e2⟩ := two_bytes _ (dgs_size (Or.inl rfl) a2)
  obtain ⟨p6, p7, e3⟩ := two_bytes _ (dgs_size (Or.inl rfl) a3)
  obtain ⟨p8, p9, pa, pb, e4⟩ := four_bytes _ (dgs_size (Or.inr rfl) a4)
  refine ⟨p0, p1, p2, p3, p4, p5, p6, p7, p8, p9, pa, pb, ⟨e0, e1, e2, e3, e4⟩, ?_⟩
  unfold CT
  rw [e0, e1, e2, e3, e4]
  unfold impl_KnowText.head FT
  apply ByteArray.ext
  simp
theorem dgs_ne {n : Nat} (hn : n = 2 ∨ n = 4) {u v : Int} (hu : 0 ≤ u) (h : dgs n u = dgs n v) : 0 ≤ v := by
  by_cases c : v < 0
  · exfalso
    have e1 : dgs n u = strOfNums (hexL n u.toNat) := by unfold dgs; rw [if_neg (by omega)]
    have e2 : dgs n v = qm n := by unfold dgs; rw [if_pos c]
    rw [e1, e2] at h
    have key : ∀ j : Fin 16, (dig j.val).toNat.toUInt8 ≠ 63 := by decide +kernel
    rcases hn with rfl | rfl
    · have h2 := congrArg (fun s : ByteArray => s.data.toList) h
      simp [strOfNums, hexL, qm] at h2
      exact key ⟨u.toNat / 16 % 16, by omega⟩ h2.1
    · have h2 := congrArg (fun s : ByteArray => s.data.toList) h
      simp [strOfNums, hexL, qm] at h2
      exact key ⟨u.toNat / 16 / 16 / 16 % 16, by omega⟩ h2.1
  · omega
theorem inj28 {p0 p1 p2 p3 p4 p5 p6 p7 p8 p9 pa pb c0 c1 c2 c3 c4 c5 q0 q1 q2 q3 q4 q5 q6 q7 q8 q9 qa qb d0 d1 d2 d3 d4 d5 : UInt8} (h : (⟨#[65, 61, p0, p1, 32, 88, 61, p2, p3, 32, 89, 61, p4, p5, 32, 83, 61, p6, p7, 32, 80, 67, 61, p8, p9, pa, pb, 32, c0, c1, c2, c3, c4, c5]⟩ : ByteArray) = ⟨#[65, 61, q0, q1, 32, 88, 61, q2, q3, 32, 89, 61, q4, q5, 32, 83, 61, q6, q7, 32, 80, 67, 61, q8, q9, qa, qb, 32, d0, d1, d2, d3, d4, d5]⟩) :
    (p0 = q0 ∧ p1 = q1) ∧ (p2 = q2 ∧ p3 = q3) ∧ (p4 = q4 ∧ p5 = q5) ∧ (p6 = q6 ∧ p7 = q7) ∧ (p8 = q8 ∧ p9 = q9 ∧ pa = qa ∧ pb = qb) := by
  simp at h
  obtain ⟨h0, h1, h2, h3, h4, h5, h6, h7, h8, h9, ha, hb, _⟩ := h
  exact ⟨⟨h0, h1⟩, ⟨h2, h3⟩, ⟨h4, h5⟩, ⟨h6, h7⟩, h8, h9, ha, hb⟩
/-- A processor's text is no text with a question mark in it. -/
theorem clash {u0 u1 u2 u3 u4 r0 r1 r2 r3 r4 : Int} {f0 f1 f2 f3 f4 f5 : Bool} {g0 g1 g2 g3 g4 g5 : Int} (h0 : 0 ≤ u0) (h1 : 0 ≤ u1) (h2 : 0 ≤ u2) (h3 : 0 ≤ u3) (h4 : 0 ≤ u4) (hok : okB r0 r1 r2 r3 r4 g0 g1 g2 g3 g4 g5 = true)
    (h : CT u0 u1 u2 u3 u4 f0 f1 f2 f3 f4 f5 = KT r0 r1 r2 r3 r4 g0 g1 g2 g3 g4 g5) : 0 ≤ r0 ∧ 0 ≤ r1 ∧ 0 ≤ r2 ∧ 0 ≤ r3 ∧ 0 ≤ r4 := by
  obtain ⟨p0, p1, p2, p3, p4, p5, p6, p7, p8, p9, pa, pb, ⟨a0, a1, a2, a3, a4⟩, ec⟩ := CT_bytes u0 u1 u2 u3 u4 f0 f1 f2 f3 f4 f5
  obtain ⟨q0, q1, q2, q3, q4, q5, q6, q7, q8, q9, qa, qb, ⟨b0, b1, b2, b3, b4⟩, ek⟩ := KT_bytes r0 r1 r2 r3 r4 g0 g1 g2 g3 g4 g5 hok
  rw [ec, ek] at h
  obtain ⟨⟨i0, i1⟩, ⟨i2, i3⟩, ⟨i4, i5⟩, ⟨i6, i7⟩, i8, i9, ia, ib⟩ := inj28 h
  refine ⟨dgs_ne (Or.inl rfl) h0 (by rw [a0, b0, i0, i1]), dgs_ne (Or.inl rfl) h1 (by rw [a1, b1, i2, i3]), dgs_ne (Or.inl rfl) h2 (by rw [a2, b2, i4, i5]), dgs_ne (Or.inl rfl) h3 (by rw [a3, b3, i6, i7]), dgs_ne (Or.inr rfl) h4 (by rw [a4, b4, i8, i9, ia, ib])⟩
/-- The answer for a text. -/
def cans (s : ByteArray) : C12 := if s.size = 34 then (if 0 ≤ rh s 2 4 2 ∧ 0 ≤ rh s 7 9 2 ∧ 0 ≤ rh s 12 14 2 ∧ 0 ≤ rh s 17 19 2 ∧ 0 ≤ rh s 23 27 4 then cfin s (CT (rh s 2 4 2) (rh s 7 9 2) (rh s 12 14 2) (rh s 17 19 2) (rh s 23 27 4) (lf s 0 78) (lf s 1 86) (lf s 2 68) (lf s 3 73) (lf s 4 90) (lf s 5 67)) (rh s 2 4 2) (rh s 7 9 2) (rh s 12 14 2) (rh s 17 19 2) (rh s 23 27 4) (lf s 0 78) (lf s 1 86) (lf s 2 68) (lf s 3 73) (lf s 4 90) (lf s 5 67) else noc) else noc
theorem bt_ext {s : ByteArray} (hz : s.size = 34) (j : Nat) (hj : j < 6) : bt (s.extract 28 s.size) (j : Int) = bt s ((28 + j : Nat) : Int) := by
  unfold bt
  simp only [Int.toNat_natCast]
  have h1 : j < (s.extract 28 s.size).size := by rw [ByteArray.size_extract]; omega
  have h2 : 28 + j < s.size := by omega
  rw [dif_pos h1, dif_pos h2, ByteArray.getElem_extract]
theorem sneg {s : ByteArray} {l : List Int} (hl : l.length = 5) (i : Nat) (hi : i < 5) (h : rd l (i : Int) < 0) : Ev (fun k => spec_ReadCpu.l0 k s l (i : Int)) noc := by
  refine Ev.step (f := fun _ => some noc) (fun k => ?_) (Ev.now _)
  simp only [spec_ReadCpu.l0]
  rw [if_pos (show (i : Int) < 5 by omega), if_pos (show 0 ≤ (i : Int) by omega), if_pos (show (i : Int) < (l.length : Int) by omega), if_pos h]
theorem spos {s : ByteArray} {l : List Int} {r : C12} (hl : l.length = 5) (i : Nat) (hi : i < 5) (h : ¬ rd l (i : Int) < 0) (ih : Ev (fun k => spec_ReadCpu.l0 k s l ((i + 1 : Nat) : Int)) r) : Ev (fun k => spec_ReadCpu.l0 k s l (i : Int)) r := by
  refine Ev.step (fun k => ?_) ih
  simp only [spec_ReadCpu.l0]
  rw [if_pos (show (i : Int) < 5 by omega), if_pos (show 0 ≤ (i : Int) by omega), if_pos (show (i : Int) < (l.length : Int) by omega), if_neg h, w1 (by omega)]
theorem sfin {s : ByteArray} (hz : s.size = 34) {r0 r1 r2 r3 r4 : Int} (h0 : 0 ≤ r0 ∧ r0 < 256) (h1 : 0 ≤ r1 ∧ r1 < 256) (h2 : 0 ≤ r2 ∧ r2 < 256) (h3 : 0 ≤ r3 ∧ r3 < 256) (h4 : 0 ≤ r4 ∧ r4 < 65536) :
    Ev (fun k => spec_ReadCpu.l0 k s [r0, r1, r2, r3, r4] ((4 + 1 : Nat) : Int)) (cfin s (CT r0 r1 r2 r3 r4 (lf s 0 78) (lf s 1 86) (lf s 2 68) (lf s 3 73) (lf s 4 90) (lf s 5 67)) r0 r1 r2 r3 r4 (lf s 0 78) (lf s 1 86) (lf s 2 68) (lf s 3 73) (lf s 4 90) (lf s 5 67)) := by
  have hx : (s.extract 28 s.size).size = 6 := by rw [ByteArray.size_extract]; omega
  refine Ev.step (f := fun k => (spec_CpuText.f k r0 r1 r2 r3 r4 (lf s 0 78) (lf s 1 86) (lf s 2 68) (lf s 3 73) (lf s 4 90) (lf s 5 67)).bind fun t => if t.toList = s.toList then some (r0, r1, r2, r3, r4, lf s 0 78, lf s 1 86, lf s 2 68, lf s 3 73, lf s 4 90, lf s 5 67, true) else some noc) (fun k => ?_) ?_
  · have hl5 : ([r0, r1, r2, r3, r4] : List Int).length = 5 := rfl
    simp only [spec_ReadCpu.l0, hx, hl5]
    rw [if_neg (show ¬ ((4 + 1 : Nat) : Int) < 5 by decide), if_pos (show (28 : Int) ≤ (s.size : Int) by omega), if_pos (show (0 : Int) < ((5 : Nat) : Int) by decide), if_pos (show (1 : Int) < ((5 : Nat) : Int) by decide), if_pos (show (2 : Int) < ((5 : Nat) : Int) by decide), if_pos (show (3 : Int) < ((5 : Nat) : Int) by decide), if_pos (show (4 : Int) < ((5 : Nat) : Int) by decide), if_pos (show (0 : Int) < ((6 : Nat) : Int) by decide), if_pos (show (1 : Int) < ((6 : Nat) : Int) by decide), if_pos (show (2 : Int) < ((6 : Nat) : Int) by decide), if_pos (show (3 : Int) < ((6 : Nat) : Int) by decide), if_pos (show (4 : Int) < ((6 : Nat) : Int) by decide), if_pos (show (5 : Int) < ((6 : Nat) : Int) by decide)]
    have e0 : rd [r0, r1, r2, r3, r4] 0 = r0 := rfl
    have e1 : rd [r0, r1, r2, r3, r4] 1 = r1 := rfl
    have e2 : rd [r0, r1, r2, r3, r4] 2 = r2 := rfl
    have e3 : rd [r0, r1, r2, r3, r4] 3 = r3 := rfl
    have e4 : rd [r0, r1, r2, r3, r4] 4 = r4 := rfl
    rw [e0, e1, e2, e3, e4, show r0 % 256 = r0 by omega, show r1 % 256 = r1 by omega, show r2 % 256 = r2 by omega, show r3 % 256 = r3 by omega, wrap16 h4]
    have b0 : bt (s.extract 28 s.size) 0 = bt s ((28 + 0 : Nat) : Int) := bt_ext hz 0 (by decide)
    have b1 : bt (s.extract 28 s.size) 1 = bt s ((28 + 1 : Nat) : Int) := bt_ext hz 1 (by decide)
    have b2 : bt (s.extract 28 s.size) 2 = bt s ((28 + 2 : Nat) : Int) := bt_ext hz 2 (by decide)
    have b3 : bt (s.extract 28 s.size) 3 = bt s ((28 + 3 : Nat) : Int) := bt_ext hz 3 (by decide)
    have b4 : bt (s.extract 28 s.size) 4 = bt s ((28 + 4 : Nat) : Int) := bt_ext hz 4 (by decide)
    have b5 : bt (s.extract 28 s.size) 5 = bt s ((28 + 5 : Nat) : Int) := bt_ext hz 5 (by decide)
    rw [b0, b1, b2, b3, b4, b5]
    rfl
  · refine Ev.bind (spec_cpu h0 h1 h2 h3 h4 _ _ _ _ _ _) ?_
    unfold cfin
    simp only [toList_iff]
    by_cases c : CT r0 r1 r2 r3 r4 (lf s 0 78) (lf s 1 86) (lf s 2 68) (lf s 3 73) (lf s 4 90) (lf s 5 67) = s
    · rw [if_pos c, if_pos c]; exact Ev.now _
    · rw [if_neg c, if_neg c]; exact Ev.now _
theorem spec_read (s : ByteArray) : Ev (fun k => spec_ReadCpu.f k s) (cans s) := by
  unfold spec_ReadCpu.f cans
  by_cases hz : s.size = 34
  · have hz' : (s.size : Int) = 34 := by omega
    rw [if_pos hz]
    simp only [hz', if_true]
    simp only [if_pos (show (2 : Nat) ≤ 4 by omega), if_pos (show (7 : Nat) ≤ 9 by omega), if_pos (show (12 : Nat) ≤ 14 by omega), if_pos (show (17 : Nat) ≤ 19 by omega), if_pos (show (23 : Nat) ≤ 27 by omega), if_pos (show (2 : Int) ≤ 4 by omega), if_pos (show (7 : Int) ≤ 9 by omega), if_pos (show (12 : Int) ≤ 14 by omega), if_pos (show (17 : Int) ≤ 19 by omega), if_pos (show (23 : Int) ≤ 27 by omega), if_pos (show (4 : Int) ≤ 34 by omega), if_pos (show (9 : Int) ≤ 34 by omega), if_pos (show (14 : Int) ≤ 34 by omega), if_pos (show (19 : Int) ≤ 34 by omega), if_pos (show (27 : Int) ≤ 34 by omega)]
    refine Ev.bind (MCX.spec_hex (n := 2) (by omega) (ex_size hz (by rfl) (by omega))) (Ev.bind (MCX.spec_hex (n := 2) (by omega) (ex_size hz (by rfl) (by omega))) (Ev.bind (MCX.spec_hex (n := 2) (by omega) (ex_size hz (by rfl) (by omega))) (Ev.bind (MCX.spec_hex (n := 2) (by omega) (ex_size hz (by rfl) (by omega))) (Ev.bind (MCX.spec_hex (n := 4) (by omega) (ex_size hz (by rfl) (by omega))) ?_))))
    change Ev (fun k => spec_ReadCpu.l0 k s [rh s 2 4 2, rh s 7 9 2, rh s 12 14 2, rh s 17 19 2, rh s 23 27 4] ((0 : Nat) : Int)) _
    have g0 := rh2 s 2 4
    have g1 := rh2 s 7 9
    have g2 := rh2 s 12 14
    have g3 := rh2 s 17 19
    have g4 := rh4 s 23 27
    generalize rh s 2 4 2 = r0 at g0 ⊢
    generalize rh s 7 9 2 = r1 at g1 ⊢
    generalize rh s 12 14 2 = r2 at g2 ⊢
    generalize rh s 17 19 2 = r3 at g3 ⊢
    generalize rh s 23 27 4 = r4 at g4 ⊢
    by_cases n0 : r0 < 0
    · rw [if_neg (by omega)]; exact sneg rfl 0 (by decide) n0
    refine spos rfl 0 (by decide) n0 ?_
    by_cases n1 : r1 < 0
    · rw [if_neg (by omega)]; exact sneg rfl 1 (by decide) n1
    refine spos rfl 1 (by decide) n1 ?_
    by_cases n2 : r2 < 0
    · rw [if_neg (by omega)]; exact sneg rfl 2 (by decide) n2
    refine spos rfl 2 (by decide) n2 ?_
    by_cases n3 : r3 < 0
    · rw [if_neg (by omega)]; exact sneg rfl 3 (by decide) n3
    refine spos rfl 3 (by decide) n3 ?_
    by_cases n4 : r4 < 0
    · rw [if_neg (by omega)]; exact sneg rfl 4 (by decide) n4
    refine spos rfl 4 (by decide) n4 ?_
    rw [if_pos (by omega)]
    exact sfin hz (by omega) (by omega) (by omega) (by omega) (by omega)
  · have hz' : ¬ (s.size : Int) = 34 := by omega
    simp only [if_neg hz', if_neg hz]
    exact Ev.now _
theorem sf_cases (s : ByteArray) (j : Nat) : -1 ≤ sf s j ∧ sf s j ≤ 1 := by
  unfold sf
  repeat' split
  all_goals omega
theorem flag_know {s : ByteArray} (j : Nat) (hj : j < 6) {c : Int} (hc : bt NV (j : Int) = c) (h : bt s ((28 + j : Nat) : Int) = if sf s j = -1 then 63 else if sf s j = 0 then 45 else bt NV (j : Int)) : (sf s j == 1) = lf s j c := by
  have hl := letter j hj
  rw [hc] at hl h
  unfold lf
  by_cases x : bt s ((28 + j : Nat) : Int) = 63
  · have e : sf s j = -1 := by unfold sf; rw [if_pos x]
    rw [e, x, beq_eq_false_iff_ne.mpr (fun z => hl.1 z.symm)]
    rfl
  · by_cases y : bt s ((28 + j : Nat) : Int) = 45
    · have e : sf s j = 0 := by unfold sf; rw [if_neg x, if_pos y]
      rw [e, y, beq_eq_false_iff_ne.mpr (fun z => hl.2 z.symm)]
      rfl
    · have e : sf s j = 1 := by unfold sf; rw [if_neg x, if_neg y]
      rw [e] at h ⊢
      rw [if_neg (by decide), if_neg (by decide)] at h
      rw [h]
      simp
theorem flag_cpu {s : ByteArray} (j : Nat) (hj : j < 6) {c : UInt8} (hc : sgb 1 j = c) (hc2 : (c.toNat : Int) = bt NV (j : Int)) (h : bt s ((28 + j : Nat) : Int) = ((fb (lf s j (c.toNat : Int)) c).toNat : Int)) : sgb (sf s j) j = fb (lf s j (c.toNat : Int)) c := by
  have hl := letter j hj
  rw [← hc2] at hl
  by_cases x : bt s ((28 + j : Nat) : Int) = (c.toNat : Int)
  · have y : lf s j (c.toNat : Int) = true := by unfold lf; rw [x]; simp
    have e : sf s j = 1 := by unfold sf; rw [x, if_neg hl.1, if_neg hl.2]
    rw [y, e, hc]
    rfl
  · have y : lf s j (c.toNat : Int) = false := by unfold lf; exact beq_eq_false_iff_ne.mpr x
    rw [y] at h ⊢
    have e : sf s j = 0 := by unfold sf; rw [h]; rfl
    rw [e]
    rfl
theorem CT_at {s : ByteArray} {a0 a1 a2 a3 a4 : Int} {f0 f1 f2 f3 f4 f5 : Bool} (h : CT a0 a1 a2 a3 a4 f0 f1 f2 f3 f4 f5 = s) :
    bt s ((28 + 0 : Nat) : Int) = ((fb f0 78).toNat : Int) ∧ bt s ((28 + 1 : Nat) : Int) = ((fb f1 86).toNat : Int) ∧ bt s ((28 + 2 : Nat) : Int) = ((fb f2 68).toNat : Int) ∧ bt s ((28 + 3 : Nat) : Int) = ((fb f3 73).toNat : Int) ∧ bt s ((28 + 4 : Nat) : Int) = ((fb f4 90).toNat : Int) ∧ bt s ((28 + 5 : Nat) : Int) = ((fb f5 67).toNat : Int) := by
  obtain ⟨p0, p1, p2, p3, p4, p5, p6, p7, p8, p9, pa, pb, _, e⟩ := CT_bytes a0 a1 a2 a3 a4 f0 f1 f2 f3 f4 f5
  rw [← h, e]
  exact ⟨rfl, rfl, rfl, rfl, rfl, rfl⟩
/-- Where the bytes are a processor's text, the Know's text is the same. -/
theorem know_of_cpu {s : ByteArray} {r0 r1 r2 r3 r4 : Int} (h0 : 0 ≤ r0 ∧ r0 < 256) (h1 : 0 ≤ r1 ∧ r1 < 256) (h2 : 0 ≤ r2 ∧ r2 < 256) (h3 : 0 ≤ r3 ∧ r3 < 256) (h4 : 0 ≤ r4 ∧ r4 < 65536) (h : CT r0 r1 r2 r3 r4 (lf s 0 78) (lf s 1 86) (lf s 2 68) (lf s 3 73) (lf s 4 90) (lf s 5 67) = s) :
    KT r0 r1 r2 r3 r4 (sf s 0) (sf s 1) (sf s 2) (sf s 3) (sf s 4) (sf s 5) = s := by
  have hok : okB r0 r1 r2 r3 r4 (sf s 0) (sf s 1) (sf s 2) (sf s 3) (sf s 4) (sf s 5) = true := (ok_iff _ _ _ _ _ _ _ _ _ _ _).mpr ⟨by omega, by omega, by omega, by omega, by omega, sf_cases s 0, sf_cases s 1, sf_cases s 2, sf_cases s 3, sf_cases s 4, sf_cases s 5⟩
  obtain ⟨q0, q1, q2, q3, q4, q5, q6, q7, q8, q9, qa, qb, ⟨b0, b1, b2, b3, b4⟩, ek⟩ := KT_bytes r0 r1 r2 r3 r4 (sf s 0) (sf s 1) (sf s 2) (sf s 3) (sf s 4) (sf s 5) hok
  obtain ⟨p0, p1, p2, p3, p4, p5, p6, p7, p8, p9, pa, pb, ⟨a0, a1, a2, a3, a4⟩, ec⟩ := CT_bytes r0 r1 r2 r3 r4 (lf s 0 78) (lf s 1 86) (lf s 2 68) (lf s 3 73) (lf s 4 90) (lf s 5 67)
  obtain ⟨t0, t1, t2, t3, t4, t5⟩ := CT_at h
  have k0 : sgb (sf s 0) 0 = fb (lf s 0 78) 78 := flag_cpu (s := s) 0 (by decide) (c := 78) rfl rfl t0
  have k1 : sgb (sf s 1) 1 = fb (lf s 1 86) 86 := flag_cpu (s := s) 1 (by decide) (c := 86) rfl rfl t1
  have k2 : sgb (sf s 2) 2 = fb (lf s 2 68) 68 := flag_cpu (s := s) 2 (by decide) (c := 68) rfl rfl t2
  have k3 : sgb (sf s 3) 3 = fb (lf s 3 73) 73 := flag_cpu (s := s) 3 (by decide) (c := 73) rfl rfl t3
  have k4 : sgb (sf s 4) 4 = fb (lf s 4 90) 90 := flag_cpu (s := s) 4 (by decide) (c := 90) rfl rfl t4
  have k5 : sgb (sf s 5) 5 = fb (lf s 5 67) 67 := flag_cpu (s := s) 5 (by decide) (c := 67) rfl rfl t5
  have e : KT r0 r1 r2 r3 r4 (sf s 0) (sf s 1) (sf s 2) (sf s 3) (sf s 4) (sf s 5) = CT r0 r1 r2 r3 r4 (lf s 0 78) (lf s 1 86) (lf s 2 68) (lf s 3 73) (lf s 4 90) (lf s 5 67) := by
    rw [a0] at b0; rw [a1] at b1; rw [a2] at b2; rw [a3] at b3; rw [a4] at b4
    simp at b0 b1 b2 b3 b4
    obtain ⟨rfl, rfl⟩ := b0
    obtain ⟨rfl, rfl⟩ := b1
    obtain ⟨rfl, rfl⟩ := b2
    obtain ⟨rfl, rfl⟩ := b3
    obtain ⟨rfl, rfl, rfl, rfl⟩ := b4
    rw [ek, ec, k0, k1, k2, k3, k4, k5]
  rw [e, h]
theorem impl_read (s : ByteArray) : Ev (fun k => impl_ReadCpu.f k s) (cans s) := by
  unfold impl_ReadCpu.f
  refine Ev.bind (MCB.impl_read s) ?_
  unfold answer cans
  by_cases hz : s.size = 34
  · simp only [if_pos hz]
    have g0 := rh2 s 2 4
    have g1 := rh2 s 7 9
    have g2 := rh2 s 12 14
    have g3 := rh2 s 17 19
    have g4 := rh4 s 23 27
    generalize rh s 2 4 2 = r0 at g0 ⊢
    generalize rh s 7 9 2 = r1 at g1 ⊢
    generalize rh s 12 14 2 = r2 at g2 ⊢
    generalize rh s 17 19 2 = r3 at g3 ⊢
    generalize rh s 23 27 4 = r4 at g4 ⊢
    unfold fin12
    by_cases c : KT r0 r1 r2 r3 r4 (sf s 0) (sf s 1) (sf s 2) (sf s 3) (sf s 4) (sf s 5) = s
    · simp only [if_pos c, if_true]
      have hok := KT_ok c hz
      have w4 := wrap16_range r4
      refine Ev.bind (impl_cpu (by omega) (by omega) (by omega) (by omega) w4 _ _ _ _ _ _) ?_
      simp only [toList_iff]
      by_cases n : 0 ≤ r0 ∧ 0 ≤ r1 ∧ 0 ≤ r2 ∧ 0 ≤ r3 ∧ 0 ≤ r4
      · rw [if_pos n]
        obtain ⟨n0, n1, n2, n3, n4⟩ := n
        have q := KT_at (fun j => sf s j) c hz
        have k0 := flag_know (s := s) 0 (by decide) (c := 78) rfl (q 0 (by decide))
        have k1 := flag_know (s := s) 1 (by decide) (c := 86) rfl (q 1 (by decide))
        have k2 := flag_know (s := s) 2 (by decide) (c := 68) rfl (q 2 (by decide))
        have k3 := flag_know (s := s) 3 (by decide) (c := 73) rfl (q 3 (by decide))
        have k4 := flag_know (s := s) 4 (by decide) (c := 90) rfl (q 4 (by decide))
        have k5 := flag_know (s := s) 5 (by decide) (c := 67) rfl (q 5 (by decide))
        rw [show r0 % 256 = r0 by omega, show r1 % 256 = r1 by omega, show r2 % 256 = r2 by omega, show r3 % 256 = r3 by omega, wrap16 ⟨n4, g4.2⟩, k0, k1, k2, k3, k4, k5]
        unfold cfin
        by_cases e : CT r0 r1 r2 r3 r4 (lf s 0 78) (lf s 1 86) (lf s 2 68) (lf s 3 73) (lf s 4 90) (lf s 5 67) = s
        · rw [if_pos e, if_pos e]; exact Ev.now _
        · rw [if_neg e, if_neg e]; exact Ev.now _
      · rw [if_neg n]
        have ne : ¬ CT (r0 % 256) (r1 % 256) (r2 % 256) (r3 % 256) (IntKind.u16.wrap r4) (sf s 0 == 1) (sf s 1 == 1) (sf s 2 == 1) (sf s 3 == 1) (sf s 4 == 1) (sf s 5 == 1) = s := fun e => n (clash (by omega) (by omega) (by omega) (by omega) w4.1 hok (e.trans c.symm))
        rw [if_neg ne]
        exact Ev.now _
    · simp only [if_neg c]
      refine Ev.congr (f := fun _ => some noc) (fun k => rfl) ?_
      by_cases n : 0 ≤ r0 ∧ 0 ≤ r1 ∧ 0 ≤ r2 ∧ 0 ≤ r3 ∧ 0 ≤ r4
      · rw [if_pos n]
        unfold cfin
        rw [if_neg (fun e => c (know_of_cpu (by omega) (by omega) (by omega) (by omega) (by omega) e))]
        exact Ev.now _
      · rw [if_neg n]; exact Ev.now _
  · simp only [if_neg hz]
    exact Ev.now _
end Go.Proofs.Ytidencofapcliaa.MCR
