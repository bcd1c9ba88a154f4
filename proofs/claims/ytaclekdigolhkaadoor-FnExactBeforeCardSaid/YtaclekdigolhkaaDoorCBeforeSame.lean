/-
What Meet and Before answer, of the program and of the reference alike: plain functions of the eleven numbers.
-/
import Derived.Test.YtaclekdigolhkaaDoorMCx0
import Derived.Test.YtaclekdigolhkaaDoorMCx1
import Derived.Test.YtaclekdigolhkaaDoorMCx3
import Derived.Test.YtaclekdigolhkaaDoorMCx4
import Derived.Test.YtaclekdigolhkaaDoorMCx5
import Derived.Test.YtaclekdigolhkaaDoorMCx6
import Derived.Test.YtaclekdigolhkaaDoorMCx7
import Derived.Test.YtaclekdigolhkaaDoorMCx9
import Derived.Test.YtaclekdigolhkaaDoorMCx10
import Derived.Test.YtaclekdigolhkaaDoorLst
set_option linter.unusedSimpArgs false
set_option linter.unusedVariables false
namespace Go.Proofs.YtaclekdigolhkaaDoor.MCH
open Go.RowKit Go.Proofs.YtaclekdigolhkaaDoor.MC Go.Proofs.YtaclekdigolhkaaDoorW.PrintWords Go.Proofs.YtaclekdigolhkaaDoorW.PrintLast Go.Proofs.YtaclekdigolhkaaDoor.Lst
abbrev T12 := Int × Int × Int × Int × Int × Int × Int × Int × Int × Int × Int × Bool
theorem most_same (i : Nat) : spec_l09Most.f (i : Int) = some (impl_KnowOk.most i) := by
  unfold spec_l09Most.f impl_KnowOk.most
  by_cases c : i < 4
  · rw [if_pos (by omega), if_pos c]
  · rw [if_neg (by omega), if_neg c]
    by_cases d : i = 4
    · rw [if_pos (by omega), if_pos d]
    · rw [if_neg (by omega), if_neg d]
theorem spec_ok_from (l : List Int) (hl : l.length ≤ 1000) : ∀ (d i : Nat), i + d = l.length → Ev (fun k => spec_KnowOk.l0 k l (i : Int)) (impl_KnowOk.rest (l.drop i) i)
  | 0, i, h => by
    rw [List.drop_eq_nil_of_le (by omega)]
    refine Ev.step (f := fun _ => some true) (fun k => ?_) (Ev.now _)
    simp only [spec_KnowOk.l0]
    rw [if_neg (by omega)]
  | d + 1, i, h => by
    have hi : i < l.length := by omega
    rw [List.drop_eq_getElem_cons hi]
    have e : rd l (i : Int) = l[i] := by unfold rd; rw [Int.toNat_natCast, List.getD_eq_getElem?_getD, List.getElem?_eq_getElem hi]; rfl
    have ih := spec_ok_from l hl d (i + 1) (by omega)
    by_cases c : -1 ≤ l[i] ∧ l[i] ≤ impl_KnowOk.most i
    · have hr : impl_KnowOk.rest (l[i] :: l.drop (i + 1)) i = impl_KnowOk.rest (l.drop (i + 1)) (i + 1) := by
        simp only [impl_KnowOk.rest, decide_eq_true c.1, decide_eq_true c.2, Bool.true_and]
      rw [hr]
      refine Ev.step (fun k => ?_) ih
      simp only [spec_KnowOk.l0]
      rw [if_pos (by omega), if_pos (by omega), most_same, w1 (by omega), e, Option.bind_some]
      unfold spec_l01In.f
      rw [if_pos (show l[i] ≥ -1 from c.1), decide_eq_true c.2, Option.bind_some, if_pos rfl]
    · have hr : impl_KnowOk.rest (l[i] :: l.drop (i + 1)) i = false := by
        have : ¬ (-1 ≤ l[i]) ∨ ¬ (l[i] ≤ impl_KnowOk.most i) := by omega
        rcases this with z | z
        · simp only [impl_KnowOk.rest, decide_eq_false z, Bool.false_and]
        · simp only [impl_KnowOk.rest, decide_eq_false z, Bool.and_false, Bool.false_and]
      rw [hr]
      refine Ev.step (f := fun _ => some false) (fun k => ?_) (Ev.now _)
      simp only [spec_KnowOk.l0]
      rw [if_pos (by omega), if_pos (by omega), most_same, e, Option.bind_some]
      unfold spec_l01In.f
      by_cases z : l[i] ≥ -1
      · rw [if_pos z, decide_eq_false (by omega), Option.bind_some]
        rfl
      · rw [if_neg z, Option.bind_some]
        rfl
theorem spec_ok (a0 a1 a2 a3 a4 a5 a6 a7 a8 a9 a10 : Int) : Ev (fun k => spec_KnowOk.f k a0 a1 a2 a3 a4 a5 a6 a7 a8 a9 a10) (impl_KnowOk.rest [a0, a1, a2, a3, a4, a5, a6, a7, a8, a9, a10] 0) := by
  unfold spec_KnowOk.f spec_l09List.f
  simp only [Option.bind_some]
  exact spec_ok_from [a0, a1, a2, a3, a4, a5, a6, a7, a8, a9, a10] (by show 11 ≤ 1000; omega) 11 0 rfl
def ZF : T12 := (0, 0, 0, 0, 0, 0, 0, 0, 0, 0, 0, false)
def MT (a0 a1 a2 a3 a4 a5 a6 a7 a8 a9 a10 b0 b1 b2 b3 b4 b5 b6 b7 b8 b9 b10 : Int) : T12 := if impl_KnowOk.rest [a0, a1, a2, a3, a4, a5, a6, a7, a8, a9, a10] 0 = true then (if impl_KnowOk.rest [b0, b1, b2, b3, b4, b5, b6, b7, b8, b9, b10] 0 = true then (if impl_Meet.clash [a0, a1, a2, a3, a4, a5, a6, a7, a8, a9, a10] [b0, b1, b2, b3, b4, b5, b6, b7, b8, b9, b10] = true then ZF else (impl_Meet.m a0 b0, impl_Meet.m a1 b1, impl_Meet.m a2 b2, impl_Meet.m a3 b3, impl_Meet.m a4 b4, impl_Meet.m a5 b5, impl_Meet.m a6 b6, impl_Meet.m a7 b7, impl_Meet.m a8 b8, impl_Meet.m a9 b9, impl_Meet.m a10 b10, true)) else ZF) else ZF
theorem impl_meet (k : Nat) (a0 a1 a2 a3 a4 a5 a6 a7 a8 a9 a10 b0 b1 b2 b3 b4 b5 b6 b7 b8 b9 b10 : Int) : impl_Meet.f k a0 a1 a2 a3 a4 a5 a6 a7 a8 a9 a10 b0 b1 b2 b3 b4 b5 b6 b7 b8 b9 b10 = some (MT a0 a1 a2 a3 a4 a5 a6 a7 a8 a9 a10 b0 b1 b2 b3 b4 b5 b6 b7 b8 b9 b10) := by
  unfold impl_Meet.f MT ZF
  split
  · split
    · split <;> rfl
    · rfl
  · rfl
theorem of_eq (l : List Int) (h : l.length = 11) : spec_l09Of.f l = some (l.getD 0 0, l.getD 1 0, l.getD 2 0, l.getD 3 0, l.getD 4 0, l.getD 5 0, l.getD 6 0, l.getD 7 0, l.getD 8 0, l.getD 9 0, l.getD 10 0) := by
  unfold spec_l09Of.f
  rw [if_pos (by omega)]
  rfl
def mAt (A B : List Int) (j : Nat) : Int := impl_Meet.m (A.getD j 0) (B.getD j 0)
theorem run_stay {f : Nat → Int} {b : List Int} {i : Nat} (h : i < b.length) (e : f i = b.getD i 0) : run f b i = run f b (i + 1) := by
  rw [← run_set f b h, e]
  apply List.ext_getElem?
  intro j
  have hl : (run f b i).length = b.length := run_length f b (by omega)
  by_cases hj : i = j
  · subst hj
    rw [List.getElem?_set_self (by omega)]
    have h1 := run_getD_hi f b (0 : Int) (i := i) (j := i) (Nat.le_refl i)
    rw [List.getD_eq_getElem?_getD, List.getElem?_eq_getElem (by omega)] at h1
    rw [List.getElem?_eq_getElem (by omega)]
    rw [← h1]
    rfl
  · rw [List.getElem?_set_ne hj]
theorem rd_run_hi {f : Nat → Int} {b : List Int} {i : Nat} : rd (run f b i) (i : Int) = b.getD i 0 := by unfold rd; rw [Int.toNat_natCast]; exact run_getD_hi f b 0 (Nat.le_refl i)
theorem drop_at {b : List Int} {i : Nat} (h : i < b.length) : b.drop i = b.getD i 0 :: b.drop (i + 1) := by rw [List.drop_eq_getElem_cons h, List.getD_eq_getElem?_getD, List.getElem?_eq_getElem h]; rfl
theorem rd_nat (b : List Int) (i : Nat) : rd b (i : Int) = b.getD i 0 := by unfold rd; rw [Int.toNat_natCast]
theorem spec_meet_from (A B : List Int) (hA : A.length = 11) (hB : B.length = 11) : ∀ (d i : Nat), i + d = 11 → Ev (fun k => spec_Meet.l0 k (run (mAt A B) A i) B (i : Int)) (if impl_Meet.clash (A.drop i) (B.drop i) = true then ZF else (((run (mAt A B) A 11).getD 0 0, (run (mAt A B) A 11).getD 1 0, (run (mAt A B) A 11).getD 2 0, (run (mAt A B) A 11).getD 3 0, (run (mAt A B) A 11).getD 4 0, (run (mAt A B) A 11).getD 5 0, (run (mAt A B) A 11).getD 6 0, (run (mAt A B) A 11).getD 7 0, (run (mAt A B) A 11).getD 8 0, (run (mAt A B) A 11).getD 9 0, (run (mAt A B) A 11).getD 10 0, true) : T12))
  | 0, i, h => by
    obtain rfl : i = 11 := by omega
    rw [List.drop_eq_nil_of_le (by omega), List.drop_eq_nil_of_le (by omega)]
    have hl : (run (mAt A B) A 11).length = 11 := by rw [run_length _ _ (by omega), hA]
    refine Ev.step (f := fun _ => some ((run (mAt A B) A 11).getD 0 0, (run (mAt A B) A 11).getD 1 0, (run (mAt A B) A 11).getD 2 0, (run (mAt A B) A 11).getD 3 0, (run (mAt A B) A 11).getD 4 0, (run (mAt A B) A 11).getD 5 0, (run (mAt A B) A 11).getD 6 0, (run (mAt A B) A 11).getD 7 0, (run (mAt A B) A 11).getD 8 0, (run (mAt A B) A 11).getD 9 0, (run (mAt A B) A 11).getD 10 0, true)) (fun k => ?_) (Ev.now _)
    simp only [spec_Meet.l0]
    rw [if_neg (by rw [hl]; decide), of_eq _ hl]
    rfl
  | d + 1, i, h => by
    have hl : (run (mAt A B) A i).length = 11 := by rw [run_length _ _ (by omega), hA]
    have ih := spec_meet_from A B hA hB d (i + 1) (by omega)
    have hx := rd_run_hi (f := mAt A B) (b := A) (i := i)
    have hy := rd_nat B i
    rw [drop_at (b := A) (i := i) (by omega), drop_at (b := B) (i := i) (by omega)]
    have hm : mAt A B i = impl_Meet.m (A.getD i 0) (B.getD i 0) := rfl
    have hset := run_set (mAt A B) A (i := i) (by omega)
    have hst := fun (e : mAt A B i = A.getD i 0) => run_stay (f := mAt A B) (b := A) (i := i) (by omega) e
    generalize A.getD i 0 = x at *
    generalize B.getD i 0 = y at *
    have hcl : impl_Meet.clash (x :: A.drop (i + 1)) (y :: B.drop (i + 1)) = (impl_Meet.bad x y || impl_Meet.clash (A.drop (i + 1)) (B.drop (i + 1))) := rfl
    rw [hcl]
    by_cases c1 : x < 0
    · have hb : impl_Meet.bad x y = false := by unfold impl_Meet.bad; rw [decide_eq_true c1]; rfl
      rw [hb, Bool.false_or]
      have hmy : mAt A B i = y := by rw [hm]; unfold impl_Meet.m; rw [if_pos c1]
      refine Ev.step (f := fun k => spec_Meet.j2 k (run (mAt A B) A i) B (i : Int) false) (fun k => ?_) (Ev.step (f := fun k => spec_Meet.l0 k (run (mAt A B) A (i + 1)) B ((i + 1 : Nat) : Int)) (fun k => ?_) ih)
      · simp only [spec_Meet.l0]; rw [if_pos (by omega), if_pos (by omega), hx, if_neg (by omega)]
      · simp only [spec_Meet.j2]; rw [if_neg (by decide), if_pos (by omega), if_pos (by omega), hx, if_pos c1, if_pos (by omega), hy, w1 (by omega), ← hset, hmy, Int.toNat_natCast]
    have hmx : mAt A B i = x := by rw [hm]; unfold impl_Meet.m; rw [if_neg c1]
    have hs := hst hmx
    by_cases c2 : 0 ≤ y
    · by_cases c3 : y = x
      · have hb : impl_Meet.bad x y = false := by unfold impl_Meet.bad; rw [c3]; simp
        rw [hb, Bool.false_or]
        refine Ev.step (f := fun k => spec_Meet.j2 k (run (mAt A B) A i) B (i : Int) false) (fun k => ?_) (Ev.step (f := fun k => spec_Meet.l0 k (run (mAt A B) A (i + 1)) B ((i + 1 : Nat) : Int)) (fun k => ?_) ih)
        · simp only [spec_Meet.l0]; rw [if_pos (by omega), if_pos (by omega), hx, if_pos (by omega), if_pos (by omega), hy, if_pos (by omega), c3]; simp
        · simp only [spec_Meet.j2]; rw [if_neg (by decide), if_pos (by omega), if_pos (by omega), hx, if_neg c1, w1 (by omega), hs]
      · have hb : impl_Meet.bad x y = true := by unfold impl_Meet.bad; rw [decide_eq_false c1, decide_eq_true c2]; simpa using c3
        rw [hb, Bool.true_or, if_pos rfl]
        refine Ev.step (f := fun k => spec_Meet.j2 k (run (mAt A B) A i) B (i : Int) true) (fun k => ?_) (Ev.step (f := fun _ => some ZF) (fun k => ?_) (Ev.now _))
        · simp only [spec_Meet.l0]; rw [if_pos (by omega), if_pos (by omega), hx, if_pos (by omega), if_pos (by omega), hy, if_pos (by omega)]; rw [show (x != y) = true from bne_iff_ne.mpr (fun e => c3 e.symm)]
        · simp only [spec_Meet.j2]; rfl
    · have hb : impl_Meet.bad x y = false := by unfold impl_Meet.bad; rw [decide_eq_false c2]; simp
      rw [hb, Bool.false_or]
      refine Ev.step (f := fun k => spec_Meet.j2 k (run (mAt A B) A i) B (i : Int) false) (fun k => ?_) (Ev.step (f := fun k => spec_Meet.l0 k (run (mAt A B) A (i + 1)) B ((i + 1 : Nat) : Int)) (fun k => ?_) ih)
      · simp only [spec_Meet.l0]; rw [if_pos (by omega), if_pos (by omega), hx, if_pos (by omega), if_pos (by omega), hy, if_neg (by omega)]
      · simp only [spec_Meet.j2]; rw [if_neg (by decide), if_pos (by omega), if_pos (by omega), hx, if_neg c1, w1 (by omega), hs]
theorem spec_meet (a0 a1 a2 a3 a4 a5 a6 a7 a8 a9 a10 b0 b1 b2 b3 b4 b5 b6 b7 b8 b9 b10 : Int) : Ev (fun k => spec_Meet.f k a0 a1 a2 a3 a4 a5 a6 a7 a8 a9 a10 b0 b1 b2 b3 b4 b5 b6 b7 b8 b9 b10) (MT a0 a1 a2 a3 a4 a5 a6 a7 a8 a9 a10 b0 b1 b2 b3 b4 b5 b6 b7 b8 b9 b10) := by
  unfold spec_Meet.f MT
  refine Ev.bind (spec_ok a0 a1 a2 a3 a4 a5 a6 a7 a8 a9 a10) ?_
  by_cases ca : impl_KnowOk.rest [a0, a1, a2, a3, a4, a5, a6, a7, a8, a9, a10] 0 = true
  · rw [if_pos ca]
    refine Ev.congr (fun k => if_pos ca) (Ev.bind (spec_ok b0 b1 b2 b3 b4 b5 b6 b7 b8 b9 b10) ?_)
    by_cases cb : impl_KnowOk.rest [b0, b1, b2, b3, b4, b5, b6, b7, b8, b9, b10] 0 = true
    · rw [if_pos cb, cb]
      refine Ev.step (f := fun k => spec_Meet.l0 k [a0, a1, a2, a3, a4, a5, a6, a7, a8, a9, a10] [b0, b1, b2, b3, b4, b5, b6, b7, b8, b9, b10] 0) (fun k => by simp only [spec_Meet.j0, spec_l09List.f, Option.bind_some]; rfl) ?_
      exact spec_meet_from [a0, a1, a2, a3, a4, a5, a6, a7, a8, a9, a10] [b0, b1, b2, b3, b4, b5, b6, b7, b8, b9, b10] rfl rfl 11 0 rfl
    · rw [if_neg cb, Bool.eq_false_iff.mpr cb]
      exact Ev.step (f := fun _ => some ZF) (fun k => by simp only [spec_Meet.j0]; rfl) (Ev.now _)
  · rw [if_neg ca]
    refine Ev.congr (fun k => if_neg ca) ?_
    exact Ev.step (f := fun _ => some ZF) (fun k => by simp only [spec_Meet.j0]; rfl) (Ev.now _)
def PLs : ByteArray := ⟨#[65, 88, 89, 83, 80, 78, 86, 68, 73, 90, 67]⟩
def PLb : List UInt8 := [65, 88, 89, 83, 46, 78, 86, 68, 73, 90, 67]
def SI : ByteArray := ⟨#[83, 73]⟩
def goodB (s : ByteArray) : Bool := decide (s.size < 20) && (List.range 11).all fun j => j == 4 || spec_l12Has.f 20 s (bt PLs (j : Int)) == some (Lib.contains s.data.toList [PLb.getD j 0])
def chg (j : Nat) : ByteArray := (impl_Changes.f 20 (j : Int)).getD ⟨#[]⟩
set_option maxRecDepth 100000 in
theorem chg_all : ∀ i : Fin 256, impl_Changes.f 20 (i.val : Int) = some (chg i.val) ∧ spec_Changes.f 20 (i.val : Int) = some (chg i.val) ∧ goodB (chg i.val) = true := by decide +kernel
theorem si_good : goodB SI = true := by decide +kernel
theorem has_ev {s : ByteArray} (h : goodB s = true) {j : Nat} (hj : j < 11) (h4 : j ≠ 4) : Ev (fun k => spec_l12Has.f k s (bt PLs (j : Int))) (Lib.contains s.data.toList [PLb.getD j 0]) := by
  unfold goodB at h
  simp only [Bool.and_eq_true] at h
  have h2 := List.all_eq_true.1 h.2 j (List.mem_range.2 hj)
  simp only [Bool.or_eq_true, beq_iff_eq] at h2
  exact Ev.of (fun k => spec_l12Has.mono _ _ k) (h2.resolve_left h4)
def wAt (s : ByteArray) (B : List Int) (j : Nat) : Int := impl_before.wo s j (PLb.getD j 0) (B.getD j 0)
theorem pl_four : ∀ j : Fin 11, (bt PLs (j.val : Int) = 80) ↔ j.val = 4 := by decide +kernel
theorem spec_before_from (s : ByteArray) (hs : goodB s = true) (a0 a1 a2 a3 a4 a5 a6 a7 a8 a9 a10 : Int) (B : List Int) (hB : B.length = 11) : ∀ (d i : Nat), i + d = 11 → Ev (fun k => spec_Before.l0 k s (run (wAt s B) B i) PLs (i : Int) a0 a1 a2 a3 a4 a5 a6 a7 a8 a9 a10) (MT a0 a1 a2 a3 a4 a5 a6 a7 a8 a9 a10 ((run (wAt s B) B 11).getD 0 0) ((run (wAt s B) B 11).getD 1 0) ((run (wAt s B) B 11).getD 2 0) ((run (wAt s B) B 11).getD 3 0) ((run (wAt s B) B 11).getD 4 0) ((run (wAt s B) B 11).getD 5 0) ((run (wAt s B) B 11).getD 6 0) ((run (wAt s B) B 11).getD 7 0) ((run (wAt s B) B 11).getD 8 0) ((run (wAt s B) B 11).getD 9 0) ((run (wAt s B) B 11).getD 10 0))
  | 0, i, h => by
    obtain rfl : i = 11 := by omega
    have hl : (run (wAt s B) B 11).length = 11 := by rw [run_length _ _ (by omega), hB]
    refine Ev.step (f := fun k => (spec_Meet.f k a0 a1 a2 a3 a4 a5 a6 a7 a8 a9 a10 ((run (wAt s B) B 11).getD 0 0) ((run (wAt s B) B 11).getD 1 0) ((run (wAt s B) B 11).getD 2 0) ((run (wAt s B) B 11).getD 3 0) ((run (wAt s B) B 11).getD 4 0) ((run (wAt s B) B 11).getD 5 0) ((run (wAt s B) B 11).getD 6 0) ((run (wAt s B) B 11).getD 7 0) ((run (wAt s B) B 11).getD 8 0) ((run (wAt s B) B 11).getD 9 0) ((run (wAt s B) B 11).getD 10 0)).bind fun r => some (r.1, r.2.1, r.2.2.1, r.2.2.2.1, r.2.2.2.2.1, r.2.2.2.2.2.1, r.2.2.2.2.2.2.1, r.2.2.2.2.2.2.2.1, r.2.2.2.2.2.2.2.2.1, r.2.2.2.2.2.2.2.2.2.1, r.2.2.2.2.2.2.2.2.2.2.1, r.2.2.2.2.2.2.2.2.2.2.2)) (fun k => ?_) (Ev.bind (spec_meet a0 a1 a2 a3 a4 a5 a6 a7 a8 a9 a10 ((run (wAt s B) B 11).getD 0 0) ((run (wAt s B) B 11).getD 1 0) ((run (wAt s B) B 11).getD 2 0) ((run (wAt s B) B 11).getD 3 0) ((run (wAt s B) B 11).getD 4 0) ((run (wAt s B) B 11).getD 5 0) ((run (wAt s B) B 11).getD 6 0) ((run (wAt s B) B 11).getD 7 0) ((run (wAt s B) B 11).getD 8 0) ((run (wAt s B) B 11).getD 9 0) ((run (wAt s B) B 11).getD 10 0)) (Ev.now _))
    simp only [spec_Before.l0]
    rw [if_neg (by rw [hl]; decide), of_eq _ hl]
    rfl
  | d + 1, i, h => by
    have hl : (run (wAt s B) B i).length = 11 := by rw [run_length _ _ (by omega), hB]
    have ih := spec_before_from s hs a0 a1 a2 a3 a4 a5 a6 a7 a8 a9 a10 B hB d (i + 1) (by omega)
    have hset := run_set (wAt s B) B (i := i) (by omega)
    have hst := fun (e : wAt s B i = B.getD i 0) => run_stay (f := wAt s B) (b := B) (i := i) (by omega) e
    have hsz : PLs.size = 11 := rfl
    by_cases c4 : i = 4
    · have hp := (pl_four ⟨i, by omega⟩).mpr c4
      have hw : wAt s B i = -1 := by unfold wAt impl_before.wo impl_before.gone; rw [decide_eq_true c4]; rfl
      refine Ev.step (fun k => ?_) ih
      simp only [spec_Before.l0]
      rw [if_pos (by omega), if_pos (by omega), if_pos (by rw [hsz]; omega), if_pos hp, w1 (by omega), Int.toNat_natCast, ← hw, hset]
    have hp : ¬ bt PLs (i : Int) = 80 := fun e => c4 ((pl_four ⟨i, by omega⟩).mp e)
    have hh := has_ev hs (j := i) (by omega) c4
    cases hc : Lib.contains s.data.toList [PLb.getD i 0] with
    | true =>
      rw [hc] at hh
      have hw : wAt s B i = -1 := by unfold wAt impl_before.wo impl_before.gone; rw [decide_eq_false c4, hc]; rfl
      refine Ev.step (f := fun k => (spec_l12Has.f k s (bt PLs (i : Int))).bind fun t => (if t = true then (spec_Before.l0 k s ((run (wAt s B) B i).set i (-1)) PLs ((i + 1 : Nat) : Int) a0 a1 a2 a3 a4 a5 a6 a7 a8 a9 a10) else (spec_Before.l0 k s (run (wAt s B) B i) PLs ((i + 1 : Nat) : Int) a0 a1 a2 a3 a4 a5 a6 a7 a8 a9 a10))) (fun k => ?_) (Ev.bind hh ?_)
      · simp only [spec_Before.l0]; rw [if_pos (by omega), if_pos (by omega), if_pos (by rw [hsz]; omega), if_neg hp, w1 (by omega), Int.toNat_natCast]
      · rw [← hset, hw] at ih; exact Ev.congr (fun k => if_pos rfl) ih
    | false =>
      rw [hc] at hh
      have hw : wAt s B i = B.getD i 0 := by unfold wAt impl_before.wo impl_before.gone; rw [decide_eq_false c4, hc]; rfl
      have hs2 := hst hw
      refine Ev.step (f := fun k => (spec_l12Has.f k s (bt PLs (i : Int))).bind fun t => (if t = true then (spec_Before.l0 k s ((run (wAt s B) B i).set i (-1)) PLs ((i + 1 : Nat) : Int) a0 a1 a2 a3 a4 a5 a6 a7 a8 a9 a10) else (spec_Before.l0 k s (run (wAt s B) B i) PLs ((i + 1 : Nat) : Int) a0 a1 a2 a3 a4 a5 a6 a7 a8 a9 a10))) (fun k => ?_) (Ev.bind hh ?_)
      · simp only [spec_Before.l0]; rw [if_pos (by omega), if_pos (by omega), if_pos (by rw [hsz]; omega), if_neg hp, w1 (by omega), Int.toNat_natCast]
      · rw [← hs2] at ih; exact Ev.congr (fun k => if_neg (by decide)) ih
/-- What Before answers. -/
def BV (l : List (S40)) (p : Int) (v : Bool) (a0 a1 a2 a3 a4 a5 a6 a7 a8 a9 a10 b0 b1 b2 b3 b4 b5 b6 b7 b8 b9 b10 : Int) : T12 := if 0 ≤ p ∧ p < (l.length : Int) then (if impl_KnowOk.rest [b0, b1, b2, b3, b4, b5, b6, b7, b8, b9, b10] 0 = true then (let s := if v = true then SI else chg (rd_T40 l p).f1.toNat; MT a0 a1 a2 a3 a4 a5 a6 a7 a8 a9 a10 (impl_before.wo s 0 65 b0) (impl_before.wo s 1 88 b1) (impl_before.wo s 2 89 b2) (impl_before.wo s 3 83 b3) (impl_before.wo s 4 46 b4) (impl_before.wo s 5 78 b5) (impl_before.wo s 6 86 b6) (impl_before.wo s 7 68 b7) (impl_before.wo s 8 73 b8) (impl_before.wo s 9 90 b9) (impl_before.wo s 10 67 b10)) else ZF) else ZF
theorem code_good {c : Int} (h : 0 ≤ c ∧ c ≤ 255) : Ev (fun k => impl_Changes.f k c) (chg c.toNat) ∧ Ev (fun k => spec_Changes.f k c) (chg c.toNat) ∧ goodB (chg c.toNat) = true := by
  have hk := chg_all ⟨c.toNat, by omega⟩
  have he : ((c.toNat : Nat) : Int) = c := by omega
  simp only [he] at hk
  exact ⟨Ev.of (fun k => impl_Changes.mono _ k) hk.1, Ev.of (fun k => spec_Changes.mono _ k) hk.2.1, hk.2.2⟩
theorem impl_bef (l : List (S40)) (p : Int) (v : Bool) (a0 a1 a2 a3 a4 a5 a6 a7 a8 a9 a10 b0 b1 b2 b3 b4 b5 b6 b7 b8 b9 b10 : Int) (hl : l.length ≤ 1048576) (hc : ∀ i : Int, 0 ≤ i → i < (l.length : Int) → 0 ≤ (rd_T40 l i).f1 ∧ (rd_T40 l i).f1 ≤ 255) : Ev (fun k => impl_Before.f k l p v a0 a1 a2 a3 a4 a5 a6 a7 a8 a9 a10 b0 b1 b2 b3 b4 b5 b6 b7 b8 b9 b10) (BV l p v a0 a1 a2 a3 a4 a5 a6 a7 a8 a9 a10 b0 b1 b2 b3 b4 b5 b6 b7 b8 b9 b10) := by
  unfold impl_Before.f BV impl_within.f
  rw [wrap_in (by omega) (by omega)]
  by_cases c1 : 0 ≤ p ∧ p < (l.length : Int)
  · rw [if_pos c1]
    simp only [if_pos (show p ≥ 0 from c1.1), decide_eq_true (show p ≤ (l.length : Int) - 1 by omega), Option.bind_some, if_true]
    refine Ev.bind (a := if impl_KnowOk.rest [b0, b1, b2, b3, b4, b5, b6, b7, b8, b9, b10] 0 = true then MT a0 a1 a2 a3 a4 a5 a6 a7 a8 a9 a10 (impl_before.wo (if v = true then SI else chg (rd_T40 l p).f1.toNat) 0 65 b0) (impl_before.wo (if v = true then SI else chg (rd_T40 l p).f1.toNat) 1 88 b1) (impl_before.wo (if v = true then SI else chg (rd_T40 l p).f1.toNat) 2 89 b2) (impl_before.wo (if v = true then SI else chg (rd_T40 l p).f1.toNat) 3 83 b3) (impl_before.wo (if v = true then SI else chg (rd_T40 l p).f1.toNat) 4 46 b4) (impl_before.wo (if v = true then SI else chg (rd_T40 l p).f1.toNat) 5 78 b5) (impl_before.wo (if v = true then SI else chg (rd_T40 l p).f1.toNat) 6 86 b6) (impl_before.wo (if v = true then SI else chg (rd_T40 l p).f1.toNat) 7 68 b7) (impl_before.wo (if v = true then SI else chg (rd_T40 l p).f1.toNat) 8 73 b8) (impl_before.wo (if v = true then SI else chg (rd_T40 l p).f1.toNat) 9 90 b9) (impl_before.wo (if v = true then SI else chg (rd_T40 l p).f1.toNat) 10 67 b10) else ZF) ?_ (Ev.now _)
    unfold impl_before.f
    by_cases c2 : impl_KnowOk.rest [b0, b1, b2, b3, b4, b5, b6, b7, b8, b9, b10] 0 = true
    · simp only [if_pos c2, if_pos c1.1, if_pos c1.2]
      obtain ⟨h1, _, h3⟩ := code_good (hc p c1.1 c1.2)
      have hg : goodB (if v = true then SI else chg (rd_T40 l p).f1.toNat) = true := by split; exact si_good; exact h3
      refine Ev.bind h1 ?_
      have hsz : (if v = true then SI else chg (rd_T40 l p).f1.toNat).size < 4294967281 := by unfold goodB at hg; simp only [Bool.and_eq_true, decide_eq_true_eq] at hg; omega
      refine Ev.congr (fun k => if_pos hsz) ?_
      exact Ev.congr (fun k => impl_meet k a0 a1 a2 a3 a4 a5 a6 a7 a8 a9 a10 _ _ _ _ _ _ _ _ _ _ _) (Ev.now _)
    · simp only [if_neg c2]
      exact Ev.now _
  · rw [if_neg c1]
    by_cases c3 : p ≥ 0
    · simp only [if_pos c3, decide_eq_false (show ¬ p ≤ (l.length : Int) - 1 by omega), Option.bind_some, Bool.false_eq_true, if_false]; exact Ev.now _
    · simp only [if_neg c3, Option.bind_some, Bool.false_eq_true, if_false]; exact Ev.now _
theorem spec_bef (l : List (S40)) (p : Int) (v : Bool) (a0 a1 a2 a3 a4 a5 a6 a7 a8 a9 a10 b0 b1 b2 b3 b4 b5 b6 b7 b8 b9 b10 : Int) (hl : l.length ≤ 1048576) (hc : ∀ i : Int, 0 ≤ i → i < (l.length : Int) → 0 ≤ (rd_T40 l i).f1 ∧ (rd_T40 l i).f1 ≤ 255) : Ev (fun k => spec_Before.f k l p v a0 a1 a2 a3 a4 a5 a6 a7 a8 a9 a10 b0 b1 b2 b3 b4 b5 b6 b7 b8 b9 b10) (BV l p v a0 a1 a2 a3 a4 a5 a6 a7 a8 a9 a10 b0 b1 b2 b3 b4 b5 b6 b7 b8 b9 b10) := by
  unfold spec_Before.f BV spec_l01In.f
  rw [wrap_in (by omega) (by omega)]
  by_cases c1 : 0 ≤ p ∧ p < (l.length : Int)
  · rw [if_pos c1]
    simp only [if_pos (show p ≥ 0 from c1.1), decide_eq_true (show p ≤ (l.length : Int) - 1 by omega), Option.bind_some, if_true]
    refine Ev.bind (spec_ok b0 b1 b2 b3 b4 b5 b6 b7 b8 b9 b10) ?_
    by_cases c2 : impl_KnowOk.rest [b0, b1, b2, b3, b4, b5, b6, b7, b8, b9, b10] 0 = true
    · rw [if_pos c2, c2]
      obtain ⟨_, h2, h3⟩ := code_good (hc p c1.1 c1.2)
      refine Ev.step (f := fun k => ((spec_Changes.f k ((rd_T40 l p).f1)).bind fun t => (if v = true then (spec_Before.j1 k SI a0 a1 a2 a3 a4 a5 a6 a7 a8 a9 a10 b0 b1 b2 b3 b4 b5 b6 b7 b8 b9 b10) else (spec_Before.j1 k t a0 a1 a2 a3 a4 a5 a6 a7 a8 a9 a10 b0 b1 b2 b3 b4 b5 b6 b7 b8 b9 b10)))) (fun k => by simp only [spec_Before.j0]; rw [if_neg (by decide), if_pos c1.1, if_pos c1.2]; rfl) (Ev.bind h2 ?_)
      have key : ∀ s, goodB s = true → Ev (fun k => spec_Before.j1 k s a0 a1 a2 a3 a4 a5 a6 a7 a8 a9 a10 b0 b1 b2 b3 b4 b5 b6 b7 b8 b9 b10) (MT a0 a1 a2 a3 a4 a5 a6 a7 a8 a9 a10 (impl_before.wo s 0 65 b0) (impl_before.wo s 1 88 b1) (impl_before.wo s 2 89 b2) (impl_before.wo s 3 83 b3) (impl_before.wo s 4 46 b4) (impl_before.wo s 5 78 b5) (impl_before.wo s 6 86 b6) (impl_before.wo s 7 68 b7) (impl_before.wo s 8 73 b8) (impl_before.wo s 9 90 b9) (impl_before.wo s 10 67 b10)) := fun s hs => Ev.step (f := fun k => spec_Before.l0 k s [b0, b1, b2, b3, b4, b5, b6, b7, b8, b9, b10] PLs 0 a0 a1 a2 a3 a4 a5 a6 a7 a8 a9 a10) (fun k => by simp only [spec_Before.j1, spec_l09List.f, Option.bind_some]; rfl) (spec_before_from s hs a0 a1 a2 a3 a4 a5 a6 a7 a8 a9 a10 [b0, b1, b2, b3, b4, b5, b6, b7, b8, b9, b10] rfl 11 0 rfl)
      cases v with
      | true => exact key SI si_good
      | false => exact key _ h3
    · rw [if_neg c2, Bool.eq_false_iff.mpr c2]
      exact Ev.step (f := fun _ => some ZF) (fun k => by simp only [spec_Before.j0]; rfl) (Ev.now _)
  · rw [if_neg c1]
    by_cases c3 : p ≥ 0
    · simp only [if_pos c3, decide_eq_false (show ¬ p ≤ (l.length : Int) - 1 by omega), Option.bind_some, Bool.false_eq_true, if_false]; exact Ev.step (f := fun _ => some ZF) (fun k => by simp only [spec_Before.j0]; rfl) (Ev.now _)
    · simp only [if_neg c3, Option.bind_some, Bool.false_eq_true, if_false]; exact Ev.step (f := fun _ => some ZF) (fun k => by simp only [spec_Before.j0]; rfl) (Ev.now _)
end Go.Proofs.YtaclekdigolhkaaDoor.MCH
