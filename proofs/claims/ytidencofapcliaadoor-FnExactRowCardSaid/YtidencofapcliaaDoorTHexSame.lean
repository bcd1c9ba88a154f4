/-
HexText: the program's text of a number in base 16 is the reference's.
-/
import Derived.Test.YtidencofapcliaaDoorMTx1
import Derived.Test.YtidencofapcliaaDoorMTx2
import Derived.Test.YtidencofapcliaaDoorMTx3
import Derived.Test.YtidencofapcliaaDoorBit
import Derived.Test.YtidencofapcliaaDoorLst
set_option linter.unusedSimpArgs false
set_option linter.unusedVariables false
namespace Go.Proofs.YtidencofapcliaaDoor.MTH
open Go.RowKit Go.Proofs.YtidencofapcliaaDoor.MT Go.Proofs.YtidencofapcliaaDoorW.PrintWords Go.Proofs.YtidencofapcliaaDoorW.PrintLast Go.Proofs.YtidencofapcliaaDoor.Bit Go.Proofs.YtidencofapcliaaDoor.Lst

abbrev hx : ByteArray := ⟨#[48, 49, 50, 51, 52, 53, 54, 55, 56, 57, 65, 66, 67, 68, 69, 70]⟩
def dig (j : Nat) : Int := bt hx (j : Int)
/-- So many digits of a number in base 16. -/
def hexL : Nat → Nat → List Int
  | 0, _ => []
  | d + 1, v => hexL d (v / 16) ++ [dig (v % 16)]
theorem hexL_len : ∀ d v, (hexL d v).length = d
  | 0, _ => rfl
  | d + 1, v => by simp [hexL, hexL_len d (v / 16)]
theorem str_app (a b : List Int) : strOfNums (a ++ b) = strOfNums a ++ strOfNums b := by
  apply ByteArray.ext
  simp [strOfNums]
theorem str_size (a : List Int) : (strOfNums a).size = a.length := by
  simp [strOfNums, ByteArray.size]
set_option maxRecDepth 100000 in
theorem hx_cut : ∀ j : Fin 16, hx.extract j.val (j.val + 1) = strOfNums [dig j.val] := by decide +kernel
theorem w16 {u : Nat} (hu : u < 9223372036854775808) : Int.tmod (u : Int) 16 = ((u % 16 : Nat) : Int) ∧ wrap64 (Int.tdiv (u : Int) 16) = ((u / 16 : Nat) : Int) := by
  constructor
  · rw [Int.tmod_eq_emod_of_nonneg (by omega)]
    omega
  · rw [Int.tdiv_eq_ediv_of_nonneg (by omega), wrap_in (by omega) (by omega)]
    omega
theorem spec_hex_from (n : Nat) (hn : n ≤ 8) : ∀ (d i u : Nat) (out : ByteArray), i + d = n → u < 9223372036854775808 → out.size ≤ i → Ev (fun k => spec_HexText.l0 k u n out i) (strOfNums (hexL d u) ++ out)
  | 0, i, u, out, hi, hu, ho => by
    have e : strOfNums (hexL 0 u) ++ out = out := by
      apply ByteArray.ext
      simp [hexL, strOfNums]
    rw [e]
    refine Ev.step (f := fun _ => some out) (fun k => ?_) (Ev.now _)
    simp only [spec_HexText.l0]
    rw [if_neg (by omega)]
  | d + 1, i, u, out, hi, hu, ho => by
    have hc := hx_cut ⟨u % 16, by omega⟩
    have hs : (strOfNums [dig (u % 16)]).size = 1 := str_size _
    have ih := spec_hex_from n hn d (i + 1) (u / 16) (strOfNums [dig (u % 16)] ++ out) (by omega) (by omega) (by rw [ByteArray.size_append, hs]; omega)
    have e : strOfNums (hexL (d + 1) u) ++ out = strOfNums (hexL d (u / 16)) ++ (strOfNums [dig (u % 16)] ++ out) := by
      simp only [hexL]
      rw [str_app, ByteArray.append_assoc]
    rw [e]
    obtain ⟨m1, m2⟩ := w16 hu
    have w := w1 (i := u % 16) (by omega)
    have wi := w1 (i := i) (by omega)
    refine Ev.step (fun k => ?_) ih
    simp only [spec_HexText.l0, m1, m2, w, wi, Int.toNat_natCast]
    clear m1 m2 w wi
    have hc' : hx.extract (u % 16) (u % 16 + 1) = strOfNums [dig (u % 16)] := hc
    rw [hc', hs, if_pos (by omega), if_pos (by omega), if_pos (by omega), if_pos (by omega), if_pos (by omega)]
theorem spec_hex {n : Nat} (h1 : 1 ≤ n) (hn : n ≤ 8) {u : Nat} (hu : u < 9223372036854775808) : Ev (fun k => spec_HexText.f k u n) (strOfNums (hexL n u)) := by
  have h := spec_hex_from n hn n 0 u ⟨#[]⟩ (by omega) hu (by decide)
  have e : strOfNums (hexL n u) ++ (⟨#[]⟩ : ByteArray) = strOfNums (hexL n u) := by
    apply ByteArray.ext
    simp
  rw [e] at h
  have s : ∀ k, spec_HexText.f k u n = spec_HexText.j0 k u n false := fun k => by
    unfold spec_HexText.f spec_l01In.f
    rw [if_neg (by omega), if_pos (by omega), decide_eq_true (by omega)]
    rfl
  refine Ev.congr s (Ev.step (fun k => ?_) h)
  simp only [spec_HexText.j0, Bool.false_eq_true, if_false]
  rfl
theorem set_mid (d : Nat) (S : List Int) (x : Int) : (List.replicate (d + 1) (0 : Int) ++ S).set d x = List.replicate d 0 ++ x :: S := by
  rw [List.replicate_succ', List.append_assoc, List.set_append_right _ _ (by simp)]
  simp
theorem impl_hex_from : ∀ (d u : Nat) (S : List Int), d + S.length ≤ 100 → u < 9223372036854775808 → Ev (fun k => impl_HexText.l0 k u (List.replicate d 0 ++ S) ((d : Int) - 1)) (strOfNums (hexL d u ++ S))
  | 0, u, S, hd, hu => by
    refine Ev.step (f := fun _ => some (strOfNums (hexL 0 u ++ S))) (fun k => ?_) (Ev.now _)
    simp only [impl_HexText.l0]
    rw [if_neg (by omega)]
    simp [hexL]
  | d + 1, u, S, hd, hu => by
    obtain ⟨m1, m2⟩ := w16 hu
    have ih := impl_hex_from d (u / 16) (dig (u % 16) :: S) (by simp; omega) (by omega)
    have e : hexL (d + 1) u ++ S = hexL d (u / 16) ++ dig (u % 16) :: S := by simp [hexL]
    rw [e]
    have w : wrap64 ((((d + 1 : Nat) : Int) - 1) - 1) = (d : Int) - 1 := by rw [wrap_in (by omega) (by omega)]; omega
    have q : ((d + 1 : Nat) : Int) - 1 = (d : Int) := by omega
    refine Ev.step (fun k => ?_) ih
    simp only [impl_HexText.l0, m1, m2, w]
    clear m1 m2 w
    rw [q, Int.toNat_natCast, set_mid, if_pos (by omega), if_pos (by omega), if_pos (by omega), if_pos (by omega), if_pos (by simp; omega)]
    rfl
theorem impl_hex {n : Nat} (h1 : 1 ≤ n) (hn : n ≤ 8) {u : Nat} (hu : u < 9223372036854775808) : Ev (fun k => impl_HexText.f k u n) (strOfNums (hexL n u)) := by
  have h := impl_hex_from n u [] (by simp; omega) hu
  simp only [List.append_nil] at h
  have s : ∀ k, impl_HexText.f k u n = impl_HexText.j0 k u n false := fun k => by
    unfold impl_HexText.f impl_within.f
    rw [if_neg (by omega), if_pos (by omega), decide_eq_true (by omega)]
    rfl
  refine Ev.congr s (Ev.step (fun k => ?_) h)
  have w : wrap64 ((n : Int) - 1) = (n : Int) - 1 := wrap_in (by omega) (by omega)
  simp only [impl_HexText.j0, Bool.false_eq_true, if_false, Int.toNat_natCast, w]
  rw [if_pos (by omega), if_pos (by omega)]
end Go.Proofs.YtidencofapcliaaDoor.MTH
