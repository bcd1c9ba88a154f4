/-
The laws' helpers over texts: equal lists of texts are told equal, marks are held.
-/
import Derived.Test.YtfbhgmpgkhmikaaDoorMLx9
import Derived.Test.YtfbhgmpgkhmikaaDoorMLx10
import Derived.Test.YtfbhgmpgkhmikaaDoorBit
import Derived.Test.YtfbhgmpgkhmikaaDoorLst
set_option linter.unusedSimpArgs false
set_option linter.unusedVariables false
namespace Go.Proofs.YtfbhgmpgkhmikaaDoor.MLT
open Go.RowKit Go.Proofs.YtfbhgmpgkhmikaaDoor.ML Go.Proofs.YtfbhgmpgkhmikaaDoorW.PrintWords Go.Proofs.YtfbhgmpgkhmikaaDoorW.PrintLast Go.Proofs.YtfbhgmpgkhmikaaDoor.Bit Go.Proofs.YtfbhgmpgkhmikaaDoor.Lst

theorem eqStringS_ev (l : List ByteArray) (hl : l.length < 1000000000) : Ev (fun k => laws_eqStringS.f k l l) true := by
  have h := ev_for (r := true) l.length (fun k i => laws_eqStringS.l0 k l l i)
    (fun k => by
      simp only [laws_eqStringS.l0]
      rw [if_neg (by omega)])
    (fun i hi k => by
      simp only [laws_eqStringS.l0, if_true]
      rw [if_pos (by omega), if_pos (by omega), if_pos (by omega), w1 (by omega)])
  refine Ev.congr (fun k => ?_) h
  unfold laws_eqStringS.f
  rw [if_pos rfl]
  rfl
/-- A mark's text is made, whatever it is. -/
theorem mark_from : ∀ (d : Nat) (x : Int) (t : ByteArray), 0 ≤ x → x < 9000000000000000000 → x < 10 ^ d → t.size + d ≤ 100 → ∃ r, Ev (fun k => laws_markText.l0 k x t) r
  | 0, x, t, h0, h1, h2, h3 => by
    refine ⟨(⟨#[109]⟩ : ByteArray) ++ t, Ev.step (f := fun _ => some ((⟨#[109]⟩ : ByteArray) ++ t)) (fun k => ?_) (Ev.now _)⟩
    have h4 : x < 1 := h2
    simp only [laws_markText.l0]
    rw [if_neg (by omega), if_pos (by omega)]
  | d + 1, x, t, h0, h1, h2, h3 => by
    by_cases c : x > 0
    · have w : Go.RowKit.wrap64 (Int.tdiv x 10) = x / 10 := by
        rw [Int.tdiv_eq_ediv_of_nonneg h0, wrap_in (by omega) (by omega)]
      have hs : (strOfNums [(Go.RowKit.wrap64 (48 + (Int.tmod x 10))) % 256]).size = 1 := by simp [strOfNums, ByteArray.size]
      have hp : (10 : Int) ^ (d + 1) = 10 ^ d * 10 := Int.pow_succ 10 d
      have hlt : x / 10 < 10 ^ d := by
        generalize (10 : Int) ^ d = y at hp
        rw [hp] at h2
        clear w hs
        omega
      obtain ⟨r, ih⟩ := mark_from d (x / 10) (strOfNums [(Go.RowKit.wrap64 (48 + (Int.tmod x 10))) % 256] ++ t) (by clear w hs; omega) (by clear w hs; omega) hlt (by rw [ByteArray.size_append, hs]; clear w hs; omega)
      refine ⟨r, Ev.step (fun k => ?_) ih⟩
      simp only [laws_markText.l0, Option.bind_some, w]
      clear w
      rw [if_pos c, if_pos (by rw [hs]; clear hs; omega)]
    · refine ⟨(⟨#[109]⟩ : ByteArray) ++ t, Ev.step (f := fun _ => some ((⟨#[109]⟩ : ByteArray) ++ t)) (fun k => ?_) (Ev.now _)⟩
      simp only [laws_markText.l0]
      rw [if_neg c, if_pos (by omega)]
theorem mark_ev (n : Nat) (hn : n < 9000000000000000000) : ∃ r, Ev (fun k => laws_markText.f k (n : Int)) r := by
  unfold laws_markText.f
  by_cases c : (n : Int) ≤ 0
  · simp only [c, if_true]
    exact ⟨_, Ev.now _⟩
  · simp only [c, if_false]
    exact mark_from 19 n ⟨#[]⟩ (by omega) (by omega) (by omega) (by decide)
noncomputable def mk (n : Nat) : ByteArray := if h : n < 9000000000000000000 then (mark_ev n h).choose else ⟨#[]⟩
theorem mk_ev (n : Nat) (hn : n < 9000000000000000000) : Ev (fun k => laws_markText.f k (n : Int)) (mk n) := by
  unfold mk
  rw [dif_pos hn]
  exact (mark_ev n hn).choose_spec
theorem markStringS_ev (l : List ByteArray) (hl : l.length ≤ 1000000000000000) : Ev (fun k => laws_markStringS.f k l 1) (((1 + l.length : Nat) : Int), (List.range l.length).map fun j => mk (1 + j)) := by
  have h := ev_up (r := (((1 + l.length : Nat) : Int), (List.range l.length).map fun j => mk (1 + j))) l.length (fun k i => laws_markStringS.l0 k (run (fun j => mk (1 + j)) l i) ((1 + i : Nat) : Int) i)
    (Ev.step (f := fun _ => some (((1 + l.length : Nat) : Int), (List.range l.length).map fun j => mk (1 + j))) (fun k => by
      simp only [laws_markStringS.l0]
      rw [run_full, if_neg (by simp)]) (Ev.now _))
    (fun i hi ih => by
      have hlen := run_length (fun j => mk (1 + j)) l (show i ≤ l.length by omega)
      have w : Go.RowKit.wrap64 (((1 + i : Nat) : Int) + 1) = ((1 + (i + 1) : Nat) : Int) := by rw [wrap_in (by omega) (by omega)]; omega
      have wi := w1 (i := i) (by omega)
      refine Ev.step (f := fun k => (laws_markText.f k ((1 + i : Nat) : Int)).bind fun t => laws_markStringS.l0 k ((run (fun j => mk (1 + j)) l i).set i t) ((1 + (i + 1) : Nat) : Int) ((i + 1 : Nat) : Int)) (fun k => ?_) (Ev.bind (mk_ev (1 + i) (by omega)) ?_)
      · simp only [laws_markStringS.l0, w, wi]
        clear w wi
        rw [if_pos (by omega)]
        congr 1
      · have e := run_set (fun j => mk (1 + j)) l hi
        rw [e]
        exact ih)
    l.length 0 (by omega)
  rw [run_zero] at h
  exact h
theorem heldStringS_ev (n : Nat) (hl : n ≤ 1000000000000000) : Ev (fun k => laws_heldStringS.f k ((List.range n).map fun j => mk (1 + j)) 1) ((1 + n : Nat) : Int) := by
  have h := ev_up (r := ((1 + n : Nat) : Int)) n (fun k i => laws_heldStringS.l0 k ((List.range n).map fun j => mk (1 + j)) ((1 + i : Nat) : Int) i)
    (Ev.step (f := fun _ => some ((1 + n : Nat) : Int)) (fun k => by
      simp only [laws_heldStringS.l0]
      rw [if_neg (by simp)]) (Ev.now _))
    (fun i hi ih => by
      have w : Go.RowKit.wrap64 (((1 + i : Nat) : Int) + 1) = ((1 + (i + 1) : Nat) : Int) := by rw [wrap_in (by omega) (by omega)]; omega
      have wi := w1 (i := i) (by omega)
      have hrd : rdOf ByteArray.empty ((List.range n).map fun j => mk (1 + j)) (i : Int) = mk (1 + i) := by
        unfold rdOf
        rw [Int.toNat_natCast]
        simp [List.getD_eq_getElem?_getD, hi]
      refine Ev.step (f := fun k => (laws_markText.f k ((1 + i : Nat) : Int)).bind fun t => if (mk (1 + i)).toList = t.toList then laws_heldStringS.l0 k ((List.range n).map fun j => mk (1 + j)) ((1 + (i + 1) : Nat) : Int) ((i + 1 : Nat) : Int) else some (-1)) (fun k => ?_) (Ev.bind (mk_ev (1 + i) (by omega)) ?_)
      · simp only [laws_heldStringS.l0, w, wi, hrd]
        clear w wi
        rw [if_pos (by simp; omega), if_pos (by omega)]
      · simp only [if_true]
        exact ih)
    n 0 (by omega)
  exact h
end Go.Proofs.YtfbhgmpgkhmikaaDoor.MLT
