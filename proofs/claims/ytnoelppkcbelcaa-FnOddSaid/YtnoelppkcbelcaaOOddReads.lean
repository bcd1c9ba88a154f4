/-
Odd: the program's places of reads that are not steady are the reference's.
-/
import Derived.Test.YtnoelppkcbelcaaMOx0
import Derived.Test.YtnoelppkcbelcaaMOx1
import Derived.Test.YtnoelppkcbelcaaMOx2
import Derived.Test.YtnoelppkcbelcaaMOx4
import Derived.Test.YtnoelppkcbelcaaOCycIn
import Derived.Test.YtnoelppkcbelcaaOSizeSame
set_option linter.unusedSimpArgs false
set_option linter.unusedVariables false
namespace Go.Proofs.Ytnoelppkcbelcaa.MOH
open Go.RowKit Go.Proofs.Ytnoelppkcbelcaa.MO Go.Proofs.YtnoelppkcbelcaaW.PrintWords Go.Proofs.YtnoelppkcbelcaaW.PrintLast Go.Proofs.Ytnoelppkcbelcaa.Bit Go.Proofs.Ytnoelppkcbelcaa.Lst

/-- What the two memories say of a cell. -/
def OddInv (s : Nat) (last : List Int) (met : List Bool) (data : List Int) : Prop :=
  last.length = s ∧ met.length = s ∧ data.length = s ∧ ∀ c, c < s → (met.getD c false = true ↔ 0 ≤ last.getD c 0) ∧ (0 ≤ last.getD c 0 → data.getD c 0 = last.getD c 0)
theorem OddInv.put {s : Nat} {last : List Int} {met : List Bool} {data : List Int} (h : OddInv s last met data) {n : Nat} (hn : n < s) {v : Int} (hv : 0 ≤ v) : OddInv s (last.set n v) (met.set n true) (data.set n v) := by
  obtain ⟨h1, h2, h3, h4⟩ := h
  refine ⟨by simpa using h1, by simpa using h2, by simpa using h3, fun c hc => ?_⟩
  by_cases e : n = c
  · subst e
    rw [getD_set_self _ _ _ (by omega), getD_set_self _ _ _ (by omega), getD_set_self _ _ _ (by omega)]
    simp [hv]
  · rw [lgetD_ne _ _ _ e, lgetD_ne _ _ _ e, lgetD_ne _ _ _ e]
    exact h4 c hc
/-- The place of a read. -/
def OkR (l : List Cyc') (x : Int) : Prop := 0 ≤ x ∧ x < (l.length : Int) ∧ (rd_T32 l x).f2 = false
theorem odd_round (l : List Cyc') (s : Nat) (hs0 : 0 < s) (hs : s ≤ 4096) (hl : l.length ≤ 1048576) (hg : ∀ x ∈ l, InR x) : ∀ (d i : Nat) (out last : List Int) (met : List Bool) (data : List Int), i + d = l.length → out.length ≤ i → OddInv s last met data →
    ∃ r, Ev (fun k => spec_Odd.l1 k l s out last i) r ∧ Ev (fun k => impl_Odd.l0 k s out met data l l.length i) r ∧ r.length ≤ l.length ∧ ((∀ x ∈ out, OkR l x) → ∀ x ∈ r, OkR l x)
  | 0, i, out, last, met, data, hi, ho, hv => by
    refine ⟨out, Ev.step (f := fun _ => some out) (fun k => ?_) (Ev.now _), Ev.step (f := fun _ => some out) (fun k => ?_) (Ev.now _), by omega, fun h => h⟩
    · simp only [spec_Odd.l1]
      rw [if_neg (by omega)]
    · simp only [impl_Odd.l0]
      rw [if_neg (by omega)]
  | d + 1, i, out, last, met, data, hi, ho, hv => by
    obtain ⟨⟨a0, a1⟩, b0, b1⟩ := inR_rd hg (i := i) (by omega)
    have hc := cell_nat a0 a1 hs0
    have hn : (rd_T32 l i).f0.toNat % s < s := Nat.mod_lt _ hs0
    have hw1 := w1 (i := i) (by omega)
    have hwd : wrap64 (rd_T32 l i).f1 = (rd_T32 l i).f1 := wrap_in (by omega) (by omega)
    have hcell : impl_Cyc_cell.f (rd_T32 l i).f0 (rd_T32 l i).f1 (rd_T32 l i).f2 s = some (((rd_T32 l i).f0.toNat % s : Nat) : Int) := by
      unfold impl_Cyc_cell.f
      rw [if_neg (by omega), hc]
    generalize (rd_T32 l i).f0.toNat % s = n at hc hn hcell
    obtain ⟨h1, h2, h3, h4⟩ := id hv
    obtain ⟨g1, g2⟩ := h4 n hn
    have hput := hv.put hn b0
    have hrs : rd last n = last.getD n 0 := by unfold rd; rw [Int.toNat_natCast]
    have hrd : rd data n = data.getD n 0 := by unfold rd; rw [Int.toNat_natCast]
    have hrm : rdOf false met n = met.getD n false := by unfold rdOf; rw [Int.toNat_natCast]
    have spec_eq : ∀ k, spec_Odd.l1 (k + 1) l s out last i = if (rd_T32 l i).f2 = true then spec_Odd.l1 k l s out (last.set n (rd_T32 l i).f1) ((i + 1 : Nat) : Int) else (if last.getD n 0 ≥ 0 then (if last.getD n 0 = (rd_T32 l i).f1 then spec_Odd.l1 k l s out (last.set n (rd_T32 l i).f1) ((i + 1 : Nat) : Int) else spec_Odd.l1 k l s (out ++ [(i : Int)]) (last.set n (rd_T32 l i).f1) ((i + 1 : Nat) : Int)) else spec_Odd.l1 k l s out (last.set n (rd_T32 l i).f1) ((i + 1 : Nat) : Int)) := by
      intro k
      simp only [spec_Odd.l1]
      rw [if_pos (by omega), if_pos (by omega), if_neg (by omega), hc, hw1, hwd]
      simp only [if_pos (show (0 : Int) ≤ (n : Int) by omega), if_pos (show (n : Int) < (last.length : Int) by omega), hrs, if_pos (show out.length < 17592186044416 by omega), Int.toNat_natCast]
    have impl_eq : ∀ k, impl_Odd.l0 (k + 1) s out met data l l.length i = if (rd_T32 l i).f2 = true then impl_Odd.l0 k s out (met.set n true) (data.set n (rd_T32 l i).f1) l l.length ((i + 1 : Nat) : Int) else (if met.getD n false = true then (if data.getD n 0 = (rd_T32 l i).f1 then impl_Odd.l0 k s out (met.set n true) (data.set n (rd_T32 l i).f1) l l.length ((i + 1 : Nat) : Int) else impl_Odd.l0 k s (out ++ [(i : Int)]) (met.set n true) (data.set n (rd_T32 l i).f1) l l.length ((i + 1 : Nat) : Int)) else impl_Odd.l0 k s out (met.set n true) (data.set n (rd_T32 l i).f1) l l.length ((i + 1 : Nat) : Int)) := by
      intro k
      simp only [impl_Odd.l0]
      rw [if_pos (by omega), if_pos (by omega), if_pos (by omega), hcell]
      simp only [Option.bind_some]
      rw [hw1]
      simp only [if_pos (show (0 : Int) ≤ (n : Int) by omega), if_pos (show (n : Int) < (met.length : Int) by omega), if_pos (show (n : Int) < (data.length : Int) by omega), hrd, hrm, if_pos (show out.length < 17592186044416 by omega), Int.toNat_natCast]
    by_cases hw : (rd_T32 l i).f2 = true
    · obtain ⟨r, r1, r2, r3⟩ := odd_round l s hs0 hs hl hg d (i + 1) out _ _ _ (by omega) (by omega) hput
      exact ⟨r, Ev.step (fun k => by rw [spec_eq, if_pos hw]) r1, Ev.step (fun k => by rw [impl_eq, if_pos hw]) r2, r3⟩
    · by_cases hm : 0 ≤ last.getD n 0
      · have hm2 := g1.2 hm
        have hd2 := g2 hm
        by_cases he : last.getD n 0 = (rd_T32 l i).f1
        · obtain ⟨r, r1, r2, r3⟩ := odd_round l s hs0 hs hl hg d (i + 1) out _ _ _ (by omega) (by omega) hput
          exact ⟨r, Ev.step (fun k => by rw [spec_eq, if_neg hw, if_pos hm, if_pos he]) r1, Ev.step (fun k => by rw [impl_eq, if_neg hw, if_pos hm2, if_pos (by omega)]) r2, r3⟩
        · obtain ⟨r, r1, r2, r3⟩ := odd_round l s hs0 hs hl hg d (i + 1) (out ++ [(i : Int)]) _ _ _ (by omega) (by simp; omega) hput
          exact ⟨r, Ev.step (fun k => by rw [spec_eq, if_neg hw, if_pos hm, if_neg he]) r1, Ev.step (fun k => by rw [impl_eq, if_neg hw, if_pos hm2, if_neg (by omega)]) r2, r3.1, fun h => r3.2 fun x hx => by
            rcases List.mem_append.1 hx with hx | hx
            · exact h x hx
            · obtain rfl := List.mem_singleton.1 hx
              exact ⟨by omega, by omega, Bool.eq_false_iff.2 hw⟩⟩
      · have hm2 : ¬ met.getD n false = true := fun h => hm (g1.1 h)
        obtain ⟨r, r1, r2, r3⟩ := odd_round l s hs0 hs hl hg d (i + 1) out _ _ _ (by omega) (by omega) hput
        exact ⟨r, Ev.step (fun k => by rw [spec_eq, if_neg hw, if_neg hm]) r1, Ev.step (fun k => by rw [impl_eq, if_neg hw, if_neg hm2]) r2, r3⟩

theorem odd_same (l : List Cyc') (a : Int) (hl : l.length ≤ 1048576) (hg : ∀ x ∈ l, InR x) : ∃ r, Ev (fun k => spec_Odd.f k l a) r ∧ Ev (fun k => impl_Odd.f k l a) r ∧ r.length ≤ l.length ∧ ∀ x ∈ r, OkR l x := by
  by_cases hz : isSz a = true
  · obtain ⟨s, rfl, hs0, hs⟩ := isSz_nat hz
    have hb : (List.replicate s (0 : Int)).length = s := by simp
    have hinv : OddInv s ((List.range s).map fun _ => -1) (List.replicate s false) (List.replicate s 0) := by
      refine ⟨by simp, by simp, by simp, fun c hc => ?_⟩
      have e1 : ((List.range s).map fun _ => (-1 : Int)).getD c 0 = -1 := by simp [List.getD_eq_getElem?_getD, hc]
      have e2 : (List.replicate s false).getD c false = false := by simp [List.getD_eq_getElem?_getD, hc]
      rw [e1, e2]
      simp
    obtain ⟨r, r1, r2, r3⟩ := odd_round l s hs0 hs hl hg l.length 0 [] _ _ _ (by omega) (by simp) hinv
    refine ⟨r, ?_, ?_, r3.1, r3.2 (by simp)⟩
    · have h := ev_up (r := r) s (fun k i => spec_Odd.l0 k l s [] (run (fun _ => -1) (List.replicate s 0) i) i)
        (Ev.step (fun k => by
          simp only [spec_Odd.l0]
          rw [if_neg (by omega)]
          have hr := run_full (fun _ => (-1 : Int)) (List.replicate s 0)
          rw [hb] at hr
          rw [hr]
          rfl) r1)
        (fun i hi h => Ev.step (fun k => by
          simp only [spec_Odd.l0]
          rw [if_pos (by omega), if_pos (by omega), run_length _ _ (by omega), hb, if_pos (by omega), w1 (by omega), Int.toNat_natCast]
          rw [run_set (fun _ => (-1 : Int)) _ (by omega)]) h) s 0 (by omega)
      rw [run_zero] at h
      refine Ev.congr (fun k => ?_) h
      unfold spec_Odd.f
      rw [spec_size]
      simp only [Option.bind_some, hz, if_true]
      rw [if_pos (by omega), Int.toNat_natCast, if_pos (by omega)]
      rfl
    · refine Ev.congr (fun k => ?_) r2
      unfold impl_Odd.f
      rw [impl_size]
      simp only [Option.bind_some, hz, if_true]
      rw [if_pos (by omega), Int.toNat_natCast, if_pos (by omega)]
      rfl
  · refine ⟨[], Ev.congr (fun k => ?_) (Ev.now _), Ev.congr (fun k => ?_) (Ev.now _), by simp⟩
    · unfold spec_Odd.f
      rw [spec_size]
      simp only [Option.bind_some, hz]
      rfl
    · unfold impl_Odd.f
      rw [impl_size]
      simp only [Option.bind_some, hz]
      rfl
end Go.Proofs.Ytnoelppkcbelcaa.MOH
