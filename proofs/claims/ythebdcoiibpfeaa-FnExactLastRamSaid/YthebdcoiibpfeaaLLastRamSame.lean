/-
The memory as the last touches leave it: the same on both sides.
-/
import Derived.Test.YthebdcoiibpfeaaMLx0
import Derived.Test.YthebdcoiibpfeaaMLx3
import Derived.Test.YthebdcoiibpfeaaMLx4
import Derived.Test.YthebdcoiibpfeaaMLx5
import Derived.Test.YthebdcoiibpfeaaLRamSize
set_option linter.unusedSimpArgs false
set_option linter.unusedVariables false
namespace Go.Proofs.Ythebdcoiibpfeaa.MLH
open Go.RowKit Go.Proofs.Ythebdcoiibpfeaa.ML Go.Proofs.YthebdcoiibpfeaaW.PrintWords Go.Proofs.YthebdcoiibpfeaaW.PrintLast Go.Proofs.Ythebdcoiibpfeaa.Bit Go.Proofs.Ythebdcoiibpfeaa.Lst
theorem last_from (L : List Cl) (n : Nat) (hn : Sz n) (hL : L.length ≤ 1048576) (hg : ∀ x ∈ L, 0 ≤ x.f0 ∧ x.f0 < 65536) :
    ∀ (d i : Nat) (kn me : List Bool) (ram : List Int), i + d = L.length → kn.length = n → me.length = n → ram.length = n → ∃ (ram2 : List Int) (kn2 : List Bool), ram2.length = n ∧ kn2.length = n ∧
      Ev (fun k => spec_l13Ram.l0 k L n false kn me i ram) (ram2, kn2) ∧ Ev (fun k => impl_LastRam.l0 k n kn L L.length i ram) (ram2, kn2)
  | 0, i, kn, me, ram, hi, h1, h2, h3 => ⟨ram, kn, h3, h1, Ev.step (f := fun _ => some (ram, kn)) (fun k => by simp only [spec_l13Ram.l0]; rw [if_neg (by omega)]) (Ev.now _),
      Ev.step (f := fun _ => some (ram, kn)) (fun k => by simp only [impl_LastRam.l0]; rw [if_neg (by omega)]) (Ev.now _)⟩
  | d + 1, i, kn, me, ram, hi, h1, h2, h3 => by
    have hc := rdC hg (i := i) (by omega)
    obtain ⟨c0, c1⟩ := cell_in hn hc.1 hc.2
    have hn0 : ¬ (n : Int) = 0 := by unfold Sz at hn; omega
    obtain ⟨ram2, kn2, r1, r2, r3, r4⟩ := last_from L n hn hL hg d (i + 1) (kn.set (Int.tmod (wrap64 ((rd_T57 L i).f0)) n).toNat true) (me.set (Int.tmod (wrap64 ((rd_T57 L i).f0)) n).toNat true) (ram.set (Int.tmod (wrap64 ((rd_T57 L i).f0)) n).toNat (rd_T57 L i).f1) (by omega) (by simp [h1]) (by simp [h2]) (by simp [h3])
    refine ⟨ram2, kn2, r1, r2, Ev.step (fun k => ?_) r3, Ev.step (fun k => ?_) r4⟩
    · simp only [spec_l13Ram.l0, Bool.false_eq_true, if_false]
      rw [if_pos (show (i : Int) < (L.length : Int) by omega), if_pos (show (0 : Int) ≤ (i : Int) by omega), if_neg hn0, if_pos c0, h2, h1, h3, if_pos c1, if_pos c1, if_pos c1, w1 (by omega)]
    · simp only [impl_LastRam.l0, impl_Cyc_cell.f]
      rw [if_pos (show (i : Int) < (L.length : Int) by omega), if_pos (show (0 : Int) ≤ (i : Int) by omega), if_pos (show (i : Int) < (L.length : Int) by omega), if_neg hn0, Option.bind_some, if_pos c0, h3, h1, if_pos c1, if_pos c1, w1 (by omega)]
theorem last_same (L : List Cl) (a : Int) (hL : L.length ≤ 1048576) (hg : ∀ x ∈ L, 0 ≤ x.f0 ∧ x.f0 < 65536) : ∃ (ram : List Int) (kn : List Bool), ram.length ≤ 4096 ∧ kn.length ≤ 4096 ∧ Ev (fun k => spec_LastRam.f k L a) (ram, kn) ∧ Ev (fun k => impl_LastRam.f k L a) (ram, kn) := by
  rcases size_or a with ⟨n, rfl, hn⟩ | h
  · obtain ⟨ram, kn, r1, r2, r3, r4⟩ := last_from L n hn hL hg L.length 0 (List.replicate n false) (List.replicate n false) (List.replicate n 0) (by omega) (by simp) (by simp) (by simp)
    have hb : n ≤ 4096 := by unfold Sz at hn; omega
    refine ⟨ram, kn, by omega, by omega, ?_, ?_⟩
    · simp only [spec_LastRam.f, spec_l13Ram.f, spec_size hn, spec_new hn, Option.bind_some, if_true, Int.toNat_natCast]
      simp only [if_pos (show 0 ≤ (n : Int) by omega), if_pos (show n ≤ 281474976710656 by omega)]
      exact Ev.bind r3 (Ev.now _)
    · simp only [impl_LastRam.f, impl_size hn, impl_new hn, Option.bind_some, if_true, Int.toNat_natCast]
      simp only [if_pos (show 0 ≤ (n : Int) by omega), if_pos (show n ≤ 281474976710656 by omega)]
      exact r4
  · obtain ⟨h1, h2⟩ := no_size h
    refine ⟨[], [], by simp, by simp, ?_, ?_⟩
    · simp only [spec_LastRam.f, spec_l13Ram.f, h1, Option.bind_some, Bool.false_eq_true, if_false]
      exact Ev.now _
    · simp only [impl_LastRam.f, h2, Option.bind_some, Bool.false_eq_true, if_false]
      exact Ev.now _
end Go.Proofs.Ythebdcoiibpfeaa.MLH
