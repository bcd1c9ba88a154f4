/-
The memory as the first reads find it: the same on both sides.
-/
import Derived.Test.YthebdcoiibpfeaaMFx0
import Derived.Test.YthebdcoiibpfeaaMFx4
import Derived.Test.YthebdcoiibpfeaaMFx5
import Derived.Test.YthebdcoiibpfeaaMFx6
import Derived.Test.YthebdcoiibpfeaaFRamSize
set_option linter.unusedSimpArgs false
set_option linter.unusedVariables false
namespace Go.Proofs.Ythebdcoiibpfeaa.MFH
open Go.RowKit Go.Proofs.Ythebdcoiibpfeaa.MF Go.Proofs.YthebdcoiibpfeaaW.PrintWords Go.Proofs.YthebdcoiibpfeaaW.PrintLast Go.Proofs.Ythebdcoiibpfeaa.Bit Go.Proofs.Ythebdcoiibpfeaa.Lst
theorem first_from (L : List Cl) (n : Nat) (hn : Sz n) (hL : L.length ≤ 1048576) (hg : ∀ x ∈ L, 0 ≤ x.f0 ∧ x.f0 < 65536) :
    ∀ (d i : Nat) (kn me : List Bool) (ram : List Int), i + d = L.length → kn.length = n → me.length = n → ram.length = n → ∃ (ram2 : List Int) (kn2 : List Bool), ram2.length = n ∧ kn2.length = n ∧
      Ev (fun k => spec_l13Ram.l0 k L n true kn me i ram) (ram2, kn2) ∧ Ev (fun k => impl_FirstRam.l0 k n kn me L L.length i ram) (ram2, kn2)
  | 0, i, kn, me, ram, hi, h1, h2, h3 => ⟨ram, kn, h3, h1, Ev.step (f := fun _ => some (ram, kn)) (fun k => by simp only [spec_l13Ram.l0]; rw [if_neg (by omega)]) (Ev.now _),
      Ev.step (f := fun _ => some (ram, kn)) (fun k => by simp only [impl_FirstRam.l0]; rw [if_neg (by omega)]) (Ev.now _)⟩
  | d + 1, i, kn, me, ram, hi, h1, h2, h3 => by
    have hc := rdC hg (i := i) (by omega)
    obtain ⟨c0, c1⟩ := cell_in hn hc.1 hc.2
    have hn0 : ¬ (n : Int) = 0 := by unfold Sz at hn; omega
    have es : ∀ k, spec_l13Ram.l0 (k + 1) L n true kn me i ram = if rdOf false me (Int.tmod (wrap64 ((rd_T57 L i).f0)) n) = true ∨ (rd_T57 L i).f2 = true then spec_l13Ram.l0 k L n true kn (me.set (Int.tmod (wrap64 ((rd_T57 L i).f0)) n).toNat true) ((i + 1 : Nat) : Int) ram
        else spec_l13Ram.l0 k L n true (kn.set (Int.tmod (wrap64 ((rd_T57 L i).f0)) n).toNat true) (me.set (Int.tmod (wrap64 ((rd_T57 L i).f0)) n).toNat true) ((i + 1 : Nat) : Int) (ram.set (Int.tmod (wrap64 ((rd_T57 L i).f0)) n).toNat (rd_T57 L i).f1) := fun k => by
      simp only [spec_l13Ram.l0, if_true]
      rw [if_pos (show (i : Int) < (L.length : Int) by omega), if_pos (show (0 : Int) ≤ (i : Int) by omega), if_neg hn0, if_pos c0, h2, h1, h3, if_pos c1, if_pos c1, if_pos c1, w1 (by omega)]
      by_cases hb : rdOf false me (Int.tmod (wrap64 ((rd_T57 L i).f0)) n) = true
      · rw [if_pos hb, if_pos (Or.inl hb)]
      · rw [if_neg hb]
        by_cases hw : (rd_T57 L i).f2 = true
        · rw [if_pos hw, if_pos (Or.inr hw)]
        · rw [if_neg hw, if_neg (fun o => o.elim hb hw)]
    have ei : ∀ k, impl_FirstRam.l0 (k + 1) n kn me L L.length i ram = if rdOf false me (Int.tmod (wrap64 ((rd_T57 L i).f0)) n) = true ∨ (rd_T57 L i).f2 = true then impl_FirstRam.l0 k n kn (me.set (Int.tmod (wrap64 ((rd_T57 L i).f0)) n).toNat true) L L.length ((i + 1 : Nat) : Int) ram
        else impl_FirstRam.l0 k n (kn.set (Int.tmod (wrap64 ((rd_T57 L i).f0)) n).toNat true) (me.set (Int.tmod (wrap64 ((rd_T57 L i).f0)) n).toNat true) L L.length ((i + 1 : Nat) : Int) (ram.set (Int.tmod (wrap64 ((rd_T57 L i).f0)) n).toNat (rd_T57 L i).f1) := fun k => by
      simp only [impl_FirstRam.l0, impl_Cyc_cell.f]
      rw [if_pos (show (i : Int) < (L.length : Int) by omega), if_pos (show (0 : Int) ≤ (i : Int) by omega), if_pos (show (i : Int) < (L.length : Int) by omega), if_neg hn0, Option.bind_some, if_pos c0, h2, h3, h1, if_pos c1, if_pos c1, if_pos c1, w1 (by omega)]
      by_cases hb : rdOf false me (Int.tmod (wrap64 ((rd_T57 L i).f0)) n) = true
      · rw [if_pos hb, if_pos (Or.inl hb)]
      · rw [if_neg hb]
        by_cases hw : (rd_T57 L i).f2 = true
        · rw [if_pos hw, if_pos (Or.inr hw)]
        · rw [if_neg hw, if_neg (fun o => o.elim hb hw)]
    by_cases h : rdOf false me (Int.tmod (wrap64 ((rd_T57 L i).f0)) n) = true ∨ (rd_T57 L i).f2 = true
    · obtain ⟨ram2, kn2, r1, r2, r3, r4⟩ := first_from L n hn hL hg d (i + 1) kn (me.set (Int.tmod (wrap64 ((rd_T57 L i).f0)) n).toNat true) ram (by omega) h1 (by simp [h2]) h3
      exact ⟨ram2, kn2, r1, r2, Ev.step (fun k => by rw [es, if_pos h]) r3, Ev.step (fun k => by rw [ei, if_pos h]) r4⟩
    · obtain ⟨ram2, kn2, r1, r2, r3, r4⟩ := first_from L n hn hL hg d (i + 1) (kn.set (Int.tmod (wrap64 ((rd_T57 L i).f0)) n).toNat true) (me.set (Int.tmod (wrap64 ((rd_T57 L i).f0)) n).toNat true) (ram.set (Int.tmod (wrap64 ((rd_T57 L i).f0)) n).toNat (rd_T57 L i).f1) (by omega) (by simp [h1]) (by simp [h2]) (by simp [h3])
      exact ⟨ram2, kn2, r1, r2, Ev.step (fun k => by rw [es, if_neg h]) r3, Ev.step (fun k => by rw [ei, if_neg h]) r4⟩
theorem first_same (L : List Cl) (a : Int) (hL : L.length ≤ 1048576) (hg : ∀ x ∈ L, 0 ≤ x.f0 ∧ x.f0 < 65536) : ∃ (ram : List Int) (kn : List Bool), ram.length ≤ 4096 ∧ kn.length ≤ 4096 ∧ Ev (fun k => spec_FirstRam.f k L a) (ram, kn) ∧ Ev (fun k => impl_FirstRam.f k L a) (ram, kn) := by
  rcases size_or a with ⟨n, rfl, hn⟩ | h
  · obtain ⟨ram, kn, r1, r2, r3, r4⟩ := first_from L n hn hL hg L.length 0 (List.replicate n false) (List.replicate n false) (List.replicate n 0) (by omega) (by simp) (by simp) (by simp)
    have hb : n ≤ 4096 := by unfold Sz at hn; omega
    refine ⟨ram, kn, by omega, by omega, ?_, ?_⟩
    · simp only [spec_FirstRam.f, spec_l13Ram.f, spec_size hn, spec_new hn, Option.bind_some, if_true, Int.toNat_natCast]
      simp only [if_pos (show 0 ≤ (n : Int) by omega), if_pos (show n ≤ 281474976710656 by omega)]
      exact Ev.bind r3 (Ev.now _)
    · simp only [impl_FirstRam.f, impl_size hn, impl_new hn, Option.bind_some, if_true, Int.toNat_natCast]
      simp only [if_pos (show 0 ≤ (n : Int) by omega), if_pos (show n ≤ 281474976710656 by omega)]
      exact r4
  · obtain ⟨h1, h2⟩ := no_size h
    refine ⟨[], [], by simp, by simp, ?_, ?_⟩
    · simp only [spec_FirstRam.f, spec_l13Ram.f, h1, Option.bind_some, Bool.false_eq_true, if_false]
      exact Ev.now _
    · simp only [impl_FirstRam.f, h2, Option.bind_some, Bool.false_eq_true, if_false]
      exact Ev.now _
end Go.Proofs.Ythebdcoiibpfeaa.MFH
