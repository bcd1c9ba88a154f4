/-
ReadCpu: the text of a processor; the program's and the reference's are one and the same, and so are their answers for a text.
-/
import Derived.Test.YtidencofapcliaaMCx1
import Derived.Test.YtidencofapcliaaMCx2
import Derived.Test.YtidencofapcliaaMCx4
import Derived.Test.YtidencofapcliaaMCx5
import Derived.Test.YtidencofapcliaaMCx6
import Derived.Test.YtidencofapcliaaMCx7
import Derived.Test.YtidencofapcliaaCKnowImpl
import Derived.Test.YtidencofapcliaaTxtSame
import Derived.Test.YtidencofapcliaaGivJoin
import Derived.Test.YtidencofapcliaaFlagsKit
import Derived.Lib.Join
set_option linter.unusedSimpArgs false
set_option linter.unusedVariables false
namespace Go.Proofs.Ytidencofapcliaa.MCC
open Go.RowKit Go.Proofs.Ytidencofapcliaa.MC Go.Proofs.Ytidencofapcliaa.MCK Go.Proofs.Ytidencofapcliaa.MCH Go.Proofs.Ytidencofapcliaa.Txt Go.Proofs.YtidencofapcliaaW.PrintWords Go.Proofs.YtidencofapcliaaW.PrintLast Go.Proofs.Ytidencofapcliaa.Bit Go.Proofs.Ytidencofapcliaa.Lst

abbrev fb := FK.fb
def FT (f0 f1 f2 f3 f4 f5 : Bool) : ByteArray := ⟨#[fb f0 78, fb f1 86, fb f2 68, fb f3 73, fb f4 90, fb f5 67]⟩
theorem impl_flags (f0 f1 f2 f3 f4 f5 : Bool) : impl_flagsText.f f0 f1 f2 f3 f4 f5 = some (FT f0 f1 f2 f3 f4 f5) := rfl
theorem spec_flags (f0 f1 f2 f3 f4 f5 : Bool) : spec_l05Flags.f f0 f1 f2 f3 f4 f5 = some (FT f0 f1 f2 f3 f4 f5) := by
  cases f0 <;> cases f1 <;> cases f2 <;> cases f3 <;> cases f4 <;> cases f5 <;> rfl
/-- The text of a processor. -/
def CT (a0 a1 a2 a3 a4 : Int) (f0 f1 f2 f3 f4 f5 : Bool) : ByteArray := impl_KnowText.head (dgs 2 a0) (dgs 2 a1) (dgs 2 a2) (dgs 2 a3) (dgs 4 a4) ++ FT f0 f1 f2 f3 f4 f5
theorem spec_d {n : Nat} (hn : n = 2 ∨ n = 4) {v : Int} (hv : 0 ≤ v ∧ v < 65536) : Ev (fun k => spec_HexText.f k (wrap64 v) (n : Int)) (dgs n v) := by
  have h := spec_hex (n := n) (by omega) (by omega) (u := v.toNat) (by omega)
  rw [show ((v.toNat : Nat) : Int) = v by omega] at h
  rw [wrap_in (by omega) (by omega)]
  unfold dgs
  rw [if_neg (by omega)]
  exact h
theorem impl_d {n : Nat} (hn : n = 2 ∨ n = 4) {v : Int} (hv : 0 ≤ v ∧ v < 65536) : Ev (fun k => impl_HexText.f k (wrap64 v) (n : Int)) (dgs n v) := by
  have h := impl_hex (n := n) (by omega) (by omega) (u := v.toNat) (by omega)
  rw [show ((v.toNat : Nat) : Int) = v by omega] at h
  rw [wrap_in (by omega) (by omega)]
  unfold dgs
  rw [if_neg (by omega)]
  exact h
theorem FT_size (f0 f1 f2 f3 f4 f5 : Bool) : (FT f0 f1 f2 f3 f4 f5).size = 6 := rfl
theorem spec_cpu {a0 a1 a2 a3 a4 : Int} (h0 : 0 ≤ a0 ∧ a0 < 256) (h1 : 0 ≤ a1 ∧ a1 < 256) (h2 : 0 ≤ a2 ∧ a2 < 256) (h3 : 0 ≤ a3 ∧ a3 < 256) (h4 : 0 ≤ a4 ∧ a4 < 65536) (f0 f1 f2 f3 f4 f5 : Bool) :
    Ev (fun k => spec_CpuText.f k a0 a1 a2 a3 a4 f0 f1 f2 f3 f4 f5) (CT a0 a1 a2 a3 a4 f0 f1 f2 f3 f4 f5) := by
  unfold spec_CpuText.f CT impl_KnowText.head
  have z0 := dgs_size (Or.inl rfl) a0
  have z1 := dgs_size (Or.inl rfl) a1
  have z2 := dgs_size (Or.inl rfl) a2
  have z3 := dgs_size (Or.inl rfl) a3
  have z4 := dgs_size (Or.inr rfl) a4
  have e0 := spec_d (n := 2) (Or.inl rfl) (v := a0) (by omega)
  have e1 := spec_d (n := 2) (Or.inl rfl) (v := a1) (by omega)
  have e2 := spec_d (n := 2) (Or.inl rfl) (v := a2) (by omega)
  have e3 := spec_d (n := 2) (Or.inl rfl) (v := a3) (by omega)
  have e4 := spec_d (n := 4) (Or.inr rfl) (v := a4) (by omega)
  have y0 : (⟨#[65, 61]⟩ : ByteArray).size = 2 := rfl
  have y1 : (⟨#[32, 88, 61]⟩ : ByteArray).size = 3 := rfl
  have y2 : (⟨#[32, 89, 61]⟩ : ByteArray).size = 3 := rfl
  have y3 : (⟨#[32, 83, 61]⟩ : ByteArray).size = 3 := rfl
  have y4 : (⟨#[32, 80, 67, 61]⟩ : ByteArray).size = 4 := rfl
  have y5 : (⟨#[32]⟩ : ByteArray).size = 1 := rfl
  refine Ev.bind e0 ?_
  simp only [ByteArray.size_append, z0, y0]
  refine Ev.congr (fun k => (if_pos (by decide)).trans (if_pos (by decide))) ?_
  refine Ev.bind e1 ?_
  simp only [ByteArray.size_append, z0, z1, y0, y1]
  refine Ev.congr (fun k => (if_pos (by decide)).trans (if_pos (by decide))) ?_
  refine Ev.bind e2 ?_
  simp only [ByteArray.size_append, z0, z1, z2, y0, y1, y2]
  refine Ev.congr (fun k => (if_pos (by decide)).trans (if_pos (by decide))) ?_
  refine Ev.bind e3 ?_
  simp only [ByteArray.size_append, z0, z1, z2, z3, y0, y1, y2, y3]
  refine Ev.congr (fun k => (if_pos (by decide)).trans (if_pos (by decide))) ?_
  refine Ev.bind e4 ?_
  simp only [ByteArray.size_append, z0, z1, z2, z3, z4, y0, y1, y2, y3, y4, y5, spec_flags, Option.bind_some, FT_size]
  refine Ev.congr (fun k => (if_pos (by decide)).trans ((if_pos (by decide)).trans (if_pos (by decide)))) ?_
  exact Ev.now _
abbrev AXYS : ByteArray := ⟨#[65, 88, 89, 83]⟩
theorem impl_word (acc : List ByteArray) (hacc : acc.length ≤ 100) (xs : List Int) (hx : xs.length = 4) (i : Nat) (hi : i < 4) {L : ByteArray} (hL : AXYS.extract i (i + 1) = L) (hLs : L.size = 1) {v : Int} (hv : rd xs (i : Int) = v) (hv2 : 0 ≤ v ∧ v < 256)
    {a0 a1 a2 a3 a4 : Int} {f0 f1 f2 f3 f4 f5 : Bool} {r : ByteArray} (h : Ev (fun k => impl_CpuText.l0 k (acc ++ [(L ++ (⟨#[61]⟩ : ByteArray)) ++ dgs 2 v]) xs 4 ((i + 1 : Nat) : Int) a0 a1 a2 a3 a4 f0 f1 f2 f3 f4 f5) r) :
    Ev (fun k => impl_CpuText.l0 k acc xs 4 (i : Int) a0 a1 a2 a3 a4 f0 f1 f2 f3 f4 f5) r := by
  have ht := impl_d (n := 2) (Or.inl rfl) (v := v) (by omega)
  refine Ev.step (f := fun k => (impl_HexText.f k (wrap64 v) 2).bind fun t => if (L ++ (⟨#[61]⟩ : ByteArray)).size + t.size ≤ 9223372036854775807 then (if acc.length < 8796093022208 then impl_CpuText.l0 k (acc ++ [(L ++ (⟨#[61]⟩ : ByteArray)) ++ t]) xs 4 ((i + 1 : Nat) : Int) a0 a1 a2 a3 a4 f0 f1 f2 f3 f4 f5 else none) else none) (fun k => ?_) ?_
  · simp only [impl_CpuText.l0]
    rw [if_pos (show (i : Int) < 4 by omega), if_pos (show 0 ≤ (i : Int) by omega), hx, if_pos (show (i : Int) < ((4 : Nat) : Int) by omega), w1 (by omega), if_pos (show (i : Int) ≤ ((i + 1 : Nat) : Int) by omega), if_pos (show ((i + 1 : Nat) : Int) ≤ 4 by omega), Int.toNat_natCast, Int.toNat_natCast, hL, hLs, if_pos (by decide), hv]
  · refine Ev.bind ht ?_
    refine Ev.congr (fun k => (if_pos ?_).trans (if_pos (by omega))) h
    rw [ByteArray.size_append, hLs, dgs_size (Or.inl rfl)]
    decide
theorem impl_cpu {a0 a1 a2 a3 a4 : Int} (h0 : 0 ≤ a0 ∧ a0 < 256) (h1 : 0 ≤ a1 ∧ a1 < 256) (h2 : 0 ≤ a2 ∧ a2 < 256) (h3 : 0 ≤ a3 ∧ a3 < 256) (h4 : 0 ≤ a4 ∧ a4 < 65536) (f0 f1 f2 f3 f4 f5 : Bool) :
    Ev (fun k => impl_CpuText.f k a0 a1 a2 a3 a4 f0 f1 f2 f3 f4 f5) (CT a0 a1 a2 a3 a4 f0 f1 f2 f3 f4 f5) := by
  unfold impl_CpuText.f
  simp only [Option.bind_some]
  have e4 := impl_d (n := 4) (Or.inr rfl) (v := a4) (by omega)
  have fin : Ev (fun k => impl_CpuText.l0 k [((⟨#[65]⟩ : ByteArray) ++ (⟨#[61]⟩ : ByteArray)) ++ dgs 2 a0, ((⟨#[88]⟩ : ByteArray) ++ (⟨#[61]⟩ : ByteArray)) ++ dgs 2 a1, ((⟨#[89]⟩ : ByteArray) ++ (⟨#[61]⟩ : ByteArray)) ++ dgs 2 a2, ((⟨#[83]⟩ : ByteArray) ++ (⟨#[61]⟩ : ByteArray)) ++ dgs 2 a3] [a0, a1, a2, a3] 4 ((3 + 1 : Nat) : Int) a0 a1 a2 a3 a4 f0 f1 f2 f3 f4 f5) (CT a0 a1 a2 a3 a4 f0 f1 f2 f3 f4 f5) := by
    refine Ev.step (f := fun k => (impl_HexText.f k (wrap64 a4) 4).bind fun t168 => if 3 + t168.size ≤ 9223372036854775807 then (impl_flagsText.f f0 f1 f2 f3 f4 f5).bind fun t169 => (strings_Join.f ([((⟨#[65]⟩ : ByteArray) ++ (⟨#[61]⟩ : ByteArray)) ++ dgs 2 a0, ((⟨#[88]⟩ : ByteArray) ++ (⟨#[61]⟩ : ByteArray)) ++ dgs 2 a1, ((⟨#[89]⟩ : ByteArray) ++ (⟨#[61]⟩ : ByteArray)) ++ dgs 2 a2, ((⟨#[83]⟩ : ByteArray) ++ (⟨#[61]⟩ : ByteArray)) ++ dgs 2 a3] ++ [(⟨#[80, 67, 61]⟩ : ByteArray) ++ t168, t169]) (⟨#[32]⟩ : ByteArray)).bind fun t176 => some t176 else none) (fun k => ?_) ?_
    · simp only [impl_CpuText.l0]
      rw [if_neg (show ¬ ((3 + 1 : Nat) : Int) < 4 by decide)]
      rfl
    · refine Ev.bind e4 ?_
      rw [dgs_size (Or.inr rfl)]
      refine Ev.congr (fun k => if_pos (by decide)) ?_
      simp only [impl_flags, Option.bind_some]
      obtain ⟨p0, p1, q0⟩ := two_bytes _ (dgs_size (Or.inl rfl) a0)
      obtain ⟨p2, p3, q1⟩ := two_bytes _ (dgs_size (Or.inl rfl) a1)
      obtain ⟨p4, p5, q2⟩ := two_bytes _ (dgs_size (Or.inl rfl) a2)
      obtain ⟨p6, p7, q3⟩ := two_bytes _ (dgs_size (Or.inl rfl) a3)
      obtain ⟨p8, p9, pa, pb, q4⟩ := four_bytes _ (dgs_size (Or.inr rfl) a4)
      unfold CT impl_KnowText.head
      rw [q0, q1, q2, q3, q4]
      unfold FT
      generalize fb f0 78 = c0
      generalize fb f1 86 = c1
      generalize fb f2 68 = c2
      generalize fb f3 73 = c3
      generalize fb f4 90 = c4
      generalize fb f5 67 = c5
      have e : strings_Join.f ([((⟨#[65]⟩ : ByteArray) ++ (⟨#[61]⟩ : ByteArray)) ++ ⟨#[p0, p1]⟩, ((⟨#[88]⟩ : ByteArray) ++ (⟨#[61]⟩ : ByteArray)) ++ ⟨#[p2, p3]⟩, ((⟨#[89]⟩ : ByteArray) ++ (⟨#[61]⟩ : ByteArray)) ++ ⟨#[p4, p5]⟩, ((⟨#[83]⟩ : ByteArray) ++ (⟨#[61]⟩ : ByteArray)) ++ ⟨#[p6, p7]⟩] ++ [(⟨#[80, 67, 61]⟩ : ByteArray) ++ ⟨#[p8, p9, pa, pb]⟩, ⟨#[c0, c1, c2, c3, c4, c5]⟩]) (⟨#[32]⟩ : ByteArray)
          = some (((((((((((⟨#[65, 61]⟩ : ByteArray) ++ ⟨#[p0, p1]⟩) ++ (⟨#[32, 88, 61]⟩ : ByteArray)) ++ ⟨#[p2, p3]⟩) ++ (⟨#[32, 89, 61]⟩ : ByteArray)) ++ ⟨#[p4, p5]⟩) ++ (⟨#[32, 83, 61]⟩ : ByteArray)) ++ ⟨#[p6, p7]⟩) ++ (⟨#[32, 80, 67, 61]⟩ : ByteArray)) ++ ⟨#[p8, p9, pa, pb]⟩) ++ (⟨#[32]⟩ : ByteArray) ++ ⟨#[c0, c1, c2, c3, c4, c5]⟩) := by
        unfold strings_Join.f Giv.joinG
        have j : Lib.join (([((⟨#[65]⟩ : ByteArray) ++ (⟨#[61]⟩ : ByteArray)) ++ ⟨#[p0, p1]⟩, ((⟨#[88]⟩ : ByteArray) ++ (⟨#[61]⟩ : ByteArray)) ++ ⟨#[p2, p3]⟩, ((⟨#[89]⟩ : ByteArray) ++ (⟨#[61]⟩ : ByteArray)) ++ ⟨#[p4, p5]⟩, ((⟨#[83]⟩ : ByteArray) ++ (⟨#[61]⟩ : ByteArray)) ++ ⟨#[p6, p7]⟩] ++ [(⟨#[80, 67, 61]⟩ : ByteArray) ++ ⟨#[p8, p9, pa, pb]⟩, ⟨#[c0, c1, c2, c3, c4, c5]⟩]).map (·.data.toList)) (⟨#[32]⟩ : ByteArray).data.toList
            = [65, 61, p0, p1, 32, 88, 61, p2, p3, 32, 89, 61, p4, p5, 32, 83, 61, p6, p7, 32, 80, 67, 61, p8, p9, pa, pb, 32, c0, c1, c2, c3, c4, c5] := by
          simp [Lib.join, List.intercalate, List.intersperse]
        rw [j]
        rw [if_pos (by simp)]
        refine congrArg some (ByteArray.ext ?_)
        simp
      rw [e]
      exact Ev.now _
  exact impl_word [] (by decide) [a0, a1, a2, a3] rfl 0 (by decide) (L := ⟨#[65]⟩) rfl rfl rfl h0 (impl_word _ (by show 1 ≤ 100; omega) [a0, a1, a2, a3] rfl 1 (by decide) (L := ⟨#[88]⟩) rfl rfl rfl h1 (impl_word _ (by show 2 ≤ 100; omega) [a0, a1, a2, a3] rfl 2 (by decide) (L := ⟨#[89]⟩) rfl rfl rfl h2 (impl_word _ (by show 3 ≤ 100; omega) [a0, a1, a2, a3] rfl 3 (by decide) (L := ⟨#[83]⟩) rfl rfl rfl h3 fin)))
end Go.Proofs.Ytidencofapcliaa.MCC
