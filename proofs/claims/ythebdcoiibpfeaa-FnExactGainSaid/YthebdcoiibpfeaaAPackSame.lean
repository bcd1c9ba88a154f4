/-
PackTrace: the program's bytes of cycles are the reference's.
-/
import Derived.Test.YthebdcoiibpfeaaMAx0
import Derived.Test.YthebdcoiibpfeaaMAx2
import Derived.Test.YthebdcoiibpfeaaMAx3
import Derived.Test.YthebdcoiibpfeaaASqueezeSame
set_option linter.unusedSimpArgs false
set_option linter.unusedVariables false
namespace Go.Proofs.Ythebdcoiibpfeaa.MAH
open Go.RowKit Go.Proofs.Ythebdcoiibpfeaa.MA Go.Proofs.YthebdcoiibpfeaaW.PrintWords Go.Proofs.YthebdcoiibpfeaaW.PrintLast Go.Proofs.Ythebdcoiibpfeaa.Bit Go.Proofs.Ythebdcoiibpfeaa.Lst

def pk (c : Cy) : List Int := [c.f0 % 256, c.f0 / 256, c.f1, wb c.f2]
def pkTo (l : List Cy) : Nat → List Int
  | 0 => []
  | i + 1 => pkTo l i ++ pk (rd_T57 l i)
theorem pkTo_len (l : List Cy) : ∀ i, (pkTo l i).length = 4 * i
  | 0 => rfl
  | i + 1 => by
    have h1 := pkTo_len l i
    simp only [pkTo, List.length_append, pk, List.length_cons, List.length_nil]
    omega
theorem spec_pack_ev (l : List Cy) (hl : l.length ≤ 1200) (hg : ∀ x ∈ l, CyOk x) : Ev (fun k => spec_PackTrace.f k l) (pkTo l l.length) := by
  have h := ev_for (r := pkTo l l.length) l.length (fun k i => spec_PackTrace.l0 k l (pkTo l i) i)
    (fun k => by simp only [spec_PackTrace.l0]; rw [if_neg (by omega)])
    (fun i hi k => by
      have hlen := pkTo_len l i
      obtain ⟨⟨c1, c2⟩, c3, c4⟩ := rd_ok hg hi
      simp only [spec_PackTrace.l0]
      rw [if_pos (by omega), if_pos (by omega), w1 (by omega)]
      have e1 : Go.bits .and .u16 (rd_T57 l i).f0 255 % 256 = (rd_T57 l i).f0 % 256 := by rw [u16_and255 c1 c2]; omega
      have e2 : IntKind.u16.wrap (Int.tdiv (rd_T57 l i).f0 256) % 256 = (rd_T57 l i).f0 / 256 := by rw [tdiv256 c1, u16_wrap]; omega
      rw [e1, e2]
      have e3 : ∀ b : Int, (pkTo l i).length + ([(rd_T57 l i).f0 % 256, (rd_T57 l i).f0 / 256, (rd_T57 l i).f1, b] : List Int).length < 140737488355328 := fun b => by simp only [List.length_cons, List.length_nil]; omega
      simp only [pkTo, pk, wb]
      cases hw : (rd_T57 l i).f2
      · simp only [Bool.false_eq_true, if_false, Option.bind_some]
        rw [if_pos (e3 0)]
      · simp only [if_true, Option.bind_some]
        rw [if_pos (e3 1)])
  refine Ev.congr (fun k => ?_) h
  unfold spec_PackTrace.f
  simp only [Option.bind_some]
  rw [if_neg (by omega)]
  rfl
theorem impl_bit_zero (b : Bool) : impl_bit.f b 0 = some (wb b) := by
  unfold impl_bit.f wb
  cases b
  · rfl
  · simp only [if_true]
    rw [if_pos (by omega)]
    congr 1
theorem impl_pack_ev (l : List Cy) (hl : l.length ≤ 1200) (hg : ∀ x ∈ l, CyOk x) : Ev (fun k => impl_PackTrace.f k l) (pkTo l l.length) := by
  have h := ev_for (r := pkTo l l.length) l.length (fun k i => impl_PackTrace.l0 k (pkTo l i) l l.length i)
    (fun k => by simp only [impl_PackTrace.l0]; rw [if_neg (by omega)])
    (fun i hi k => by
      have hlen := pkTo_len l i
      obtain ⟨⟨c1, c2⟩, c3, c4⟩ := rd_ok hg hi
      simp only [impl_PackTrace.l0, impl_bit_zero, Option.bind_some]
      rw [if_pos (by omega), if_pos (by omega), if_pos (by omega), w1 (by omega)]
      have e2 : (rd_T57 l i).f0 / 256 % 256 = (rd_T57 l i).f0 / 256 := by omega
      rw [e2, if_pos (by simp only [List.length_cons, List.length_nil]; omega)]
      rfl)
  refine Ev.congr (fun k => ?_) h
  unfold impl_PackTrace.f
  rw [if_neg (by omega)]
  rfl
theorem pack_same (l : List Cy) (hg : ∀ x ∈ l, CyOk x) : ∃ r, Ev (fun k => spec_PackTrace.f k l) r ∧ Ev (fun k => impl_PackTrace.f k l) r := by
  by_cases h : l.length ≤ 1200
  · exact ⟨_, spec_pack_ev l h hg, impl_pack_ev l h hg⟩
  · refine ⟨[], Ev.congr (fun k => ?_) (Ev.now _), Ev.congr (fun k => ?_) (Ev.now _)⟩
    · unfold spec_PackTrace.f
      simp only [Option.bind_some]
      rw [if_pos (by omega)]
    · unfold impl_PackTrace.f
      rw [if_pos (by omega)]
end Go.Proofs.Ythebdcoiibpfeaa.MAH
