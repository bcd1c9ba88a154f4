/-
Depths: the program's depths are the reference's, for every list of cycles and every starts.
-/
import Derived.Test.YtmafikdeiogpgaaDoorMDx0
import Derived.Test.YtmafikdeiogpgaaDoorMDx3
import Derived.Test.YtmafikdeiogpgaaDoorMDx6
import Derived.Test.YtmafikdeiogpgaaDoorMDx8
import Derived.Test.YtmafikdeiogpgaaDoorDHarnCyc
import Derived.Test.YtmafikdeiogpgaaDoorDHarnCycMark
import Derived.Test.YtmafikdeiogpgaaDoorDHarnInt
import Derived.Test.YtmafikdeiogpgaaDoorDHarnToInt
import Derived.Test.YtmafikdeiogpgaaDoorDDepthSpec
set_option linter.unusedSimpArgs false
set_option linter.unusedVariables false
namespace Go.Proofs.YtmafikdeiogpgaaDoor.Pure
open Go.RowKit Go.Proofs.YtmafikdeiogpgaaDoor.MD Go.Proofs.YtmafikdeiogpgaaDoor.MDH Go.Proofs.YtmafikdeiogpgaaDoor.MDO Go.Proofs.YtmafikdeiogpgaaDoor.MDS Go.Proofs.YtmafikdeiogpgaaDoorW.PrintWords Go.Proofs.YtmafikdeiogpgaaDoorW.PrintLast Go.Proofs.YtmafikdeiogpgaaDoor.Bit Go.Proofs.YtmafikdeiogpgaaDoor.Lst

def depths (l : List S41) (s : List Int) : List Int := if riseB l s s.length 0 = true then depL l s s.length 0 0 else []
theorem depths_len (l : List S41) (s : List Int) : (depths l s).length ≤ s.length := by
  unfold depths
  by_cases c : riseB l s s.length 0 = true
  · rw [if_pos c, depL_length]; exact Nat.le_refl _
  · rw [if_neg c]; exact Nat.zero_le _
theorem spec_f_ev (l : List S41) (s : List Int) (hl : l.length ≤ 1048576) (hs : s.length ≤ 1048576) (hb : Bytes l) : Ev (fun k => spec_Depths.f k l s) (depths l s) := by
  unfold spec_Depths.f
  simp only [Option.bind_some]
  refine Ev.bind (spec_rise l s hl hs s.length 0 (by omega)) ?_
  unfold depths
  by_cases c : riseB l s s.length 0 = true
  · have h := spec_dep l s hl hs hb (fun j hj => rise_in l s s.length 0 c j (by omega) (by omega)) s.length 0 0 [] (by omega) rfl (by omega) (by omega)
    rw [List.nil_append] at h
    simp only [c, if_true]
    exact h
  · simp only [c, if_false]
    exact Ev.now _
theorem impl_f_ev (l : List S41) (s : List Int) (hl : l.length ≤ 1048576) (hs : s.length ≤ 1048576) (hb : Bytes l) : Ev (fun k => impl_Depths.f k l s) (depths l s) := by
  unfold impl_Depths.f
  refine Ev.bind (impl_rise l s hl hs s.length 0 (by omega)) ?_
  unfold depths
  by_cases c : riseB l s s.length 0 = true
  · have h := impl_dep l s hl hs hb (fun j hj => rise_in l s s.length 0 c j (by omega) (by omega)) s.length 0 0 [] (by omega) rfl (by omega) (by omega)
    rw [List.nil_append] at h
    simp only [c, if_true]
    exact h
  · simp only [c, if_false]
    exact Ev.now _
theorem bytes_of (l : List S43) (hw : ∀ x ∈ l, Good43 x) : Bytes (l.map cycOf) := by
  intro i hi
  have hi' : i < l.length := by simpa using hi
  have hm : rd_T43 l (i : Int) ∈ l := by
    unfold rd_T43
    rw [Int.toNat_natCast, List.getD_eq_getElem?_getD, List.getElem?_eq_getElem hi']
    exact List.getElem_mem hi'
  obtain ⟨a, b⟩ := Bit.wf_u8 (hw _ hm).2
  refine ⟨(rd_T43 l (i : Int)).f1.toNat, by omega, ?_⟩
  rw [rd_cyc_of l i hi', cycOf_f1]
  omega

theorem FnExactDepths : laws_FnExactDepths.Pure := by
  intro l s hm hl hw hsm hsl hsw
  refine Ev.rounds (g := fun k => laws_FnExactDepths.f k l s) ?_
  by_cases hs1 : s.length ≤ 1048576
  · have hn : ¬ (s.length : Int) > 1048576 := by omega
    simp only [laws_FnExactDepths.f, if_neg hn]
    by_cases hs : l.length ≤ 1048576
    · have hsz := szCycS_yes l 1048576 hs (by omega)
      have hc := toCycS_ev l hl
      have hi := toIntS_ev s hsl
      have hml : (l.map cycOf).length = l.length := by simp
      have hb := bytes_of l hw
      have h1 := spec_f_ev (l.map cycOf) s (by omega) hs1 hb
      have h2 := impl_f_ev (l.map cycOf) s (by omega) hs1 hb
      have hlen := depths_len (l.map cycOf) s
      generalize depths (l.map cycOf) s = D at h1 h2 hlen
      have h3 := eqIntS_ev D (by omega)
      have h4 := eqCycS_ev (l.map cycOf) (by omega)
      have h4s := eqIntS_ev s (by omega)
      have h5 := markCycS_ev (l.map cycOf) 1 (by omega) (by omega)
      have h5s := markIntS_ev s (1 + 3 * (l.map cycOf).length) (by omega) (by omega)
      have h6 := markIntS_ev D 1 (by omega) (by omega)
      have h7 := heldIntS_ev D.length 1 (by omega) (by omega)
      simp only [show ((1048576 : Int)) = ((1048576 : Nat) : Int) from rfl, hsz, Option.bind_some]
      simp only [if_neg (show ¬ ((1048576 - l.length : Nat) : Int) < 0 by omega)]
      refine Ev.bind hc (Ev.bind hi (Ev.bind h1 (Ev.bind hc (Ev.bind hi (Ev.bind h2 (Ev.bind h3 ?_))))))
      simp only [if_true]
      refine Ev.bind hc (Ev.bind h4 ?_)
      simp only [if_true]
      refine Ev.bind hi (Ev.bind h4s ?_)
      simp only [if_true]
      refine Ev.bind h5 (Ev.bind h5s ?_)
      simp only [if_neg (show ¬ ((1 + 3 * (l.map cycOf).length + s.length : Nat) : Int) < 0 by omega)]
      refine Ev.bind h3 ?_
      refine Ev.step (fun k => by simp only [laws_FnExactDepths.j0, Bool.not_true, Bool.false_eq_true, if_false]; rfl) ?_
      refine Ev.bind h6 (Ev.bind h7 ?_)
      simp only [if_neg (show ¬ ((1 + D.length : Nat) : Int) < 0 by omega), if_true]
      refine Ev.bind hc (Ev.bind hi (Ev.bind h2 (Ev.bind h3 ?_)))
      simp only [if_true]
      refine Ev.bind h7 ?_
      simp only [if_neg (show ¬ ((1 + D.length : Nat) : Int) < 0 by omega), if_true]
      exact Ev.now true
    · have hsz := szCycS_no l 1048576 (by omega) (by omega) hl
      simp only [show ((1048576 : Int)) = ((1048576 : Nat) : Int) from rfl, hsz, Option.bind_some]
      exact Ev.now true
  · have hy : (s.length : Int) > 1048576 := by omega
    simp only [laws_FnExactDepths.f, if_pos hy]
    exact Ev.now true
end Go.Proofs.YtmafikdeiogpgaaDoor.Pure
