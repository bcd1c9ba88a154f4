/-
FnHits behind its draw: each hit is a cycle that is asked for, and all are told; there are touched addresses just where there are hits at all.
-/
import Derived.Test.YtnoelppkcbelcaaMHx0
import Derived.Test.YtnoelppkcbelcaaMHx1
import Derived.Test.YtnoelppkcbelcaaMHx2
import Derived.Test.YtnoelppkcbelcaaMHx3
import Derived.Test.YtnoelppkcbelcaaHHitsIn
import Derived.Test.YtnoelppkcbelcaaHTouchIn
set_option linter.unusedSimpArgs false
set_option linter.unusedVariables false
namespace Go.Proofs.Ytnoelppkcbelcaa.Pure
open Go.Proofs.Ytnoelppkcbelcaa Go.RowKit Go.Proofs.Ytnoelppkcbelcaa.MH Go.Proofs.Ytnoelppkcbelcaa.MHH Go.Proofs.YtnoelppkcbelcaaW.PrintWords Go.Proofs.YtnoelppkcbelcaaW.PrintLast Go.Proofs.Ytnoelppkcbelcaa.Bit Go.Proofs.Ytnoelppkcbelcaa.Lst
theorem asc_some (l : List Cyc') (w : Bool) (hr : ∀ x ∈ l, InR x) : (AscF.asc (sel l w)).length > 0 ↔ ∃ x ∈ l, (x.f2 == w) = true := by
  constructor
  · intro h
    obtain ⟨x, hx⟩ := List.exists_mem_of_length_pos h
    obtain ⟨_, hx2⟩ := (AscF.mem_asc _ _).1 hx
    obtain ⟨y, hy, _⟩ := List.mem_map.1 hx2
    exact ⟨y, (List.mem_filter.1 hy).1, (List.mem_filter.1 hy).2⟩
  · rintro ⟨x, hx, hw⟩
    refine List.length_pos_of_mem (a := x.f0) ((AscF.mem_asc _ _).2 ⟨(hr x hx).1, List.mem_map.2 ⟨x, List.mem_filter.2 ⟨hx, hw⟩, rfl⟩⟩)
theorem hits_some (l : List Cyc') (w : Bool) (hr : ∀ x ∈ l, InR x) : (hitsTo l 0 65535 w l.length).length > 0 ↔ ∃ x ∈ l, (x.f2 == w) = true := by
  have at_ : ∀ i, i < l.length → rd_T32 l i = l.getD i z32 := fun i hi => by unfold rd_T32; rw [Int.toNat_natCast]
  unfold hitsTo
  rw [List.length_map]
  constructor
  · intro h
    obtain ⟨i, hi⟩ := List.exists_mem_of_length_pos h
    obtain ⟨h1, h2⟩ := List.mem_filter.1 hi
    have h3 := List.mem_range.1 h1
    unfold hitB at h2
    simp only [Bool.and_eq_true] at h2
    rw [at_ i h3, List.getD_eq_getElem?_getD, List.getElem?_eq_getElem h3] at h2
    exact ⟨_, List.getElem_mem h3, h2.1.1⟩
  · rintro ⟨x, hx, hw⟩
    obtain ⟨i, hi, rfl⟩ := List.mem_iff_getElem.1 hx
    refine List.length_pos_of_mem (a := i) (List.mem_filter.2 ⟨List.mem_range.2 hi, ?_⟩)
    obtain ⟨⟨h0, h1⟩, _⟩ := hr _ hx
    unfold hitB
    rw [at_ i hi, List.getD_eq_getElem?_getD, List.getElem?_eq_getElem hi]
    simp only [Option.getD_some, Bool.and_eq_true, decide_eq_true_eq]
    exact ⟨⟨hw, h0⟩, by omega⟩
theorem FnHits (l : List S32) (a1 a2 : Int) (a3 : Bool) (hl : l.length ≤ 160) (hg : ∀ x ∈ l, (Lit.int .u16 x.f0).wf = true ∧ (Lit.int .u8 x.f1).wf = true) : ∃ k, laws_FnHits.f k l a1 a2 a3 = some true := by
  refine Ev.rounds (g := fun k => laws_FnHits.f k l a1 a2 a3) ?_
  have hr := inR_of hg
  have h1 := impl_hits_ev l a1 a2 a3 (by omega)
  have h2 := impl_hits_ev l 0 65535 a3 (by omega)
  have h3 := impl_touched_ev l a3 (by omega) hr
  have hlen := hitsTo_len l a1 a2 a3 l.length
  simp only [laws_FnHits.f]
  refine Ev.bind h1 ?_
  refine ev_up (r := true) l.length (fun k i => laws_FnHits.l0 k l a1 a2 a3 (hitsTo l a1 a2 a3 l.length) ((hitsTo l a1 a2 a3 i).length : Nat) i) ?_ (fun i hi h => ?_) l.length 0 (by omega)
  · refine Ev.step (f := fun k => (impl_Touched.f k l a3).bind fun t => (if (((hitsTo l a1 a2 a3 l.length).length : Nat) : Int) = ((hitsTo l a1 a2 a3 l.length).length : Int) then ((impl_Hits.f k l 0 65535 a3).bind fun u => (some ((decide ((t.length : Int) > 0)) == (decide ((u.length : Int) > 0))))) else (some false))) (fun k => ?_) (Ev.bind h3 ?_)
    · rw [laws_FnHits.l0, if_neg (by omega)]
    · have e1 := asc_some l a3 hr
      have e2 := hits_some l a3 hr
      generalize (AscF.asc (sel l a3)).length = p at e1 ⊢
      simp only [if_true]
      refine Ev.bind h2 ?_
      generalize (hitsTo l 0 65535 a3 l.length).length = q at e2 ⊢
      have e3 : (decide ((p : Int) > 0) == decide ((q : Int) > 0)) = true := by
        rw [beq_iff_eq, decide_eq_decide]
        constructor
        · intro h
          have := e2.2 (e1.1 (by omega))
          omega
        · intro h
          have := e1.2 (e2.1 (by omega))
          omega
      rw [e3]
      exact Ev.now true
  · by_cases c : hitB l a1 a2 a3 i = true
    · obtain ⟨g1, g2⟩ := hits_at l a1 a2 a3 hi c
      have g3 := hitsTo_len l a1 a2 a3 i
      have e : (hitsTo l a1 a2 a3 (i + 1)).length = (hitsTo l a1 a2 a3 i).length + 1 := by
        rw [hitsTo_succ, if_pos c]
        simp
      simp only [e] at h
      unfold hitB at c
      simp only [Bool.and_eq_true, decide_eq_true_eq] at c
      refine Ev.step (f := fun k => laws_FnHits.j1 k l a1 a2 a3 (hitsTo l a1 a2 a3 l.length) ((hitsTo l a1 a2 a3 i).length : Nat) i true) (fun k => ?_) (Ev.step (f := fun k => laws_FnHits.l0 k l a1 a2 a3 (hitsTo l a1 a2 a3 l.length) (((hitsTo l a1 a2 a3 i).length + 1 : Nat) : Int) ((i + 1 : Nat) : Int)) (fun k => ?_) h)
      · simp only [laws_FnHits.l0]
        rw [if_pos (by omega), if_pos (by omega), if_pos c.1.1, if_pos c.1.2, decide_eq_true c.2]
      · simp only [laws_FnHits.j1, if_true]
        rw [if_neg (by omega), if_pos (by omega), if_pos (by omega), if_pos g2, w1 (by omega), w1 (by omega)]
    · have e : (hitsTo l a1 a2 a3 (i + 1)).length = (hitsTo l a1 a2 a3 i).length := by rw [hitsTo_succ, if_neg c]
      simp only [e] at h
      refine Ev.step (f := fun k => laws_FnHits.j1 k l a1 a2 a3 (hitsTo l a1 a2 a3 l.length) ((hitsTo l a1 a2 a3 i).length : Nat) i false) (fun k => ?_) (Ev.step (f := fun k => laws_FnHits.l0 k l a1 a2 a3 (hitsTo l a1 a2 a3 l.length) (((hitsTo l a1 a2 a3 i).length : Nat) : Int) ((i + 1 : Nat) : Int)) (fun k => ?_) h)
      · simp only [laws_FnHits.l0]
        rw [if_pos (by omega), if_pos (by omega)]
        unfold hitB at c
        simp only [Bool.and_eq_true, decide_eq_true_eq] at c
        by_cases c1 : ((rd_T32 l i).f2 == a3) = true
        · by_cases c2 : (rd_T32 l i).f0 ≥ a1
          · rw [if_pos c1, if_pos c2, decide_eq_false (fun c3 => c ⟨⟨c1, c2⟩, c3⟩)]
          · rw [if_pos c1, if_neg c2]
        · rw [if_neg c1]
      · simp only [laws_FnHits.j1, Bool.false_eq_true, if_false]
        rw [w1 (by omega)]
end Go.Proofs.Ytnoelppkcbelcaa.Pure
