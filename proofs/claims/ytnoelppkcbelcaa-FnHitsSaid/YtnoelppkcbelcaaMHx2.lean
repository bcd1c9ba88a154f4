-- Written by this session's own program (wip/myprint.py) over the kit's print of the translation. Lean checks it.
import Derived.Test.YtnoelppkcbelcaaMHx0
import Derived.Test.YtnoelppkcbelcaaMHx1
import Derived.Test.YtnoelppkcbelcaaMHx3
namespace Go.Proofs.Ytnoelppkcbelcaa.MH
open Go.RowKit Go.Proofs.YtnoelppkcbelcaaW.PrintWords Go.Proofs.YtnoelppkcbelcaaW.PrintLast Go.Proofs.YtnoelppkcbelcaaW.PrintMore
attribute [local go_sem] max2_int min2_int max_two min_two max_three min_three max_four min_four   -- for this text's walks alone
set_option linter.unusedVariables false
set_option linter.unusedSimpArgs false

/-! ### laws_FnHits: function 7 -/
mutual
def laws_FnHits.l0 : Nat → List (S32) → Int → Int → Bool → List Int → Int → Int → Option (Bool)
 | 0, _, _, _, _, _, _, _ => none
 | k + 1, x3, x4, x5, x6, x7, x8, x9 => if x9 < (x3.length : Int) then (if 0 ≤ x9 then (if (((rd_T32 x3 x9).f2) == x6) = true then (if ((rd_T32 x3 x9).f0) ≥ x4 then (laws_FnHits.j1 k x3 x4 x5 x6 x7 x8 x9 (decide (((rd_T32 x3 x9).f0) ≤ x5))) else (laws_FnHits.j1 k x3 x4 x5 x6 x7 x8 x9 false)) else (laws_FnHits.j1 k x3 x4 x5 x6 x7 x8 x9 false)) else (none)) else ((impl_Touched.f k x3 x6).bind fun t144 => (if x8 = (x7.length : Int) then ((impl_Hits.f k x3 0 65535 x6).bind fun t147 => (some ((decide ((t144.length : Int) > 0)) == (decide ((t147.length : Int) > 0))))) else (some false)))
def laws_FnHits.j1 : Nat → List (S32) → Int → Int → Bool → List Int → Int → Int → Bool → Option (Bool)
 | 0, _, _, _, _, _, _, _, _ => none
 | k + 1, x3, x4, x5, x6, x7, x8, x9, x55 => if x55 = true then (if x8 ≥ (x7.length : Int) then (some false) else (if 0 ≤ x8 then (if x8 < (x7.length : Int) then (if (rd x7 x8) = x9 then (laws_FnHits.l0 k x3 x4 x5 x6 x7 (wrap64 (x8 + 1)) (wrap64 (x9 + 1))) else (some false)) else (none)) else (none))) else (laws_FnHits.l0 k x3 x4 x5 x6 x7 x8 (wrap64 (x9 + 1)))
end
def laws_FnHits.f (k : Nat) (l0 : List (S32)) (a1 : Int) (a2 : Int) (a3 : Bool) : Option (Bool) := (impl_Hits.f k l0 a1 a2 a3).bind fun t141 => (laws_FnHits.l0 k l0 a1 a2 a3 t141 0 0)
theorem laws_FnHits.mono_l : ∀ k, (∀ y0 y1 y2 y3 y4 y5 y6, LeO (laws_FnHits.l0 k y0 y1 y2 y3 y4 y5 y6) (laws_FnHits.l0 (k + 1) y0 y1 y2 y3 y4 y5 y6)) ∧ (∀ y0 y1 y2 y3 y4 y5 y6 y7, LeO (laws_FnHits.j1 k y0 y1 y2 y3 y4 y5 y6 y7) (laws_FnHits.j1 (k + 1) y0 y1 y2 y3 y4 y5 y6 y7))
 | 0 => ⟨fun _ _ _ _ _ _ _ r h => by simp [laws_FnHits.l0] at h, fun _ _ _ _ _ _ _ _ r h => by simp [laws_FnHits.j1] at h⟩
 | k + 1 => by
  obtain ⟨ih0, ih1⟩ := laws_FnHits.mono_l k
  refine ⟨?_, ?_⟩
  ·intro y0 y1 y2 y3 y4 y5 y6
   unfold laws_FnHits.l0
   repeat' first
   | (with_reducible exact ih0 _ _ _ _ _ _ _)
   | (with_reducible exact ih1 _ _ _ _ _ _ _ _)
   | (with_reducible exact impl_Hits.mono _ _ _ _ _)
   | (with_reducible exact impl_Touched.mono _ _ _)
   | (with_reducible exact LeO.refl _)
   | (with_reducible exact LeO.none _)
   | (with_reducible refine LeO.ite ?_ ?_)
   | (with_reducible refine LeO.bind ?_ (fun _ => ?_))
   | exact ih0 _ _ _ _ _ _ _
   | exact ih1 _ _ _ _ _ _ _ _
   | exact impl_Hits.mono _ _ _ _ _
   | exact impl_Touched.mono _ _ _
   | exact LeO.none _
   | refine LeO.ite ?_ ?_
   | refine LeO.bind ?_ (fun _ => ?_)
  ·intro y0 y1 y2 y3 y4 y5 y6 y7
   unfold laws_FnHits.j1
   repeat' first
   | (with_reducible exact ih0 _ _ _ _ _ _ _)
   | (with_reducible exact ih1 _ _ _ _ _ _ _ _)
   | (with_reducible exact impl_Hits.mono _ _ _ _ _)
   | (with_reducible exact impl_Touched.mono _ _ _)
   | (with_reducible exact LeO.refl _)
   | (with_reducible exact LeO.none _)
   | (with_reducible refine LeO.ite ?_ ?_)
   | (with_reducible refine LeO.bind ?_ (fun _ => ?_))
   | exact ih0 _ _ _ _ _ _ _
   | exact ih1 _ _ _ _ _ _ _ _
   | exact impl_Hits.mono _ _ _ _ _
   | exact impl_Touched.mono _ _ _
   | exact LeO.none _
   | refine LeO.ite ?_ ?_
   | refine LeO.bind ?_ (fun _ => ?_)
theorem laws_FnHits.mono : ∀ a0 a1 a2 a3 k, LeO (laws_FnHits.f k a0 a1 a2 a3) (laws_FnHits.f (k + 1) a0 a1 a2 a3) := by
 intro a0 a1 a2 a3 k
 obtain ⟨ih0, ih1⟩ := laws_FnHits.mono_l k
 unfold laws_FnHits.f
 repeat' first
   | (with_reducible exact ih0 _ _ _ _ _ _ _)
   | (with_reducible exact ih1 _ _ _ _ _ _ _ _)
   | (with_reducible exact impl_Hits.mono _ _ _ _ _)
   | (with_reducible exact impl_Touched.mono _ _ _)
   | (with_reducible exact LeO.refl _)
   | (with_reducible exact LeO.none _)
   | (with_reducible refine LeO.ite ?_ ?_)
   | (with_reducible refine LeO.bind ?_ (fun _ => ?_))
   | exact ih0 _ _ _ _ _ _ _
   | exact ih1 _ _ _ _ _ _ _ _
   | exact impl_Hits.mono _ _ _ _ _
   | exact impl_Touched.mono _ _ _
   | exact LeO.none _
   | refine LeO.ite ?_ ?_
   | refine LeO.bind ?_ (fun _ => ?_)
def Good32 (x : S32) : Prop := (Lit.int .u16 x.f0).wf = true ∧ (Lit.int .u8 x.f1).wf = true

/-- THE ONE PURE STATEMENT of laws_FnHits: yours. -/
def laws_FnHits.Pure : Prop := ∀ (l0 : List (S32)) (a1 : Int) (a2 : Int) (a3 : Bool), l0.length ≤ maxLen → l0.length * 4 ≤ 140737488351232 → (∀ x ∈ l0, Good32 x) → (Lit.int .u16 a1).wf = true → (Lit.int .u16 a2).wf = true → ∃ k, laws_FnHits.f k l0 a1 a2 a3 = some true

end Go.Proofs.Ytnoelppkcbelcaa.MH
