-- Written by this session's own program (wip/myprint.py) over the kit's print of the translation. Lean checks it.
import Derived.Test.YtnoelppkcbelcaaMFx0
import Derived.Test.YtnoelppkcbelcaaMFx3
import Derived.Test.YtnoelppkcbelcaaMFx4
import Derived.Test.YtnoelppkcbelcaaMFx5
namespace Go.Proofs.Ytnoelppkcbelcaa.MF
open Go.RowKit Go.Proofs.YtnoelppkcbelcaaW.PrintWords Go.Proofs.YtnoelppkcbelcaaW.PrintLast Go.Proofs.YtnoelppkcbelcaaW.PrintMore
attribute [local go_sem] max2_int min2_int max_two min_two max_three min_three max_four min_four   -- for this text's walks alone
set_option linter.unusedVariables false
set_option linter.unusedSimpArgs false

/-! ### laws_FnFire: function 5 -/
mutual
def laws_FnFire.j0 : Nat → List (S51) → List (S32) → List Int → Bool → Bool → Option (Bool)
 | 0, _, _, _, _, _ => none
 | k + 1, x3, x4, x5, x6, x50 => if x50 = true then (some false) else (laws_FnFire.l0 k x3 x4 x5 x6 0 0)
def laws_FnFire.l0 : Nat → List (S51) → List (S32) → List Int → Bool → Int → Int → Option (Bool)
 | 0, _, _, _, _, _, _ => none
 | k + 1, x3, x4, x5, x6, x10, x11 => if x11 < (x5.length : Int) then (laws_FnFire.l1 k x3 x4 x5 x6 x10 x11 x10) else (some (x6 == (decide ((x5.length : Int) > 0))))
def laws_FnFire.l1 : Nat → List (S51) → List (S32) → List Int → Bool → Int → Int → Int → Option (Bool)
 | 0, _, _, _, _, _, _, _ => none
 | k + 1, x3, x4, x5, x6, x10, x11, x12 => if 0 ≤ x11 then (if x11 < (x5.length : Int) then (if x12 < (rd x5 x11) then (if x11 < (x3.length : Int) then (if 0 ≤ x12 then (if x12 < (x4.length : Int) then ((impl_Takes.f ((rd_T51 x3 x11).f0) ((rd_T51 x3 x11).f1) ((rd_T51 x3 x11).f2) ((rd_T51 x3 x11).f3) ((rd_T51 x3 x11).f4) ((rd_T32 x4 x12).f0) ((rd_T32 x4 x12).f1) ((rd_T32 x4 x12).f2)).bind fun t210 => (if t210 = true then (some false) else (laws_FnFire.l1 k x3 x4 x5 x6 x10 x11 (wrap64 (x12 + 1))))) else (none)) else (none)) else (none)) else (if (rd x5 x11) < x10 then (some false) else (if x11 < (x3.length : Int) then (if 0 ≤ (rd x5 x11) then (if (rd x5 x11) < (x4.length : Int) then ((impl_Takes.f ((rd_T51 x3 x11).f0) ((rd_T51 x3 x11).f1) ((rd_T51 x3 x11).f2) ((rd_T51 x3 x11).f3) ((rd_T51 x3 x11).f4) ((rd_T32 x4 (rd x5 x11)).f0) ((rd_T32 x4 (rd x5 x11)).f1) ((rd_T32 x4 (rd x5 x11)).f2)).bind fun t215 => (if t215 = true then (laws_FnFire.l0 k x3 x4 x5 x6 (wrap64 ((rd x5 x11) + 1)) (wrap64 (x11 + 1))) else (some false))) else (none)) else (none)) else (none)))) else (none)) else (none)
end
def laws_FnFire.f (k : Nat) (l0 : List (S51)) (l1 : List (S32)) : Option (Bool) := (impl_Fire.f k l0 l1).bind fun bt197 => ((spec_Fire.f k l0 l1).bind fun bt201 => ((impl_Times.f k l0 l1).bind fun t205 => (if (bt197.2 != bt201.2) = true then (laws_FnFire.j0 k l0 l1 bt197.1 bt197.2 true) else ((spec_Times.f k l0 l1).bind fun t206 => (if t205 = t206 then (laws_FnFire.j0 k l0 l1 bt197.1 bt197.2 (bt197.2 != (decide (t205 > 0)))) else (laws_FnFire.j0 k l0 l1 bt197.1 bt197.2 true))))))
theorem laws_FnFire.mono_l : ∀ k, (∀ y0 y1 y2 y3 y4, LeO (laws_FnFire.j0 k y0 y1 y2 y3 y4) (laws_FnFire.j0 (k + 1) y0 y1 y2 y3 y4)) ∧ (∀ y0 y1 y2 y3 y4 y5, LeO (laws_FnFire.l0 k y0 y1 y2 y3 y4 y5) (laws_FnFire.l0 (k + 1) y0 y1 y2 y3 y4 y5)) ∧ (∀ y0 y1 y2 y3 y4 y5 y6, LeO (laws_FnFire.l1 k y0 y1 y2 y3 y4 y5 y6) (laws_FnFire.l1 (k + 1) y0 y1 y2 y3 y4 y5 y6))
 | 0 => ⟨fun _ _ _ _ _ r h => by simp [laws_FnFire.j0] at h, fun _ _ _ _ _ _ r h => by simp [laws_FnFire.l0] at h, fun _ _ _ _ _ _ _ r h => by simp [laws_FnFire.l1] at h⟩
 | k + 1 => by
  obtain ⟨ih0, ih1, ih2⟩ := laws_FnFire.mono_l k
  refine ⟨?_, ?_, ?_⟩
  ·intro y0 y1 y2 y3 y4
   unfold laws_FnFire.j0
   repeat' first
   | (with_reducible exact ih0 _ _ _ _ _)
   | (with_reducible exact ih1 _ _ _ _ _ _)
   | (with_reducible exact ih2 _ _ _ _ _ _ _)
   | (with_reducible exact impl_Fire.mono _ _ _)
   | (with_reducible exact impl_Times.mono _ _ _)
   | (with_reducible exact spec_Fire.mono _ _ _)
   | (with_reducible exact spec_Times.mono _ _ _)
   | (with_reducible exact LeO.refl _)
   | (with_reducible exact LeO.none _)
   | (with_reducible refine LeO.ite ?_ ?_)
   | (with_reducible refine LeO.bind ?_ (fun _ => ?_))
   | exact ih0 _ _ _ _ _
   | exact ih1 _ _ _ _ _ _
   | exact ih2 _ _ _ _ _ _ _
   | exact impl_Fire.mono _ _ _
   | exact impl_Times.mono _ _ _
   | exact spec_Fire.mono _ _ _
   | exact spec_Times.mono _ _ _
   | exact LeO.none _
   | refine LeO.ite ?_ ?_
   | refine LeO.bind ?_ (fun _ => ?_)
  ·intro y0 y1 y2 y3 y4 y5
   unfold laws_FnFire.l0
   repeat' first
   | (with_reducible exact ih0 _ _ _ _ _)
   | (with_reducible exact ih1 _ _ _ _ _ _)
   | (with_reducible exact ih2 _ _ _ _ _ _ _)
   | (with_reducible exact impl_Fire.mono _ _ _)
   | (with_reducible exact impl_Times.mono _ _ _)
   | (with_reducible exact spec_Fire.mono _ _ _)
   | (with_reducible exact spec_Times.mono _ _ _)
   | (with_reducible exact LeO.refl _)
   | (with_reducible exact LeO.none _)
   | (with_reducible refine LeO.ite ?_ ?_)
   | (with_reducible refine LeO.bind ?_ (fun _ => ?_))
   | exact ih0 _ _ _ _ _
   | exact ih1 _ _ _ _ _ _
   | exact ih2 _ _ _ _ _ _ _
   | exact impl_Fire.mono _ _ _
   | exact impl_Times.mono _ _ _
   | exact spec_Fire.mono _ _ _
   | exact spec_Times.mono _ _ _
   | exact LeO.none _
   | refine LeO.ite ?_ ?_
   | refine LeO.bind ?_ (fun _ => ?_)
  ·intro y0 y1 y2 y3 y4 y5 y6
   unfold laws_FnFire.l1
   repeat' first
   | (with_reducible exact ih0 _ _ _ _ _)
   | (with_reducible exact ih1 _ _ _ _ _ _)
   | (with_reducible exact ih2 _ _ _ _ _ _ _)
   | (with_reducible exact impl_Fire.mono _ _ _)
   | (with_reducible exact impl_Times.mono _ _ _)
   | (with_reducible exact spec_Fire.mono _ _ _)
   | (with_reducible exact spec_Times.mono _ _ _)
   | (with_reducible exact LeO.refl _)
   | (with_reducible exact LeO.none _)
   | (with_reducible refine LeO.ite ?_ ?_)
   | (with_reducible refine LeO.bind ?_ (fun _ => ?_))
   | exact ih0 _ _ _ _ _
   | exact ih1 _ _ _ _ _ _
   | exact ih2 _ _ _ _ _ _ _
   | exact impl_Fire.mono _ _ _
   | exact impl_Times.mono _ _ _
   | exact spec_Fire.mono _ _ _
   | exact spec_Times.mono _ _ _
   | exact LeO.none _
   | refine LeO.ite ?_ ?_
   | refine LeO.bind ?_ (fun _ => ?_)
theorem laws_FnFire.mono : ∀ a0 a1 k, LeO (laws_FnFire.f k a0 a1) (laws_FnFire.f (k + 1) a0 a1) := by
 intro a0 a1 k
 obtain ⟨ih0, ih1, ih2⟩ := laws_FnFire.mono_l k
 unfold laws_FnFire.f
 repeat' first
   | (with_reducible exact ih0 _ _ _ _ _)
   | (with_reducible exact ih1 _ _ _ _ _ _)
   | (with_reducible exact ih2 _ _ _ _ _ _ _)
   | (with_reducible exact impl_Fire.mono _ _ _)
   | (with_reducible exact impl_Times.mono _ _ _)
   | (with_reducible exact spec_Fire.mono _ _ _)
   | (with_reducible exact spec_Times.mono _ _ _)
   | (with_reducible exact LeO.refl _)
   | (with_reducible exact LeO.none _)
   | (with_reducible refine LeO.ite ?_ ?_)
   | (with_reducible refine LeO.bind ?_ (fun _ => ?_))
   | exact ih0 _ _ _ _ _
   | exact ih1 _ _ _ _ _ _
   | exact ih2 _ _ _ _ _ _ _
   | exact impl_Fire.mono _ _ _
   | exact impl_Times.mono _ _ _
   | exact spec_Fire.mono _ _ _
   | exact spec_Times.mono _ _ _
   | exact LeO.none _
   | refine LeO.ite ?_ ?_
   | refine LeO.bind ?_ (fun _ => ?_)
def laws_FnFire.T16 : Bool × List (List Nat × List Nat) := (true, [([], []), ([], []), ([0, 1], [0, 1]), ([2], [2]), ([], []), ([], []), ([4, 5], [4, 5]), ([6], [6]), ([3, 7], [3, 7])])
def laws_FnFire.B16 : List Nat := [0, 0, 3, 7, 0, 0, 48, 112, 255]
theorem laws_FnFire.tab16 : rtab .any (opsOf Try.f5 16) = laws_FnFire.T16 := by kernel_rfl
theorem laws_FnFire.bits16 : waitsOk laws_FnFire.T16.2 laws_FnFire.B16 = true := by kernel_rfl
def laws_FnFire.T18 : Bool × List (List Nat × List Nat) := (true, [([], []), ([], []), ([0, 1], [0, 1]), ([2], [2]), ([], []), ([3, 4], [3, 4]), ([5], [5]), ([6], [6]), ([6], [6]), ([7, 8, 6], [6, 7, 8]), ([9, 6], [6, 9]), ([6], [6]), ([6], [6]), ([6], [6]), ([12, 13, 6], [6, 12, 13]), ([14, 6], [6, 14]), ([11, 15, 6], [6, 11, 15]), ([16, 6], [6, 16]), ([10, 17, 6, 6], [6, 10, 17]), ([18, 6], [6, 18]), ([6, 19], [6, 19])])
def laws_FnFire.B18 : List Nat := [0, 0, 3, 7, 0, 31, 63, 127, 127, 511, 1023, 127, 127, 127, 12415, 28799, 63615, 129151, 262143, 524287, 1048575]
theorem laws_FnFire.tab18 : rtab .any (opsOf Try.f5 18) = laws_FnFire.T18 := by kernel_rfl
theorem laws_FnFire.bits18 : waitsOk laws_FnFire.T18.2 laws_FnFire.B18 = true := by kernel_rfl
def Good32 (x : S32) : Prop := (Lit.int .u16 x.f0).wf = true ∧ (Lit.int .u8 x.f1).wf = true
def Good51 (x : S51) : Prop := (Lit.int .u16 x.f0).wf = true ∧ (Lit.int .u16 x.f1).wf = true ∧ (Lit.int .u8 x.f2).wf = true ∧ (Lit.int .u8 x.f3).wf = true ∧ (Lit.int .i64 x.f4).wf = true

/-- THE ONE PURE STATEMENT of laws_FnFire: yours. -/
def laws_FnFire.Pure : Prop := ∀ (l0 : List (S51)) (l1 : List (S32)), l0.length ≤ maxLen → l0.length * 16 ≤ 140737488351232 → (∀ x ∈ l0, Good51 x) → l1.length ≤ maxLen → l1.length * 4 ≤ 140737488351232 → (∀ x ∈ l1, Good32 x) → ∃ k, laws_FnFire.f k l0 l1 = some true

end Go.Proofs.Ytnoelppkcbelcaa.MF
