-- Written by this session's own program (wip/myprint.py) over the kit's print of the translation. Lean checks it.
import Derived.Test.YtfbhgmpgkhmikaaDoorMCx0
namespace Go.Proofs.YtfbhgmpgkhmikaaDoor.MC
open Go.RowKit Go.Proofs.YtfbhgmpgkhmikaaDoorW.PrintWords Go.Proofs.YtfbhgmpgkhmikaaDoorW.PrintLast Go.Proofs.YtfbhgmpgkhmikaaDoorW.PrintMore
attribute [local go_sem] max2_int min2_int max_two min_two max_three min_three max_four min_four   -- for this text's walks alone
set_option linter.unusedVariables false
set_option linter.unusedSimpArgs false

/-! ### impl_changed: function 49 -/
mutual
def impl_changed.j0 : Nat → Int → ByteArray → Bool → Option (ByteArray)
 | 0, _, _, _ => none
 | k + 1, x1, x5, x6 => if x6 = true then (some (⟨#[65, 78, 90]⟩ : ByteArray)) else (if x5.toList = ([80, 76, 65] : List UInt8) then (some (⟨#[65, 83, 78, 90]⟩ : ByteArray)) else (if x5.toList = ([76, 68, 88] : List UInt8) then (impl_changed.j1 k x1 x5 (x5.toList == ([76, 68, 88] : List UInt8))) else (if x5.toList = ([73, 78, 88] : List UInt8) then (impl_changed.j1 k x1 x5 (x5.toList == ([73, 78, 88] : List UInt8))) else (if x5.toList = ([68, 69, 88] : List UInt8) then (impl_changed.j1 k x1 x5 (x5.toList == ([68, 69, 88] : List UInt8))) else (if x5.toList = ([84, 65, 88] : List UInt8) then (impl_changed.j1 k x1 x5 (x5.toList == ([84, 65, 88] : List UInt8))) else (impl_changed.j1 k x1 x5 (x5.toList == ([84, 83, 88] : List UInt8))))))))
def impl_changed.j1 : Nat → Int → ByteArray → Bool → Option (ByteArray)
 | 0, _, _, _ => none
 | k + 1, x1, x5, x13 => if x13 = true then (some (⟨#[88, 78, 90]⟩ : ByteArray)) else (if x5.toList = ([76, 68, 89] : List UInt8) then (impl_changed.j2 k x1 x5 (x5.toList == ([76, 68, 89] : List UInt8))) else (if x5.toList = ([73, 78, 89] : List UInt8) then (impl_changed.j2 k x1 x5 (x5.toList == ([73, 78, 89] : List UInt8))) else (if x5.toList = ([68, 69, 89] : List UInt8) then (impl_changed.j2 k x1 x5 (x5.toList == ([68, 69, 89] : List UInt8))) else (impl_changed.j2 k x1 x5 (x5.toList == ([84, 65, 89] : List UInt8))))))
def impl_changed.j2 : Nat → Int → ByteArray → Bool → Option (ByteArray)
 | 0, _, _, _ => none
 | k + 1, x1, x5, x19 => if x19 = true then (some (⟨#[89, 78, 90]⟩ : ByteArray)) else (if x5.toList = ([84, 88, 65] : List UInt8) then (impl_changed.j3 k x1 x5 (x5.toList == ([84, 88, 65] : List UInt8))) else (impl_changed.j3 k x1 x5 (x5.toList == ([84, 89, 65] : List UInt8))))
def impl_changed.j3 : Nat → Int → ByteArray → Bool → Option (ByteArray)
 | 0, _, _, _ => none
 | k + 1, x1, x5, x24 => if x24 = true then (some (⟨#[65, 78, 90]⟩ : ByteArray)) else (if x5.toList = ([65, 68, 67] : List UInt8) then (impl_changed.j4 k x1 x5 (x5.toList == ([65, 68, 67] : List UInt8))) else (impl_changed.j4 k x1 x5 (x5.toList == ([83, 66, 67] : List UInt8))))
def impl_changed.j4 : Nat → Int → ByteArray → Bool → Option (ByteArray)
 | 0, _, _, _ => none
 | k + 1, x1, x5, x27 => if x27 = true then (some (⟨#[65, 78, 86, 90, 67]⟩ : ByteArray)) else (if x5.toList = ([67, 77, 80] : List UInt8) then (impl_changed.j5 k x1 x5 (x5.toList == ([67, 77, 80] : List UInt8))) else (if x5.toList = ([67, 80, 88] : List UInt8) then (impl_changed.j5 k x1 x5 (x5.toList == ([67, 80, 88] : List UInt8))) else (impl_changed.j5 k x1 x5 (x5.toList == ([67, 80, 89] : List UInt8)))))
def impl_changed.j5 : Nat → Int → ByteArray → Bool → Option (ByteArray)
 | 0, _, _, _ => none
 | k + 1, x1, x5, x30 => if x30 = true then (some (⟨#[78, 90, 67]⟩ : ByteArray)) else (if x5.toList = ([66, 73, 84] : List UInt8) then (some (⟨#[78, 86, 90]⟩ : ByteArray)) else (if x5.toList = ([73, 78, 67] : List UInt8) then (impl_changed.j6 k x1 x5 (x5.toList == ([73, 78, 67] : List UInt8))) else (impl_changed.j6 k x1 x5 (x5.toList == ([68, 69, 67] : List UInt8)))))
def impl_changed.j6 : Nat → Int → ByteArray → Bool → Option (ByteArray)
 | 0, _, _, _ => none
 | k + 1, x1, x5, x36 => if x36 = true then (some (⟨#[78, 90]⟩ : ByteArray)) else (if x5.toList = ([65, 83, 76] : List UInt8) then (impl_changed.j7 k x1 x5 (x5.toList == ([65, 83, 76] : List UInt8))) else (if x5.toList = ([76, 83, 82] : List UInt8) then (impl_changed.j7 k x1 x5 (x5.toList == ([76, 83, 82] : List UInt8))) else (if x5.toList = ([82, 79, 76] : List UInt8) then (impl_changed.j7 k x1 x5 (x5.toList == ([82, 79, 76] : List UInt8))) else (impl_changed.j7 k x1 x5 (x5.toList == ([82, 79, 82] : List UInt8))))))
def impl_changed.j7 : Nat → Int → ByteArray → Bool → Option (ByteArray)
 | 0, _, _, _ => none
 | k + 1, x1, x5, x39 => if x39 = true then (if x1 = 1 then (some (⟨#[65, 78, 90, 67]⟩ : ByteArray)) else (some (⟨#[78, 90, 67]⟩ : ByteArray))) else (if x5.toList = ([84, 88, 83] : List UInt8) then (impl_changed.j8 k x5 (x5.toList == ([84, 88, 83] : List UInt8))) else (if x5.toList = ([74, 83, 82] : List UInt8) then (impl_changed.j8 k x5 (x5.toList == ([74, 83, 82] : List UInt8))) else (if x5.toList = ([82, 84, 83] : List UInt8) then (impl_changed.j8 k x5 (x5.toList == ([82, 84, 83] : List UInt8))) else (if x5.toList = ([80, 72, 65] : List UInt8) then (impl_changed.j8 k x5 (x5.toList == ([80, 72, 65] : List UInt8))) else (impl_changed.j8 k x5 (x5.toList == ([80, 72, 80] : List UInt8)))))))
def impl_changed.j8 : Nat → ByteArray → Bool → Option (ByteArray)
 | 0, _, _ => none
 | k + 1, x5, x46 => if x46 = true then (some (⟨#[83]⟩ : ByteArray)) else (if x5.toList = ([66, 82, 75] : List UInt8) then (some (⟨#[83, 73]⟩ : ByteArray)) else (if x5.toList = ([67, 76, 67] : List UInt8) then (impl_changed.j9 k x5 (x5.toList == ([67, 76, 67] : List UInt8))) else (impl_changed.j9 k x5 (x5.toList == ([83, 69, 67] : List UInt8)))))
def impl_changed.j9 : Nat → ByteArray → Bool → Option (ByteArray)
 | 0, _, _ => none
 | k + 1, x5, x54 => if x54 = true then (some (⟨#[67]⟩ : ByteArray)) else (if x5.toList = ([67, 76, 73] : List UInt8) then (impl_changed.j10 k x5 (x5.toList == ([67, 76, 73] : List UInt8))) else (impl_changed.j10 k x5 (x5.toList == ([83, 69, 73] : List UInt8))))
def impl_changed.j10 : Nat → ByteArray → Bool → Option (ByteArray)
 | 0, _, _ => none
 | k + 1, x5, x57 => if x57 = true then (some (⟨#[73]⟩ : ByteArray)) else (if x5.toList = ([67, 76, 68] : List UInt8) then (impl_changed.j11 k x5 (x5.toList == ([67, 76, 68] : List UInt8))) else (impl_changed.j11 k x5 (x5.toList == ([83, 69, 68] : List UInt8))))
def impl_changed.j11 : Nat → ByteArray → Bool → Option (ByteArray)
 | 0, _, _ => none
 | k + 1, x5, x60 => if x60 = true then (some (⟨#[68]⟩ : ByteArray)) else (if x5.toList = ([67, 76, 86] : List UInt8) then (some (⟨#[86]⟩ : ByteArray)) else (if x5.toList = ([80, 76, 80] : List UInt8) then (some (⟨#[83, 78, 86, 68, 73, 90, 67]⟩ : ByteArray)) else (if x5.toList = ([82, 84, 73] : List UInt8) then (some (⟨#[83, 78, 86, 68, 73, 90, 67]⟩ : ByteArray)) else (some (⟨#[]⟩ : ByteArray)))))
end
def impl_changed.f (k : Nat) (a0 : ByteArray) (a1 : Int) : Option (ByteArray) := if a0.toList = ([76, 68, 65] : List UInt8) then (impl_changed.j0 k a1 a0 (a0.toList == ([76, 68, 65] : List UInt8))) else (if a0.toList = ([79, 82, 65] : List UInt8) then (impl_changed.j0 k a1 a0 (a0.toList == ([79, 82, 65] : List UInt8))) else (if a0.toList = ([65, 78, 68] : List UInt8) then (impl_changed.j0 k a1 a0 (a0.toList == ([65, 78, 68] : List UInt8))) else (impl_changed.j0 k a1 a0 (a0.toList == ([69, 79, 82] : List UInt8)))))
theorem impl_changed.mono_l : ∀ k, (∀ y0 y1 y2, LeO (impl_changed.j0 k y0 y1 y2) (impl_changed.j0 (k + 1) y0 y1 y2)) ∧ (∀ y0 y1 y2, LeO (impl_changed.j1 k y0 y1 y2) (impl_changed.j1 (k + 1) y0 y1 y2)) ∧ (∀ y0 y1 y2, LeO (impl_changed.j2 k y0 y1 y2) (impl_changed.j2 (k + 1) y0 y1 y2)) ∧ (∀ y0 y1 y2, LeO (impl_changed.j3 k y0 y1 y2) (impl_changed.j3 (k + 1) y0 y1 y2)) ∧ (∀ y0 y1 y2, LeO (impl_changed.j4 k y0 y1 y2) (impl_changed.j4 (k + 1) y0 y1 y2)) ∧ (∀ y0 y1 y2, LeO (impl_changed.j5 k y0 y1 y2) (impl_changed.j5 (k + 1) y0 y1 y2)) ∧ (∀ y0 y1 y2, LeO (impl_changed.j6 k y0 y1 y2) (impl_changed.j6 (k + 1) y0 y1 y2)) ∧ (∀ y0 y1 y2, LeO (impl_changed.j7 k y0 y1 y2) (impl_changed.j7 (k + 1) y0 y1 y2)) ∧ (∀ y0 y1, LeO (impl_changed.j8 k y0 y1) (impl_changed.j8 (k + 1) y0 y1)) ∧ (∀ y0 y1, LeO (impl_changed.j9 k y0 y1) (impl_changed.j9 (k + 1) y0 y1)) ∧ (∀ y0 y1, LeO (impl_changed.j10 k y0 y1) (impl_changed.j10 (k + 1) y0 y1)) ∧ (∀ y0 y1, LeO (impl_changed.j11 k y0 y1) (impl_changed.j11 (k + 1) y0 y1))
 | 0 => ⟨fun _ _ _ r h => by simp [impl_changed.j0] at h, fun _ _ _ r h => by simp [impl_changed.j1] at h, fun _ _ _ r h => by simp [impl_changed.j2] at h, fun _ _ _ r h => by simp [impl_changed.j3] at h, fun _ _ _ r h => by simp [impl_changed.j4] at h, fun _ _ _ r h => by simp [impl_changed.j5] at h, fun _ _ _ r h => by simp [impl_changed.j6] at h, fun _ _ _ r h => by simp [impl_changed.j7] at h, fun _ _ r h => by simp [impl_changed.j8] at h, fun _ _ r h => by simp [impl_changed.j9] at h, fun _ _ r h => by simp [impl_changed.j10] at h, fun _ _ r h => by simp [impl_changed.j11] at h⟩
 | k + 1 => by
  obtain ⟨ih0, ih1, ih2, ih3, ih4, ih5, ih6, ih7, ih8, ih9, ih10, ih11⟩ := impl_changed.mono_l k
  refine ⟨?_, ?_, ?_, ?_, ?_, ?_, ?_, ?_, ?_, ?_, ?_, ?_⟩
  ·intro y0 y1 y2
   unfold impl_changed.j0
   repeat' first
   | (with_reducible exact ih0 _ _ _)
   | (with_reducible exact ih1 _ _ _)
   | (with_reducible exact ih2 _ _ _)
   | (with_reducible exact ih3 _ _ _)
   | (with_reducible exact ih4 _ _ _)
   | (with_reducible exact ih5 _ _ _)
   | (with_reducible exact ih6 _ _ _)
   | (with_reducible exact ih7 _ _ _)
   | (with_reducible exact ih8 _ _)
   | (with_reducible exact ih9 _ _)
   | (with_reducible exact ih10 _ _)
   | (with_reducible exact ih11 _ _)
   | (with_reducible exact LeO.refl _)
   | (with_reducible exact LeO.none _)
   | (with_reducible refine LeO.ite ?_ ?_)
   | (with_reducible refine LeO.bind ?_ (fun _ => ?_))
   | exact ih0 _ _ _
   | exact ih1 _ _ _
   | exact ih2 _ _ _
   | exact ih3 _ _ _
   | exact ih4 _ _ _
   | exact ih5 _ _ _
   | exact ih6 _ _ _
   | exact ih7 _ _ _
   | exact ih8 _ _
   | exact ih9 _ _
   | exact ih10 _ _
   | exact ih11 _ _
   | exact LeO.none _
   | refine LeO.ite ?_ ?_
   | refine LeO.bind ?_ (fun _ => ?_)
  ·intro y0 y1 y2
   unfold impl_changed.j1
   repeat' first
   | (with_reducible exact ih0 _ _ _)
   | (with_reducible exact ih1 _ _ _)
   | (with_reducible exact ih2 _ _ _)
   | (with_reducible exact ih3 _ _ _)
   | (with_reducible exact ih4 _ _ _)
   | (with_reducible exact ih5 _ _ _)
   | (with_reducible exact ih6 _ _ _)
   | (with_reducible exact ih7 _ _ _)
   | (with_reducible exact ih8 _ _)
   | (with_reducible exact ih9 _ _)
   | (with_reducible exact ih10 _ _)
   | (with_reducible exact ih11 _ _)
   | (with_reducible exact LeO.refl _)
   | (with_reducible exact LeO.none _)
   | (with_reducible refine LeO.ite ?_ ?_)
   | (with_reducible refine LeO.bind ?_ (fun _ => ?_))
   | exact ih0 _ _ _
   | exact ih1 _ _ _
   | exact ih2 _ _ _
   | exact ih3 _ _ _
   | exact ih4 _ _ _
   | exact ih5 _ _ _
   | exact ih6 _ _ _
   | exact ih7 _ _ _
   | exact ih8 _ _
   | exact ih9 _ _
   | exact ih10 _ _
   | exact ih11 _ _
   | exact LeO.none _
   | refine LeO.ite ?_ ?_
   | refine LeO.bind ?_ (fun _ => ?_)
  ·intro y0 y1 y2
   unfold impl_changed.j2
   repeat' first
   | (with_reducible exact ih0 _ _ _)
   | (with_reducible exact ih1 _ _ _)
   | (with_reducible exact ih2 _ _ _)
   | (with_reducible exact ih3 _ _ _)
   | (with_reducible exact ih4 _ _ _)
   | (with_reducible exact ih5 _ _ _)
   | (with_reducible exact ih6 _ _ _)
   | (with_reducible exact ih7 _ _ _)
   | (with_reducible exact ih8 _ _)
   | (with_reducible exact ih9 _ _)
   | (with_reducible exact ih10 _ _)
   | (with_reducible exact ih11 _ _)
   | (with_reducible exact LeO.refl _)
   | (with_reducible exact LeO.none _)
   | (with_reducible refine LeO.ite ?_ ?_)
   | (with_reducible refine LeO.bind ?_ (fun _ => ?_))
   | exact ih0 _ _ _
   | exact ih1 _ _ _
   | exact ih2 _ _ _
   | exact ih3 _ _ _
   | exact ih4 _ _ _
   | exact ih5 _ _ _
   | exact ih6 _ _ _
   | exact ih7 _ _ _
   | exact ih8 _ _
   | exact ih9 _ _
   | exact ih10 _ _
   | exact ih11 _ _
   | exact LeO.none _
   | refine LeO.ite ?_ ?_
   | refine LeO.bind ?_ (fun _ => ?_)
  ·intro y0 y1 y2
   unfold impl_changed.j3
   repeat' first
   | (with_reducible exact ih0 _ _ _)
   | (with_reducible exact ih1 _ _ _)
   | (with_reducible exact ih2 _ _ _)
   | (with_reducible exact ih3 _ _ _)
   | (with_reducible exact ih4 _ _ _)
   | (with_reducible exact ih5 _ _ _)
   | (with_reducible exact ih6 _ _ _)
   | (with_reducible exact ih7 _ _ _)
   | (with_reducible exact ih8 _ _)
   | (with_reducible exact ih9 _ _)
   | (with_reducible exact ih10 _ _)
   | (with_reducible exact ih11 _ _)
   | (with_reducible exact LeO.refl _)
   | (with_reducible exact LeO.none _)
   | (with_reducible refine LeO.ite ?_ ?_)
   | (with_reducible refine LeO.bind ?_ (fun _ => ?_))
   | exact ih0 _ _ _
   | exact ih1 _ _ _
   | exact ih2 _ _ _
   | exact ih3 _ _ _
   | exact ih4 _ _ _
   | exact ih5 _ _ _
   | exact ih6 _ _ _
   | exact ih7 _ _ _
   | exact ih8 _ _
   | exact ih9 _ _
   | exact ih10 _ _
   | exact ih11 _ _
   | exact LeO.none _
   | refine LeO.ite ?_ ?_
   | refine LeO.bind ?_ (fun _ => ?_)
  ·intro y0 y1 y2
   unfold impl_changed.j4
   repeat' first
   | (with_reducible exact ih0 _ _ _)
   | (with_reducible exact ih1 _ _ _)
   | (with_reducible exact ih2 _ _ _)
   | (with_reducible exact ih3 _ _ _)
   | (with_reducible exact ih4 _ _ _)
   | (with_reducible exact ih5 _ _ _)
   | (with_reducible exact ih6 _ _ _)
   | (with_reducible exact ih7 _ _ _)
   | (with_reducible exact ih8 _ _)
   | (with_reducible exact ih9 _ _)
   | (with_reducible exact ih10 _ _)
   | (with_reducible exact ih11 _ _)
   | (with_reducible exact LeO.refl _)
   | (with_reducible exact LeO.none _)
   | (with_reducible refine LeO.ite ?_ ?_)
   | (with_reducible refine LeO.bind ?_ (fun _ => ?_))
   | exact ih0 _ _ _
   | exact ih1 _ _ _
   | exact ih2 _ _ _
   | exact ih3 _ _ _
   | exact ih4 _ _ _
   | exact ih5 _ _ _
   | exact ih6 _ _ _
   | exact ih7 _ _ _
   | exact ih8 _ _
   | exact ih9 _ _
   | exact ih10 _ _
   | exact ih11 _ _
   | exact LeO.none _
   | refine LeO.ite ?_ ?_
   | refine LeO.bind ?_ (fun _ => ?_)
  ·intro y0 y1 y2
   unfold impl_changed.j5
   repeat' first
   | (with_reducible exact ih0 _ _ _)
   | (with_reducible exact ih1 _ _ _)
   | (with_reducible exact ih2 _ _ _)
   | (with_reducible exact ih3 _ _ _)
   | (with_reducible exact ih4 _ _ _)
   | (with_reducible exact ih5 _ _ _)
   | (with_reducible exact ih6 _ _ _)
   | (with_reducible exact ih7 _ _ _)
   | (with_reducible exact ih8 _ _)
   | (with_reducible exact ih9 _ _)
   | (with_reducible exact ih10 _ _)
   | (with_reducible exact ih11 _ _)
   | (with_reducible exact LeO.refl _)
   | (with_reducible exact LeO.none _)
   | (with_reducible refine LeO.ite ?_ ?_)
   | (with_reducible refine LeO.bind ?_ (fun _ => ?_))
   | exact ih0 _ _ _
   | exact ih1 _ _ _
   | exact ih2 _ _ _
   | exact ih3 _ _ _
   | exact ih4 _ _ _
   | exact ih5 _ _ _
   | exact ih6 _ _ _
   | exact ih7 _ _ _
   | exact ih8 _ _
   | exact ih9 _ _
   | exact ih10 _ _
   | exact ih11 _ _
   | exact LeO.none _
   | refine LeO.ite ?_ ?_
   | refine LeO.bind ?_ (fun _ => ?_)
  ·intro y0 y1 y2
   unfold impl_changed.j6
   repeat' first
   | (with_reducible exact ih0 _ _ _)
   | (with_reducible exact ih1 _ _ _)
   | (with_reducible exact ih2 _ _ _)
   | (with_reducible exact ih3 _ _ _)
   | (with_reducible exact ih4 _ _ _)
   | (with_reducible exact ih5 _ _ _)
   | (with_reducible exact ih6 _ _ _)
   | (with_reducible exact ih7 _ _ _)
   | (with_reducible exact ih8 _ _)
   | (with_reducible exact ih9 _ _)
   | (with_reducible exact ih10 _ _)
   | (with_reducible exact ih11 _ _)
   | (with_reducible exact LeO.refl _)
   | (with_reducible exact LeO.none _)
   | (with_reducible refine LeO.ite ?_ ?_)
   | (with_reducible refine LeO.bind ?_ (fun _ => ?_))
   | exact ih0 _ _ _
   | exact ih1 _ _ _
   | exact ih2 _ _ _
   | exact ih3 _ _ _
   | exact ih4 _ _ _
   | exact ih5 _ _ _
   | exact ih6 _ _ _
   | exact ih7 _ _ _
   | exact ih8 _ _
   | exact ih9 _ _
   | exact ih10 _ _
   | exact ih11 _ _
   | exact LeO.none _
   | refine LeO.ite ?_ ?_
   | refine LeO.bind ?_ (fun _ => ?_)
  ·intro y0 y1 y2
   unfold impl_changed.j7
   repeat' first
   | (with_reducible exact ih0 _ _ _)
   | (with_reducible exact ih1 _ _ _)
   | (with_reducible exact ih2 _ _ _)
   | (with_reducible exact ih3 _ _ _)
   | (with_reducible exact ih4 _ _ _)
   | (with_reducible exact ih5 _ _ _)
   | (with_reducible exact ih6 _ _ _)
   | (with_reducible exact ih7 _ _ _)
   | (with_reducible exact ih8 _ _)
   | (with_reducible exact ih9 _ _)
   | (with_reducible exact ih10 _ _)
   | (with_reducible exact ih11 _ _)
   | (with_reducible exact LeO.refl _)
   | (with_reducible exact LeO.none _)
   | (with_reducible refine LeO.ite ?_ ?_)
   | (with_reducible refine LeO.bind ?_ (fun _ => ?_))
   | exact ih0 _ _ _
   | exact ih1 _ _ _
   | exact ih2 _ _ _
   | exact ih3 _ _ _
   | exact ih4 _ _ _
   | exact ih5 _ _ _
   | exact ih6 _ _ _
   | exact ih7 _ _ _
   | exact ih8 _ _
   | exact ih9 _ _
   | exact ih10 _ _
   | exact ih11 _ _
   | exact LeO.none _
   | refine LeO.ite ?_ ?_
   | refine LeO.bind ?_ (fun _ => ?_)
  ·intro y0 y1
   unfold impl_changed.j8
   repeat' first
   | (with_reducible exact ih0 _ _ _)
   | (with_reducible exact ih1 _ _ _)
   | (with_reducible exact ih2 _ _ _)
   | (with_reducible exact ih3 _ _ _)
   | (with_reducible exact ih4 _ _ _)
   | (with_reducible exact ih5 _ _ _)
   | (with_reducible exact ih6 _ _ _)
   | (with_reducible exact ih7 _ _ _)
   | (with_reducible exact ih8 _ _)
   | (with_reducible exact ih9 _ _)
   | (with_reducible exact ih10 _ _)
   | (with_reducible exact ih11 _ _)
   | (with_reducible exact LeO.refl _)
   | (with_reducible exact LeO.none _)
   | (with_reducible refine LeO.ite ?_ ?_)
   | (with_reducible refine LeO.bind ?_ (fun _ => ?_))
   | exact ih0 _ _ _
   | exact ih1 _ _ _
   | exact ih2 _ _ _
   | exact ih3 _ _ _
   | exact ih4 _ _ _
   | exact ih5 _ _ _
   | exact ih6 _ _ _
   | exact ih7 _ _ _
   | exact ih8 _ _
   | exact ih9 _ _
   | exact ih10 _ _
   | exact ih11 _ _
   | exact LeO.none _
   | refine LeO.ite ?_ ?_
   | refine LeO.bind ?_ (fun _ => ?_)
  ·intro y0 y1
   unfold impl_changed.j9
   repeat' first
   | (with_reducible exact ih0 _ _ _)
   | (with_reducible exact ih1 _ _ _)
   | (with_reducible exact ih2 _ _ _)
   | (with_reducible exact ih3 _ _ _)
   | (with_reducible exact ih4 _ _ _)
   | (with_reducible exact ih5 _ _ _)
   | (with_reducible exact ih6 _ _ _)
   | (with_reducible exact ih7 _ _ _)
   | (with_reducible exact ih8 _ _)
   | (with_reducible exact ih9 _ _)
   | (with_reducible exact ih10 _ _)
   | (with_reducible exact ih11 _ _)
   | (with_reducible exact LeO.refl _)
   | (with_reducible exact LeO.none _)
   | (with_reducible refine LeO.ite ?_ ?_)
   | (with_reducible refine LeO.bind ?_ (fun _ => ?_))
   | exact ih0 _ _ _
   | exact ih1 _ _ _
   | exact ih2 _ _ _
   | exact ih3 _ _ _
   | exact ih4 _ _ _
   | exact ih5 _ _ _
   | exact ih6 _ _ _
   | exact ih7 _ _ _
   | exact ih8 _ _
   | exact ih9 _ _
   | exact ih10 _ _
   | exact ih11 _ _
   | exact LeO.none _
   | refine LeO.ite ?_ ?_
   | refine LeO.bind ?_ (fun _ => ?_)
  ·intro y0 y1
   unfold impl_changed.j10
   repeat' first
   | (with_reducible exact ih0 _ _ _)
   | (with_reducible exact ih1 _ _ _)
   | (with_reducible exact ih2 _ _ _)
   | (with_reducible exact ih3 _ _ _)
   | (with_reducible exact ih4 _ _ _)
   | (with_reducible exact ih5 _ _ _)
   | (with_reducible exact ih6 _ _ _)
   | (with_reducible exact ih7 _ _ _)
   | (with_reducible exact ih8 _ _)
   | (with_reducible exact ih9 _ _)
   | (with_reducible exact ih10 _ _)
   | (with_reducible exact ih11 _ _)
   | (with_reducible exact LeO.refl _)
   | (with_reducible exact LeO.none _)
   | (with_reducible refine LeO.ite ?_ ?_)
   | (with_reducible refine LeO.bind ?_ (fun _ => ?_))
   | exact ih0 _ _ _
   | exact ih1 _ _ _
   | exact ih2 _ _ _
   | exact ih3 _ _ _
   | exact ih4 _ _ _
   | exact ih5 _ _ _
   | exact ih6 _ _ _
   | exact ih7 _ _ _
   | exact ih8 _ _
   | exact ih9 _ _
   | exact ih10 _ _
   | exact ih11 _ _
   | exact LeO.none _
   | refine LeO.ite ?_ ?_
   | refine LeO.bind ?_ (fun _ => ?_)
  ·intro y0 y1
   unfold impl_changed.j11
   repeat' first
   | (with_reducible exact ih0 _ _ _)
   | (with_reducible exact ih1 _ _ _)
   | (with_reducible exact ih2 _ _ _)
   | (with_reducible exact ih3 _ _ _)
   | (with_reducible exact ih4 _ _ _)
   | (with_reducible exact ih5 _ _ _)
   | (with_reducible exact ih6 _ _ _)
   | (with_reducible exact ih7 _ _ _)
   | (with_reducible exact ih8 _ _)
   | (with_reducible exact ih9 _ _)
   | (with_reducible exact ih10 _ _)
   | (with_reducible exact ih11 _ _)
   | (with_reducible exact LeO.refl _)
   | (with_reducible exact LeO.none _)
   | (with_reducible refine LeO.ite ?_ ?_)
   | (with_reducible refine LeO.bind ?_ (fun _ => ?_))
   | exact ih0 _ _ _
   | exact ih1 _ _ _
   | exact ih2 _ _ _
   | exact ih3 _ _ _
   | exact ih4 _ _ _
   | exact ih5 _ _ _
   | exact ih6 _ _ _
   | exact ih7 _ _ _
   | exact ih8 _ _
   | exact ih9 _ _
   | exact ih10 _ _
   | exact ih11 _ _
   | exact LeO.none _
   | refine LeO.ite ?_ ?_
   | refine LeO.bind ?_ (fun _ => ?_)
theorem impl_changed.mono : ∀ a0 a1 k, LeO (impl_changed.f k a0 a1) (impl_changed.f (k + 1) a0 a1) := by
 intro a0 a1 k
 obtain ⟨ih0, ih1, ih2, ih3, ih4, ih5, ih6, ih7, ih8, ih9, ih10, ih11⟩ := impl_changed.mono_l k
 unfold impl_changed.f
 repeat' first
   | (with_reducible exact ih0 _ _ _)
   | (with_reducible exact ih1 _ _ _)
   | (with_reducible exact ih2 _ _ _)
   | (with_reducible exact ih3 _ _ _)
   | (with_reducible exact ih4 _ _ _)
   | (with_reducible exact ih5 _ _ _)
   | (with_reducible exact ih6 _ _ _)
   | (with_reducible exact ih7 _ _ _)
   | (with_reducible exact ih8 _ _)
   | (with_reducible exact ih9 _ _)
   | (with_reducible exact ih10 _ _)
   | (with_reducible exact ih11 _ _)
   | (with_reducible exact LeO.refl _)
   | (with_reducible exact LeO.none _)
   | (with_reducible refine LeO.ite ?_ ?_)
   | (with_reducible refine LeO.bind ?_ (fun _ => ?_))
   | exact ih0 _ _ _
   | exact ih1 _ _ _
   | exact ih2 _ _ _
   | exact ih3 _ _ _
   | exact ih4 _ _ _
   | exact ih5 _ _ _
   | exact ih6 _ _ _
   | exact ih7 _ _ _
   | exact ih8 _ _
   | exact ih9 _ _
   | exact ih10 _ _
   | exact ih11 _ _
   | exact LeO.none _
   | refine LeO.ite ?_ ?_
   | refine LeO.bind ?_ (fun _ => ?_)
set_option maxHeartbeats 8000000 in
set_option maxRecDepth 100000 in
theorem impl_changed.calls (k : Nat) (a0 : ByteArray) (a1 : Int) (r : ByteArray) (w : World) (h : impl_changed.f k a0 a1 = some r) :
  Calls Tryd.prog 49 #[.string a0, .int .i64 a1] w fun e w' => e = .returned (.string r) ∧ Drawn0 w w' := by
 have H : (if a0.toList = ([76, 68, 65] : List UInt8) then (impl_changed.j0 k a1 a0 (a0.toList == ([76, 68, 65] : List UInt8))) else (if a0.toList = ([79, 82, 65] : List UInt8) then (impl_changed.j0 k a1 a0 (a0.toList == ([79, 82, 65] : List UInt8))) else (if a0.toList = ([65, 78, 68] : List UInt8) then (impl_changed.j0 k a1 a0 (a0.toList == ([65, 78, 68] : List UInt8))) else (impl_changed.j0 k a1 a0 (a0.toList == ([69, 79, 82] : List UInt8)))))) = some r := h
 clear h
 have HC3 := Aside0.mk H
 clear H
 go_enter Tryd.func49, Tryd.ntmps49
 go_upto_if 6 with (fail)
 go_cut [6] (fun v6 wc => ∃ (kq : Nat) (x6_2 : Bool), v6 = .bool x6_2 ∧ Aside0 (impl_changed.j0 kq a1 a0 x6_2 = some r) ∧ Aside0 (kq ≤ k) ∧ Drawn0 w wc)
 case first =>
  have H := HC3.out
  clear HC3
  by_cases c4 : a0.toList = ([76, 68, 65] : List UInt8)
  ·rw [if_pos c4] at H
   have c4b0 : (a0.toList == ([76, 68, 65] : List UInt8)) = true := beq_iff_eq.mpr c4
   have c4b1 : (a0.toList != ([76, 68, 65] : List UInt8)) = false := bne_eq_false_iff_eq.mpr c4
   clear c4
   (first | rw [c4b0] | (simp only [i64_w, i32_w]; rw [c4b0]) | skip)
   have H' := Aside0.mk H
   clear H
   go_wp2
   go_meet
   case rel => exact ⟨_, ((a0.toList == ([76, 68, 65] : List UInt8))), (by first | rfl | (simp; done) | (simp [*]; done)), H', ⟨by first | omega | exact Nat.le_refl _⟩, by repeat (first | exact Drawn0.refl _ | apply Drawn0.step)⟩
  ·rw [if_neg c4] at H
   have c4b0 : (a0.toList == ([76, 68, 65] : List UInt8)) = false := beq_eq_false_iff_ne.mpr c4
   have c4b1 : (a0.toList != ([76, 68, 65] : List UInt8)) = true := bne_iff_ne.mpr c4
   (first | rw [c4b0] | (simp only [i64_w, i32_w]; rw [c4b0]) | skip)
   by_cases c5 : a0.toList = ([79, 82, 65] : List UInt8)
   ·rw [if_pos c5] at H
    have c5b0 : (a0.toList == ([79, 82, 65] : List UInt8)) = true := beq_iff_eq.mpr c5
    have c5b1 : (a0.toList != ([79, 82, 65] : List UInt8)) = false := bne_eq_false_iff_eq.mpr c5
    clear c5
    have H' := Aside0.mk H
    clear H
    go_wp2
    go_meet
    case rel => exact ⟨_, ((a0.toList == ([79, 82, 65] : List UInt8))), (by first | rfl | (simp; done) | (simp [*]; done)), H', ⟨by first | omega | exact Nat.le_refl _⟩, by repeat (first | exact Drawn0.refl _ | apply Drawn0.step)⟩
   ·rw [if_neg c5] at H
    have c5b0 : (a0.toList == ([79, 82, 65] : List UInt8)) = false := beq_eq_false_iff_ne.mpr c5
    have c5b1 : (a0.toList != ([79, 82, 65] : List UInt8)) = true := bne_iff_ne.mpr c5
    by_cases c6 : a0.toList = ([65, 78, 68] : List UInt8)
    ·rw [if_pos c6] at H
     have c6b0 : (a0.toList == ([65, 78, 68] : List UInt8)) = true := beq_iff_eq.mpr c6
     have c6b1 : (a0.toList != ([65, 78, 68] : List UInt8)) = false := bne_eq_false_iff_eq.mpr c6
     clear c6
     have H' := Aside0.mk H
     clear H
     go_wp2
     go_meet
     case rel => exact ⟨_, ((a0.toList == ([65, 78, 68] : List UInt8))), (by first | rfl | (simp; done) | (simp [*]; done)), H', ⟨by first | omega | exact Nat.le_refl _⟩, by repeat (first | exact Drawn0.refl _ | apply Drawn0.step)⟩
    ·rw [if_neg c6] at H
     have c6b0 : (a0.toList == ([65, 78, 68] : List UInt8)) = false := beq_eq_false_iff_ne.mpr c6
     have c6b1 : (a0.toList != ([65, 78, 68] : List UInt8)) = true := bne_iff_ne.mpr c6
     have H' := Aside0.mk H
     clear H
     go_wp2
     go_meet
     case rel => exact ⟨_, ((a0.toList == ([69, 79, 82] : List UInt8))), (by first | rfl | (simp; done) | (simp [*]; done)), H', ⟨by first | omega | exact Nat.le_refl _⟩, by repeat (first | exact Drawn0.refl _ | apply Drawn0.step)⟩
 case rest =>
  clear HC3
  try clear p2
  try clear c4
  try clear c4b0
  try clear c4b1
  try clear c5
  try clear c5b0
  try clear c5b1
  try clear c6
  try clear c6b0
  try clear c6b1
  obtain ⟨kq, x6_2, rfl, HA, HJ2, ⟨mc2, rfl⟩⟩ := hcut
  cases kq with
  | zero => exact absurd HA.out (by simp [impl_changed.j0])
  | succ kj2 =>
   have H := HA.out
   clear HA
   simp only [impl_changed.j0] at H
   by_cases c7 : x6_2 = true
   ·subst c7
    have H1 : (some (⟨#[65, 78, 90]⟩ : ByteArray)) = some r := by rw [if_pos rfl] at H; exact H
    clear H
    have H := H1
    clear H1
    obtain rfl := Option.some.inj H
    go_wp2
    go_ret
    exact ⟨by first | rfl | (simp; done) | (simp [*]; done), by repeat (first | exact Drawn0.refl _ | apply Drawn0.step)⟩
   ·replace c7 := Bool.eq_false_iff.mpr c7
    subst c7
    have H1 : (if a0.toList = ([80, 76, 65] : List UInt8) then (some (⟨#[65, 83, 78, 90]⟩ : ByteArray)) else (if a0.toList = ([76, 68, 88] : List UInt8) then (impl_changed.j1 kj2 a1 a0 (a0.toList == ([76, 68, 88] : List UInt8))) else (if a0.toList = ([73, 78, 88] : List UInt8) then (impl_changed.j1 kj2 a1 a0 (a0.toList == ([73, 78, 88] : List UInt8))) else (if a0.toList = ([68, 69, 88] : List UInt8) then (impl_changed.j1 kj2 a1 a0 (a0.toList == ([68, 69, 88] : List UInt8))) else (if a0.toList = ([84, 65, 88] : List UInt8) then (impl_changed.j1 kj2 a1 a0 (a0.toList == ([84, 65, 88] : List UInt8))) else (impl_changed.j1 kj2 a1 a0 (a0.toList == ([84, 83, 88] : List UInt8)))))))) = some r := by rw [if_neg (show ¬ (false = true) by decide)] at H; exact H
    clear H
    have H := H1
    clear H1
    by_cases c8 : a0.toList = ([80, 76, 65] : List UInt8)
    ·rw [if_pos c8] at H
     have c8b0 : (a0.toList == ([80, 76, 65] : List UInt8)) = true := beq_iff_eq.mpr c8
     have c8b1 : (a0.toList != ([80, 76, 65] : List UInt8)) = false := bne_eq_false_iff_eq.mpr c8
     clear c8
     obtain rfl := Option.some.inj H
     go_wp2
     go_ret
     exact ⟨by first | rfl | (simp; done) | (simp [*]; done), by repeat (first | exact Drawn0.refl _ | apply Drawn0.step)⟩
    ·rw [if_neg c8] at H
     have c8b0 : (a0.toList == ([80, 76, 65] : List UInt8)) = false := beq_eq_false_iff_ne.mpr c8
     have c8b1 : (a0.toList != ([80, 76, 65] : List UInt8)) = true := bne_iff_ne.mpr c8
     have HC9 := Aside0.mk H
     clear H
     go_upto_if 13 with (fail)
     go_cut [13] (fun v13 wc => ∃ (kq : Nat) (x13_8 : Bool), v13 = .bool x13_8 ∧ Aside0 (impl_changed.j1 kq a1 a0 x13_8 = some r) ∧ Aside0 (kq ≤ kj2) ∧ Drawn0 w wc)
     case first =>
      have H := HC9.out
      clear HC9
      by_cases c10 : a0.toList = ([76, 68, 88] : List UInt8)
      ·rw [if_pos c10] at H
       have c10b0 : (a0.toList == ([76, 68, 88] : List UInt8)) = true := beq_iff_eq.mpr c10
       have c10b1 : (a0.toList != ([76, 68, 88] : List UInt8)) = false := bne_eq_false_iff_eq.mpr c10
       clear c10
       (first | rw [c10b0] | (simp only [i64_w, i32_w]; rw [c10b0]) | skip)
       have H' := Aside0.mk H
       clear H
       go_wp2
       go_meet
       case rel => exact ⟨_, ((a0.toList == ([76, 68, 88] : List UInt8))), (by first | rfl | (simp; done) | (simp [*]; done)), H', ⟨by have := HJ2.out; first | omega | exact Nat.le_refl _⟩, by repeat (first | exact Drawn0.refl _ | apply Drawn0.step)⟩
      ·rw [if_neg c10] at H
       have c10b0 : (a0.toList == ([76, 68, 88] : List UInt8)) = false := beq_eq_false_iff_ne.mpr c10
       have c10b1 : (a0.toList != ([76, 68, 88] : List UInt8)) = true := bne_iff_ne.mpr c10
       (first | rw [c10b0] | (simp only [i64_w, i32_w]; rw [c10b0]) | skip)
       by_cases c11 : a0.toList = ([73, 78, 88] : List UInt8)
       ·rw [if_pos c11] at H
        have c11b0 : (a0.toList == ([73, 78, 88] : List UInt8)) = true := beq_iff_eq.mpr c11
        have c11b1 : (a0.toList != ([73, 78, 88] : List UInt8)) = false := bne_eq_false_iff_eq.mpr c11
        clear c11
        have H' := Aside0.mk H
        clear H
        go_wp2
        go_meet
        case rel => exact ⟨_, ((a0.toList == ([73, 78, 88] : List UInt8))), (by first | rfl | (simp; done) | (simp [*]; done)), H', ⟨by have := HJ2.out; first | omega | exact Nat.le_refl _⟩, by repeat (first | exact Drawn0.refl _ | apply Drawn0.step)⟩
       ·rw [if_neg c11] at H
        have c11b0 : (a0.toList == ([73, 78, 88] : List UInt8)) = false := beq_eq_false_iff_ne.mpr c11
        have c11b1 : (a0.toList != ([73, 78, 88] : List UInt8)) = true := bne_iff_ne.mpr c11
        by_cases c12 : a0.toList = ([68, 69, 88] : List UInt8)
        ·rw [if_pos c12] at H
         have c12b0 : (a0.toList == ([68, 69, 88] : List UInt8)) = true := beq_iff_eq.mpr c12
         have c12b1 : (a0.toList != ([68, 69, 88] : List UInt8)) = false := bne_eq_false_iff_eq.mpr c12
         clear c12
         have H' := Aside0.mk H
         clear H
         go_wp2
         go_meet
         case rel => exact ⟨_, ((a0.toList == ([68, 69, 88] : List UInt8))), (by first | rfl | (simp; done) | (simp [*]; done)), H', ⟨by have := HJ2.out; first | omega | exact Nat.le_refl _⟩, by repeat (first | exact Drawn0.refl _ | apply Drawn0.step)⟩
        ·rw [if_neg c12] at H
         have c12b0 : (a0.toList == ([68, 69, 88] : List UInt8)) = false := beq_eq_false_iff_ne.mpr c12
         have c12b1 : (a0.toList != ([68, 69, 88] : List UInt8)) = true := bne_iff_ne.mpr c12
         by_cases c13 : a0.toList = ([84, 65, 88] : List UInt8)
         ·rw [if_pos c13] at H
          have c13b0 : (a0.toList == ([84, 65, 88] : List UInt8)) = true := beq_iff_eq.mpr c13
          have c13b1 : (a0.toList != ([84, 65, 88] : List UInt8)) = false := bne_eq_false_iff_eq.mpr c13
          clear c13
          have H' := Aside0.mk H
          clear H
          go_wp2
          go_meet
          case rel => exact ⟨_, ((a0.toList == ([84, 65, 88] : List UInt8))), (by first | rfl | (simp; done) | (simp [*]; done)), H', ⟨by have := HJ2.out; first | omega | exact Nat.le_refl _⟩, by repeat (first | exact Drawn0.refl _ | apply Drawn0.step)⟩
         ·rw [if_neg c13] at H
          have c13b0 : (a0.toList == ([84, 65, 88] : List UInt8)) = false := beq_eq_false_iff_ne.mpr c13
          have c13b1 : (a0.toList != ([84, 65, 88] : List UInt8)) = true := bne_iff_ne.mpr c13
          have H' := Aside0.mk H
          clear H
          go_wp2
          go_meet
          case rel => exact ⟨_, ((a0.toList == ([84, 83, 88] : List UInt8))), (by first | rfl | (simp; done) | (simp [*]; done)), H', ⟨by have := HJ2.out; first | omega | exact Nat.le_refl _⟩, by repeat (first | exact Drawn0.refl _ | apply Drawn0.step)⟩
     case rest =>
      clear HC9
      try clear c1
      try clear c2
      try clear p2
      try clear c4
      try clear c4b0
      try clear c4b1
      try clear c5
      try clear c5b0
      try clear c5b1
      try clear c6
      try clear c6b0
      try clear c6b1
      try clear c7
      try clear c8
      try clear c8b0
      try clear c8b1
      try clear c10
      try clear c10b0
      try clear c10b1
      try clear c11
      try clear c11b0
      try clear c11b1
      try clear c12
      try clear c12b0
      try clear c12b1
      try clear c13
      try clear c13b0
      try clear c13b1
      try clear p2
      obtain ⟨kq, x13_8, rfl, HA, HJ8, ⟨mc8, rfl⟩⟩ := hcut
      cases kq with
      | zero => exact absurd HA.out (by simp [impl_changed.j1])
      | succ kj8 =>
       have H := HA.out
       clear HA
       simp only [impl_changed.j1] at H
       by_cases c14 : x13_8 = true
       ·subst c14
        have H1 : (some (⟨#[88, 78, 90]⟩ : ByteArray)) = some r := by rw [if_pos rfl] at H; exact H
        clear H
        have H := H1
        clear H1
        obtain rfl := Option.some.inj H
        go_wp2
        go_ret
        exact ⟨by first | rfl | (simp; done) | (simp [*]; done), by repeat (first | exact Drawn0.refl _ | apply Drawn0.step)⟩
       ·replace c14 := Bool.eq_false_iff.mpr c14
        subst c14
        have H1 : (if a0.toList = ([76, 68, 89] : List UInt8) then (impl_changed.j2 kj8 a1 a0 (a0.toList == ([76, 68, 89] : List UInt8))) else (if a0.toList = ([73, 78, 89] : List UInt8) then (impl_changed.j2 kj8 a1 a0 (a0.toList == ([73, 78, 89] : List UInt8))) else (if a0.toList = ([68, 69, 89] : List UInt8) then (impl_changed.j2 kj8 a1 a0 (a0.toList == ([68, 69, 89] : List UInt8))) else (impl_changed.j2 kj8 a1 a0 (a0.toList == ([84, 65, 89] : List UInt8)))))) = some r := by rw [if_neg (show ¬ (false = true) by decide)] at H; exact H
        clear H
        have H := H1
        clear H1
        have HC15 := Aside0.mk H
        clear H
        go_upto_if 19 with (fail)
        go_cut [19] (fun v19 wc => ∃ (kq : Nat) (x19_14 : Bool), v19 = .bool x19_14 ∧ Aside0 (impl_changed.j2 kq a1 a0 x19_14 = some r) ∧ Aside0 (kq ≤ kj8) ∧ Drawn0 w wc)
        case first =>
         have H := HC15.out
         clear HC15
         by_cases c16 : a0.toList = ([76, 68, 89] : List UInt8)
         ·rw [if_pos c16] at H
          have c16b0 : (a0.toList == ([76, 68, 89] : List UInt8)) = true := beq_iff_eq.mpr c16
          have c16b1 : (a0.toList != ([76, 68, 89] : List UInt8)) = false := bne_eq_false_iff_eq.mpr c16
          clear c16
          (first | rw [c16b0] | (simp only [i64_w, i32_w]; rw [c16b0]) | skip)
          have H' := Aside0.mk H
          clear H
          go_wp2
          go_meet
          case rel => exact ⟨_, ((a0.toList == ([76, 68, 89] : List UInt8))), (by first | rfl | (simp; done) | (simp [*]; done)), H', ⟨by have := HJ2.out; have := HJ8.out; first | omega | exact Nat.le_refl _⟩, by repeat (first | exact Drawn0.refl _ | apply Drawn0.step)⟩
         ·rw [if_neg c16] at H
          have c16b0 : (a0.toList == ([76, 68, 89] : List UInt8)) = false := beq_eq_false_iff_ne.mpr c16
          have c16b1 : (a0.toList != ([76, 68, 89] : List UInt8)) = true := bne_iff_ne.mpr c16
          (first | rw [c16b0] | (simp only [i64_w, i32_w]; rw [c16b0]) | skip)
          by_cases c17 : a0.toList = ([73, 78, 89] : List UInt8)
          ·rw [if_pos c17] at H
           have c17b0 : (a0.toList == ([73, 78, 89] : List UInt8)) = true := beq_iff_eq.mpr c17
           have c17b1 : (a0.toList != ([73, 78, 89] : List UInt8)) = false := bne_eq_false_iff_eq.mpr c17
           clear c17
           have H' := Aside0.mk H
           clear H
           go_wp2
           go_meet
           case rel => exact ⟨_, ((a0.toList == ([73, 78, 89] : List UInt8))), (by first | rfl | (simp; done) | (simp [*]; done)), H', ⟨by have := HJ2.out; have := HJ8.out; first | omega | exact Nat.le_refl _⟩, by repeat (first | exact Drawn0.refl _ | apply Drawn0.step)⟩
          ·rw [if_neg c17] at H
           have c17b0 : (a0.toList == ([73, 78, 89] : List UInt8)) = false := beq_eq_false_iff_ne.mpr c17
           have c17b1 : (a0.toList != ([73, 78, 89] : List UInt8)) = true := bne_iff_ne.mpr c17
           by_cases c18 : a0.toList = ([68, 69, 89] : List UInt8)
           ·rw [if_pos c18] at H
            have c18b0 : (a0.toList == ([68, 69, 89] : List UInt8)) = true := beq_iff_eq.mpr c18
            have c18b1 : (a0.toList != ([68, 69, 89] : List UInt8)) = false := bne_eq_false_iff_eq.mpr c18
            clear c18
            have H' := Aside0.mk H
            clear H
            go_wp2
            go_meet
            case rel => exact ⟨_, ((a0.toList == ([68, 69, 89] : List UInt8))), (by first | rfl | (simp; done) | (simp [*]; done)), H', ⟨by have := HJ2.out; have := HJ8.out; first | omega | exact Nat.le_refl _⟩, by repeat (first | exact Drawn0.refl _ | apply Drawn0.step)⟩
           ·rw [if_neg c18] at H
            have c18b0 : (a0.toList == ([68, 69, 89] : List UInt8)) = false := beq_eq_false_iff_ne.mpr c18
            have c18b1 : (a0.toList != ([68, 69, 89] : List UInt8)) = true := bne_iff_ne.mpr c18
            have H' := Aside0.mk H
            clear H
            go_wp2
            go_meet
            case rel => exact ⟨_, ((a0.toList == ([84, 65, 89] : List UInt8))), (by first | rfl | (simp; done) | (simp [*]; done)), H', ⟨by have := HJ2.out; have := HJ8.out; first | omega | exact Nat.le_refl _⟩, by repeat (first | exact Drawn0.refl _ | apply Drawn0.step)⟩
        case rest =>
         clear HC15
         try clear c1
         try clear c2
         try clear p2
         try clear c4
         try clear c4b0
         try clear c4b1
         try clear c5
         try clear c5b0
         try clear c5b1
         try clear c6
         try clear c6b0
         try clear c6b1
         try clear c7
         try clear c8
         try clear c8b0
         try clear c8b1
         try clear c10
         try clear c10b0
         try clear c10b1
         try clear c11
         try clear c11b0
         try clear c11b1
         try clear c12
         try clear c12b0
         try clear c12b1
         try clear c13
         try clear c13b0
         try clear c13b1
         try clear c14
         try clear c16
         try clear c16b0
         try clear c16b1
         try clear c17
         try clear c17b0
         try clear c17b1
         try clear c18
         try clear c18b0
         try clear c18b1
         try clear p2
         obtain ⟨kq, x19_14, rfl, HA, HJ14, ⟨mc14, rfl⟩⟩ := hcut
         cases kq with
         | zero => exact absurd HA.out (by simp [impl_changed.j2])
         | succ kj14 =>
          have H := HA.out
          clear HA
          simp only [impl_changed.j2] at H
          by_cases c19 : x19_14 = true
          ·subst c19
           have H1 : (some (⟨#[89, 78, 90]⟩ : ByteArray)) = some r := by rw [if_pos rfl] at H; exact H
           clear H
           have H := H1
           clear H1
           obtain rfl := Option.some.inj H
           go_wp2
           go_ret
           exact ⟨by first | rfl | (simp; done) | (simp [*]; done), by repeat (first | exact Drawn0.refl _ | apply Drawn0.step)⟩
          ·replace c19 := Bool.eq_false_iff.mpr c19
           subst c19
           have H1 : (if a0.toList = ([84, 88, 65] : List UInt8) then (impl_changed.j3 kj14 a1 a0 (a0.toList == ([84, 88, 65] : List UInt8))) else (impl_changed.j3 kj14 a1 a0 (a0.toList == ([84, 89, 65] : List UInt8)))) = some r := by rw [if_neg (show ¬ (false = true) by decide)] at H; exact H
           clear H
           have H := H1
           clear H1
           have HC20 := Aside0.mk H
           clear H
           go_upto_if 24 with (fail)
           go_cut [24] (fun v24 wc => ∃ (kq : Nat) (x24_19 : Bool), v24 = .bool x24_19 ∧ Aside0 (impl_changed.j3 kq a1 a0 x24_19 = some r) ∧ Aside0 (kq ≤ kj14) ∧ Drawn0 w wc)
           case first =>
            have H := HC20.out
            clear HC20
            by_cases c21 : a0.toList = ([84, 88, 65] : List UInt8)
            ·rw [if_pos c21] at H
             have c21b0 : (a0.toList == ([84, 88, 65] : List UInt8)) = true := beq_iff_eq.mpr c21
             have c21b1 : (a0.toList != ([84, 88, 65] : List UInt8)) = false := bne_eq_false_iff_eq.mpr c21
             clear c21
             (first | rw [c21b0] | (simp only [i64_w, i32_w]; rw [c21b0]) | skip)
             have H' := Aside0.mk H
             clear H
             go_wp2
             go_meet
             case rel => exact ⟨_, ((a0.toList == ([84, 88, 65] : List UInt8))), (by first | rfl | (simp; done) | (simp [*]; done)), H', ⟨by have := HJ2.out; have := HJ8.out; have := HJ14.out; first | omega | exact Nat.le_refl _⟩, by repeat (first | exact Drawn0.refl _ | apply Drawn0.step)⟩
            ·rw [if_neg c21] at H
             have c21b0 : (a0.toList == ([84, 88, 65] : List UInt8)) = false := beq_eq_false_iff_ne.mpr c21
             have c21b1 : (a0.toList != ([84, 88, 65] : List UInt8)) = true := bne_iff_ne.mpr c21
             (first | rw [c21b0] | (simp only [i64_w, i32_w]; rw [c21b0]) | skip)
             have H' := Aside0.mk H
             clear H
             go_wp2
             go_meet
             case rel => exact ⟨_, ((a0.toList == ([84, 89, 65] : List UInt8))), (by first | rfl | (simp; done) | (simp [*]; done)), H', ⟨by have := HJ2.out; have := HJ8.out; have := HJ14.out; first | omega | exact Nat.le_refl _⟩, by repeat (first | exact Drawn0.refl _ | apply Drawn0.step)⟩
           case rest =>
            clear HC20
            try clear c1
            try clear c2
            try clear p2
            try clear c4
            try clear c4b0
            try clear c4b1
            try clear c5
            try clear c5b0
            try clear c5b1
            try clear c6
            try clear c6b0
            try clear c6b1
            try clear c7
            try clear c8
            try clear c8b0
            try clear c8b1
            try clear c10
            try clear c10b0
            try clear c10b1
            try clear c11
            try clear c11b0
            try clear c11b1
            try clear c12
            try clear c12b0
            try clear c12b1
            try clear c13
            try clear c13b0
            try clear c13b1
            try clear c14
            try clear c16
            try clear c16b0
            try clear c16b1
            try clear c17
            try clear c17b0
            try clear c17b1
            try clear c18
            try clear c18b0
            try clear c18b1
            try clear c19
            try clear c21
            try clear c21b0
            try clear c21b1
            try clear p2
            obtain ⟨kq, x24_19, rfl, HA, HJ19, ⟨mc19, rfl⟩⟩ := hcut
            cases kq with
            | zero => exact absurd HA.out (by simp [impl_changed.j3])
            | succ kj19 =>
             have H := HA.out
             clear HA
             simp only [impl_changed.j3] at H
             by_cases c22 : x24_19 = true
             ·subst c22
              have H1 : (some (⟨#[65, 78, 90]⟩ : ByteArray)) = some r := by rw [if_pos rfl] at H; exact H
              clear H
              have H := H1
              clear H1
              obtain rfl := Option.some.inj H
              go_wp2
              go_ret
              exact ⟨by first | rfl | (simp; done) | (simp [*]; done), by repeat (first | exact Drawn0.refl _ | apply Drawn0.step)⟩
             ·replace c22 := Bool.eq_false_iff.mpr c22
              subst c22
              have H1 : (if a0.toList = ([65, 68, 67] : List UInt8) then (impl_changed.j4 kj19 a1 a0 (a0.toList == ([65, 68, 67] : List UInt8))) else (impl_changed.j4 kj19 a1 a0 (a0.toList == ([83, 66, 67] : List UInt8)))) = some r := by rw [if_neg (show ¬ (false = true) by decide)] at H; exact H
              clear H
              have H := H1
              clear H1
              have HC23 := Aside0.mk H
              clear H
              go_upto_if 27 with (fail)
              go_cut [27] (fun v27 wc => ∃ (kq : Nat) (x27_22 : Bool), v27 = .bool x27_22 ∧ Aside0 (impl_changed.j4 kq a1 a0 x27_22 = some r) ∧ Aside0 (kq ≤ kj19) ∧ Drawn0 w wc)
              case first =>
               have H := HC23.out
               clear HC23
               by_cases c24 : a0.toList = ([65, 68, 67] : List UInt8)
               ·rw [if_pos c24] at H
                have c24b0 : (a0.toList == ([65, 68, 67] : List UInt8)) = true := beq_iff_eq.mpr c24
                have c24b1 : (a0.toList != ([65, 68, 67] : List UInt8)) = false := bne_eq_false_iff_eq.mpr c24
                clear c24
                (first | rw [c24b0] | (simp only [i64_w, i32_w]; rw [c24b0]) | skip)
                have H' := Aside0.mk H
                clear H
                go_wp2
                go_meet
                case rel => exact ⟨_, ((a0.toList == ([65, 68, 67] : List UInt8))), (by first | rfl | (simp; done) | (simp [*]; done)), H', ⟨by have := HJ2.out; have := HJ8.out; have := HJ14.out; have := HJ19.out; first | omega | exact Nat.le_refl _⟩, by repeat (first | exact Drawn0.refl _ | apply Drawn0.step)⟩
               ·rw [if_neg c24] at H
                have c24b0 : (a0.toList == ([65, 68, 67] : List UInt8)) = false := beq_eq_false_iff_ne.mpr c24
                have c24b1 : (a0.toList != ([65, 68, 67] : List UInt8)) = true := bne_iff_ne.mpr c24
                (first | rw [c24b0] | (simp only [i64_w, i32_w]; rw [c24b0]) | skip)
                have H' := Aside0.mk H
                clear H
                go_wp2
                go_meet
                case rel => exact ⟨_, ((a0.toList == ([83, 66, 67] : List UInt8))), (by first | rfl | (simp; done) | (simp [*]; done)), H', ⟨by have := HJ2.out; have := HJ8.out; have := HJ14.out; have := HJ19.out; first | omega | exact Nat.le_refl _⟩, by repeat (first | exact Drawn0.refl _ | apply Drawn0.step)⟩
              case rest =>
               clear HC23
               try clear c1
               try clear c2
               try clear p2
               try clear c4
               try clear c4b0
               try clear c4b1
               try clear c5
               try clear c5b0
               try clear c5b1
               try clear c6
               try clear c6b0
               try clear c6b1
               try clear c7
               try clear c8
               try clear c8b0
               try clear c8b1
               try clear c10
               try clear c10b0
               try clear c10b1
               try clear c11
               try clear c11b0
               try clear c11b1
               try clear c12
               try clear c12b0
               try clear c12b1
               try clear c13
               try clear c13b0
               try clear c13b1
               try clear c14
               try clear c16
               try clear c16b0
               try clear c16b1
               try clear c17
               try clear c17b0
               try clear c17b1
               try clear c18
               try clear c18b0
               try clear c18b1
               try clear c19
               try clear c21
               try clear c21b0
               try clear c21b1
               try clear c22
               try clear c24
               try clear c24b0
               try clear c24b1
               try clear p2
               obtain ⟨kq, x27_22, rfl, HA, HJ22, ⟨mc22, rfl⟩⟩ := hcut
               cases kq with
               | zero => exact absurd HA.out (by simp [impl_changed.j4])
               | succ kj22 =>
                have H := HA.out
                clear HA
                simp only [impl_changed.j4] at H
                by_cases c25 : x27_22 = true
                ·subst c25
                 have H1 : (some (⟨#[65, 78, 86, 90, 67]⟩ : ByteArray)) = some r := by rw [if_pos rfl] at H; exact H
                 clear H
                 have H := H1
                 clear H1
                 obtain rfl := Option.some.inj H
                 go_wp2
                 go_ret
                 exact ⟨by first | rfl | (simp; done) | (simp [*]; done), by repeat (first | exact Drawn0.refl _ | apply Drawn0.step)⟩
                ·replace c25 := Bool.eq_false_iff.mpr c25
                 subst c25
                 have H1 : (if a0.toList = ([67, 77, 80] : List UInt8) then (impl_changed.j5 kj22 a1 a0 (a0.toList == ([67, 77, 80] : List UInt8))) else (if a0.toList = ([67, 80, 88] : List UInt8) then (impl_changed.j5 kj22 a1 a0 (a0.toList == ([67, 80, 88] : List UInt8))) else (impl_changed.j5 kj22 a1 a0 (a0.toList == ([67, 80, 89] : List UInt8))))) = some r := by rw [if_neg (show ¬ (false = true) by decide)] at H; exact H
                 clear H
                 have H := H1
                 clear H1
                 have HC26 := Aside0.mk H
                 clear H
                 go_upto_if 30 with (fail)
                 go_cut [30] (fun v30 wc => ∃ (kq : Nat) (x30_25 : Bool), v30 = .bool x30_25 ∧ Aside0 (impl_changed.j5 kq a1 a0 x30_25 = some r) ∧ Aside0 (kq ≤ kj22) ∧ Drawn0 w wc)
                 case first =>
                  have H := HC26.out
                  clear HC26
                  by_cases c27 : a0.toList = ([67, 77, 80] : List UInt8)
                  ·rw [if_pos c27] at H
                   have c27b0 : (a0.toList == ([67, 77, 80] : List UInt8)) = true := beq_iff_eq.mpr c27
                   have c27b1 : (a0.toList != ([67, 77, 80] : List UInt8)) = false := bne_eq_false_iff_eq.mpr c27
                   clear c27
                   (first | rw [c27b0] | (simp only [i64_w, i32_w]; rw [c27b0]) | skip)
                   have H' := Aside0.mk H
                   clear H
                   go_wp2
                   go_meet
                   case rel => exact ⟨_, ((a0.toList == ([67, 77, 80] : List UInt8))), (by first | rfl | (simp; done) | (simp [*]; done)), H', ⟨by have := HJ2.out; have := HJ8.out; have := HJ14.out; have := HJ19.out; have := HJ22.out; first | omega | exact Nat.le_refl _⟩, by repeat (first | exact Drawn0.refl _ | apply Drawn0.step)⟩
                  ·rw [if_neg c27] at H
                   have c27b0 : (a0.toList == ([67, 77, 80] : List UInt8)) = false := beq_eq_false_iff_ne.mpr c27
                   have c27b1 : (a0.toList != ([67, 77, 80] : List UInt8)) = true := bne_iff_ne.mpr c27
                   (first | rw [c27b0] | (simp only [i64_w, i32_w]; rw [c27b0]) | skip)
                   by_cases c28 : a0.toList = ([67, 80, 88] : List UInt8)
                   ·rw [if_pos c28] at H
                    have c28b0 : (a0.toList == ([67, 80, 88] : List UInt8)) = true := beq_iff_eq.mpr c28
                    have c28b1 : (a0.toList != ([67, 80, 88] : List UInt8)) = false := bne_eq_false_iff_eq.mpr c28
                    clear c28
                    have H' := Aside0.mk H
                    clear H
                    go_wp2
                    go_meet
                    case rel => exact ⟨_, ((a0.toList == ([67, 80, 88] : List UInt8))), (by first | rfl | (simp; done) | (simp [*]; done)), H', ⟨by have := HJ2.out; have := HJ8.out; have := HJ14.out; have := HJ19.out; have := HJ22.out; first | omega | exact Nat.le_refl _⟩, by repeat (first | exact Drawn0.refl _ | apply Drawn0.step)⟩
                   ·rw [if_neg c28] at H
                    have c28b0 : (a0.toList == ([67, 80, 88] : List UInt8)) = false := beq_eq_false_iff_ne.mpr c28
                    have c28b1 : (a0.toList != ([67, 80, 88] : List UInt8)) = true := bne_iff_ne.mpr c28
                    have H' := Aside0.mk H
                    clear H
                    go_wp2
                    go_meet
                    case rel => exact ⟨_, ((a0.toList == ([67, 80, 89] : List UInt8))), (by first | rfl | (simp; done) | (simp [*]; done)), H', ⟨by have := HJ2.out; have := HJ8.out; have := HJ14.out; have := HJ19.out; have := HJ22.out; first | omega | exact Nat.le_refl _⟩, by repeat (first | exact Drawn0.refl _ | apply Drawn0.step)⟩
                 case rest =>
                  clear HC26
                  try clear c1
                  try clear c2
                  try clear p2
                  try clear c4
                  try clear c4b0
                  try clear c4b1
                  try clear c5
                  try clear c5b0
                  try clear c5b1
                  try clear c6
                  try clear c6b0
                  try clear c6b1
                  try clear c7
                  try clear c8
                  try clear c8b0
                  try clear c8b1
                  try clear c10
                  try clear c10b0
                  try clear c10b1
                  try clear c11
                  try clear c11b0
                  try clear c11b1
                  try clear c12
                  try clear c12b0
                  try clear c12b1
                  try clear c13
                  try clear c13b0
                  try clear c13b1
                  try clear c14
                  try clear c16
                  try clear c16b0
                  try clear c16b1
                  try clear c17
                  try clear c17b0
                  try clear c17b1
                  try clear c18
                  try clear c18b0
                  try clear c18b1
                  try clear c19
                  try clear c21
                  try clear c21b0
                  try clear c21b1
                  try clear c22
                  try clear c24
                  try clear c24b0
                  try clear c24b1
                  try clear c25
                  try clear c27
                  try clear c27b0
                  try clear c27b1
                  try clear c28
                  try clear c28b0
                  try clear c28b1
                  try clear p2
                  obtain ⟨kq, x30_25, rfl, HA, HJ25, ⟨mc25, rfl⟩⟩ := hcut
                  cases kq with
                  | zero => exact absurd HA.out (by simp [impl_changed.j5])
                  | succ kj25 =>
                   have H := HA.out
                   clear HA
                   simp only [impl_changed.j5] at H
                   by_cases c29 : x30_25 = true
                   ·subst c29
                    have H1 : (some (⟨#[78, 90, 67]⟩ : ByteArray)) = some r := by rw [if_pos rfl] at H; exact H
                    clear H
                    have H := H1
                    clear H1
                    obtain rfl := Option.some.inj H
                    go_wp2
                    go_ret
                    exact ⟨by first | rfl | (simp; done) | (simp [*]; done), by repeat (first | exact Drawn0.refl _ | apply Drawn0.step)⟩
                   ·replace c29 := Bool.eq_false_iff.mpr c29
                    subst c29
                    have H1 : (if a0.toList = ([66, 73, 84] : List UInt8) then (some (⟨#[78, 86, 90]⟩ : ByteArray)) else (if a0.toList = ([73, 78, 67] : List UInt8) then (impl_changed.j6 kj25 a1 a0 (a0.toList == ([73, 78, 67] : List UInt8))) else (impl_changed.j6 kj25 a1 a0 (a0.toList == ([68, 69, 67] : List UInt8))))) = some r := by rw [if_neg (show ¬ (false = true) by decide)] at H; exact H
                    clear H
                    have H := H1
                    clear H1
                    by_cases c30 : a0.toList = ([66, 73, 84] : List UInt8)
                    ·rw [if_pos c30] at H
                     have c30b0 : (a0.toList == ([66, 73, 84] : List UInt8)) = true := beq_iff_eq.mpr c30
                     have c30b1 : (a0.toList != ([66, 73, 84] : List UInt8)) = false := bne_eq_false_iff_eq.mpr c30
                     clear c30
                     obtain rfl := Option.some.inj H
                     go_wp2
                     go_ret
                     exact ⟨by first | rfl | (simp; done) | (simp [*]; done), by repeat (first | exact Drawn0.refl _ | apply Drawn0.step)⟩
                    ·rw [if_neg c30] at H
                     have c30b0 : (a0.toList == ([66, 73, 84] : List UInt8)) = false := beq_eq_false_iff_ne.mpr c30
                     have c30b1 : (a0.toList != ([66, 73, 84] : List UInt8)) = true := bne_iff_ne.mpr c30
                     have HC31 := Aside0.mk H
                     clear H
                     go_upto_if 36 with (fail)
                     go_cut [36] (fun v36 wc => ∃ (kq : Nat) (x36_30 : Bool), v36 = .bool x36_30 ∧ Aside0 (impl_changed.j6 kq a1 a0 x36_30 = some r) ∧ Aside0 (kq ≤ kj25) ∧ Drawn0 w wc)
                     case first =>
                      have H := HC31.out
                      clear HC31
                      by_cases c32 : a0.toList = ([73, 78, 67] : List UInt8)
                      ·rw [if_pos c32] at H
                       have c32b0 : (a0.toList == ([73, 78, 67] : List UInt8)) = true := beq_iff_eq.mpr c32
                       have c32b1 : (a0.toList != ([73, 78, 67] : List UInt8)) = false := bne_eq_false_iff_eq.mpr c32
                       clear c32
                       (first | rw [c32b0] | (simp only [i64_w, i32_w]; rw [c32b0]) | skip)
                       have H' := Aside0.mk H
                       clear H
                       go_wp2
                       go_meet
                       case rel => exact ⟨_, ((a0.toList == ([73, 78, 67] : List UInt8))), (by first | rfl | (simp; done) | (simp [*]; done)), H', ⟨by have := HJ2.out; have := HJ8.out; have := HJ14.out; have := HJ19.out; have := HJ22.out; have := HJ25.out; first | omega | exact Nat.le_refl _⟩, by repeat (first | exact Drawn0.refl _ | apply Drawn0.step)⟩
                      ·rw [if_neg c32] at H
                       have c32b0 : (a0.toList == ([73, 78, 67] : List UInt8)) = false := beq_eq_false_iff_ne.mpr c32
                       have c32b1 : (a0.toList != ([73, 78, 67] : List UInt8)) = true := bne_iff_ne.mpr c32
                       (first | rw [c32b0] | (simp only [i64_w, i32_w]; rw [c32b0]) | skip)
                       have H' := Aside0.mk H
                       clear H
                       go_wp2
                       go_meet
                       case rel => exact ⟨_, ((a0.toList == ([68, 69, 67] : List UInt8))), (by first | rfl | (simp; done) | (simp [*]; done)), H', ⟨by have := HJ2.out; have := HJ8.out; have := HJ14.out; have := HJ19.out; have := HJ22.out; have := HJ25.out; first | omega | exact Nat.le_refl _⟩, by repeat (first | exact Drawn0.refl _ | apply Drawn0.step)⟩
                     case rest =>
                      clear HC31
                      try clear c1
                      try clear c2
                      try clear p2
                      try clear c3
                      try clear c4
                      try clear c4b0
                      try clear c4b1
                      try clear c5
                      try clear c5b0
                      try clear c5b1
                      try clear c6
                      try clear c6b0
                      try clear c6b1
                      try clear c7
                      try clear c8
                      try clear c8b0
                      try clear c8b1
                      try clear c10
                      try clear c10b0
                      try clear c10b1
                      try clear c11
                      try clear c11b0
                      try clear c11b1
                      try clear c12
                      try clear c12b0
                      try clear c12b1
                      try clear c13
                      try clear c13b0
                      try clear c13b1
                      try clear c14
                      try clear c16
                      try clear c16b0
                      try clear c16b1
                      try clear c17
                      try clear c17b0
                      try clear c17b1
                      try clear c18
                      try clear c18b0
                      try clear c18b1
                      try clear c19
                      try clear c21
                      try clear c21b0
                      try clear c21b1
                      try clear c22
                      try clear c24
                      try clear c24b0
                      try clear c24b1
                      try clear c25
                      try clear c27
                      try clear c27b0
                      try clear c27b1
                      try clear c28
                      try clear c28b0
                      try clear c28b1
                      try clear c29
                      try clear c30
                      try clear c30b0
                      try clear c30b1
                      try clear c32
                      try clear c32b0
                      try clear c32b1
                      try clear p2
                      obtain ⟨kq, x36_30, rfl, HA, HJ30, ⟨mc30, rfl⟩⟩ := hcut
                      cases kq with
                      | zero => exact absurd HA.out (by simp [impl_changed.j6])
                      | succ kj30 =>
                       have H := HA.out
                       clear HA
                       simp only [impl_changed.j6] at H
                       by_cases c33 : x36_30 = true
                       ·subst c33
                        have H1 : (some (⟨#[78, 90]⟩ : ByteArray)) = some r := by rw [if_pos rfl] at H; exact H
                        clear H
                        have H := H1
                        clear H1
                        obtain rfl := Option.some.inj H
                        go_wp2
                        go_ret
                        exact ⟨by first | rfl | (simp; done) | (simp [*]; done), by repeat (first | exact Drawn0.refl _ | apply Drawn0.step)⟩
                       ·replace c33 := Bool.eq_false_iff.mpr c33
                        subst c33
                        have H1 : (if a0.toList = ([65, 83, 76] : List UInt8) then (impl_changed.j7 kj30 a1 a0 (a0.toList == ([65, 83, 76] : List UInt8))) else (if a0.toList = ([76, 83, 82] : List UInt8) then (impl_changed.j7 kj30 a1 a0 (a0.toList == ([76, 83, 82] : List UInt8))) else (if a0.toList = ([82, 79, 76] : List UInt8) then (impl_changed.j7 kj30 a1 a0 (a0.toList == ([82, 79, 76] : List UInt8))) else (impl_changed.j7 kj30 a1 a0 (a0.toList == ([82, 79, 82] : List UInt8)))))) = some r := by rw [if_neg (show ¬ (false = true) by decide)] at H; exact H
                        clear H
                        have H := H1
                        clear H1
                        have HC34 := Aside0.mk H
                        clear H
                        go_upto_if 39 with (fail)
                        go_cut [39] (fun v39 wc => ∃ (kq : Nat) (x39_33 : Bool), v39 = .bool x39_33 ∧ Aside0 (impl_changed.j7 kq a1 a0 x39_33 = some r) ∧ Aside0 (kq ≤ kj30) ∧ Drawn0 w wc)
                        case first =>
                         have H := HC34.out
                         clear HC34
                         by_cases c35 : a0.toList = ([65, 83, 76] : List UInt8)
                         ·rw [if_pos c35] at H
                          have c35b0 : (a0.toList == ([65, 83, 76] : List UInt8)) = true := beq_iff_eq.mpr c35
                          have c35b1 : (a0.toList != ([65, 83, 76] : List UInt8)) = false := bne_eq_false_iff_eq.mpr c35
                          clear c35
                          (first | rw [c35b0] | (simp only [i64_w, i32_w]; rw [c35b0]) | skip)
                          have H' := Aside0.mk H
                          clear H
                          go_wp2
                          go_meet
                          case rel => exact ⟨_, ((a0.toList == ([65, 83, 76] : List UInt8))), (by first | rfl | (simp; done) | (simp [*]; done)), H', ⟨by have := HJ2.out; have := HJ8.out; have := HJ14.out; have := HJ19.out; have := HJ22.out; have := HJ25.out; have := HJ30.out; first | omega | exact Nat.le_refl _⟩, by repeat (first | exact Drawn0.refl _ | apply Drawn0.step)⟩
                         ·rw [if_neg c35] at H
                          have c35b0 : (a0.toList == ([65, 83, 76] : List UInt8)) = false := beq_eq_false_iff_ne.mpr c35
                          have c35b1 : (a0.toList != ([65, 83, 76] : List UInt8)) = true := bne_iff_ne.mpr c35
                          (first | rw [c35b0] | (simp only [i64_w, i32_w]; rw [c35b0]) | skip)
                          by_cases c36 : a0.toList = ([76, 83, 82] : List UInt8)
                          ·rw [if_pos c36] at H
                           have c36b0 : (a0.toList == ([76, 83, 82] : List UInt8)) = true := beq_iff_eq.mpr c36
                           have c36b1 : (a0.toList != ([76, 83, 82] : List UInt8)) = false := bne_eq_false_iff_eq.mpr c36
                           clear c36
                           have H' := Aside0.mk H
                           clear H
                           go_wp2
                           go_meet
                           case rel => exact ⟨_, ((a0.toList == ([76, 83, 82] : List UInt8))), (by first | rfl | (simp; done) | (simp [*]; done)), H', ⟨by have := HJ2.out; have := HJ8.out; have := HJ14.out; have := HJ19.out; have := HJ22.out; have := HJ25.out; have := HJ30.out; first | omega | exact Nat.le_refl _⟩, by repeat (first | exact Drawn0.refl _ | apply Drawn0.step)⟩
                          ·rw [if_neg c36] at H
                           have c36b0 : (a0.toList == ([76, 83, 82] : List UInt8)) = false := beq_eq_false_iff_ne.mpr c36
                           have c36b1 : (a0.toList != ([76, 83, 82] : List UInt8)) = true := bne_iff_ne.mpr c36
                           by_cases c37 : a0.toList = ([82, 79, 76] : List UInt8)
                           ·rw [if_pos c37] at H
                            have c37b0 : (a0.toList == ([82, 79, 76] : List UInt8)) = true := beq_iff_eq.mpr c37
                            have c37b1 : (a0.toList != ([82, 79, 76] : List UInt8)) = false := bne_eq_false_iff_eq.mpr c37
                            clear c37
                            have H' := Aside0.mk H
                            clear H
                            go_wp2
                            go_meet
                            case rel => exact ⟨_, ((a0.toList == ([82, 79, 76] : List UInt8))), (by first | rfl | (simp; done) | (simp [*]; done)), H', ⟨by have := HJ2.out; have := HJ8.out; have := HJ14.out; have := HJ19.out; have := HJ22.out; have := HJ25.out; have := HJ30.out; first | omega | exact Nat.le_refl _⟩, by repeat (first | exact Drawn0.refl _ | apply Drawn0.step)⟩
                           ·rw [if_neg c37] at H
                            have c37b0 : (a0.toList == ([82, 79, 76] : List UInt8)) = false := beq_eq_false_iff_ne.mpr c37
                            have c37b1 : (a0.toList != ([82, 79, 76] : List UInt8)) = true := bne_iff_ne.mpr c37
                            have H' := Aside0.mk H
                            clear H
                            go_wp2
                            go_meet
                            case rel => exact ⟨_, ((a0.toList == ([82, 79, 82] : List UInt8))), (by first | rfl | (simp; done) | (simp [*]; done)), H', ⟨by have := HJ2.out; have := HJ8.out; have := HJ14.out; have := HJ19.out; have := HJ22.out; have := HJ25.out; have := HJ30.out; first | omega | exact Nat.le_refl _⟩, by repeat (first | exact Drawn0.refl _ | apply Drawn0.step)⟩
                        case rest =>
                         clear HC34
                         try clear c1
                         try clear c2
                         try clear p2
                         try clear c3
                         try clear c4
                         try clear c4b0
                         try clear c4b1
                         try clear c5
                         try clear c5b0
                         try clear c5b1
                         try clear c6
                         try clear c6b0
                         try clear c6b1
                         try clear c7
                         try clear c8
                         try clear c8b0
                         try clear c8b1
                         try clear c10
                         try clear c10b0
                         try clear c10b1
                         try clear c11
                         try clear c11b0
                         try clear c11b1
                         try clear c12
                         try clear c12b0
                         try clear c12b1
                         try clear c13
                         try clear c13b0
                         try clear c13b1
                         try clear c14
                         try clear c16
                         try clear c16b0
                         try clear c16b1
                         try clear c17
                         try clear c17b0
                         try clear c17b1
                         try clear c18
                         try clear c18b0
                         try clear c18b1
                         try clear c19
                         try clear c21
                         try clear c21b0
                         try clear c21b1
                         try clear c22
                         try clear c24
                         try clear c24b0
                         try clear c24b1
                         try clear c25
                         try clear c27
                         try clear c27b0
                         try clear c27b1
                         try clear c28
                         try clear c28b0
                         try clear c28b1
                         try clear c29
                         try clear c30
                         try clear c30b0
                         try clear c30b1
                         try clear c32
                         try clear c32b0
                         try clear c32b1
                         try clear c33
                         try clear c35
                         try clear c35b0
                         try clear c35b1
                         try clear c36
                         try clear c36b0
                         try clear c36b1
                         try clear c37
                         try clear c37b0
                         try clear c37b1
                         try clear p2
                         obtain ⟨kq, x39_33, rfl, HA, HJ33, ⟨mc33, rfl⟩⟩ := hcut
                         cases kq with
                         | zero => exact absurd HA.out (by simp [impl_changed.j7])
                         | succ kj33 =>
                          have H := HA.out
                          clear HA
                          simp only [impl_changed.j7] at H
                          by_cases c38 : x39_33 = true
                          ·subst c38
                           have H1 : (if a1 = 1 then (some (⟨#[65, 78, 90, 67]⟩ : ByteArray)) else (some (⟨#[78, 90, 67]⟩ : ByteArray))) = some r := by rw [if_pos rfl] at H; exact H
                           clear H
                           have H := H1
                           clear H1
                           by_cases c39 : a1 = 1
                           ·rw [if_pos c39] at H
                            have c39b0 : (a1 == 1) = true := beq_iff_eq.mpr c39
                            have c39b1 : (a1 != 1) = false := bne_eq_false_iff_eq.mpr c39
                            clear c39
                            obtain rfl := Option.some.inj H
                            go_wp2
                            go_ret
                            exact ⟨by first | rfl | (simp; done) | (simp [*]; done), by repeat (first | exact Drawn0.refl _ | apply Drawn0.step)⟩
                           ·rw [if_neg c39] at H
                            have c39b0 : (a1 == 1) = false := beq_eq_false_iff_ne.mpr c39
                            have c39b1 : (a1 != 1) = true := bne_iff_ne.mpr c39
                            obtain rfl := Option.some.inj H
                            go_wp2
                            go_ret
                            exact ⟨by first | rfl | (simp; done) | (simp [*]; done), by repeat (first | exact Drawn0.refl _ | apply Drawn0.step)⟩
                          ·replace c38 := Bool.eq_false_iff.mpr c38
                           subst c38
                           have H1 : (if a0.toList = ([84, 88, 83] : List UInt8) then (impl_changed.j8 kj33 a0 (a0.toList == ([84, 88, 83] : List UInt8))) else (if a0.toList = ([74, 83, 82] : List UInt8) then (impl_changed.j8 kj33 a0 (a0.toList == ([74, 83, 82] : List UInt8))) else (if a0.toList = ([82, 84, 83] : List UInt8) then (impl_changed.j8 kj33 a0 (a0.toList == ([82, 84, 83] : List UInt8))) else (if a0.toList = ([80, 72, 65] : List UInt8) then (impl_changed.j8 kj33 a0 (a0.toList == ([80, 72, 65] : List UInt8))) else (impl_changed.j8 kj33 a0 (a0.toList == ([80, 72, 80] : List UInt8))))))) = some r := by rw [if_neg (show ¬ (false = true) by decide)] at H; exact H
                           clear H
                           have H := H1
                           clear H1
                           have HC40 := Aside0.mk H
                           clear H
                           go_upto_if 46 with (fail)
                           go_cut [46] (fun v46 wc => ∃ (kq : Nat) (x46_39 : Bool), v46 = .bool x46_39 ∧ Aside0 (impl_changed.j8 kq a0 x46_39 = some r) ∧ Aside0 (kq ≤ kj33) ∧ Drawn0 w wc)
                           case first =>
                            have H := HC40.out
                            clear HC40
                            by_cases c41 : a0.toList = ([84, 88, 83] : List UInt8)
                            ·rw [if_pos c41] at H
                             have c41b0 : (a0.toList == ([84, 88, 83] : List UInt8)) = true := beq_iff_eq.mpr c41
                             have c41b1 : (a0.toList != ([84, 88, 83] : List UInt8)) = false := bne_eq_false_iff_eq.mpr c41
                             clear c41
                             (first | rw [c41b0] | (simp only [i64_w, i32_w]; rw [c41b0]) | skip)
                             have H' := Aside0.mk H
                             clear H
                             go_wp2
                             go_meet
                             case rel => exact ⟨_, ((a0.toList == ([84, 88, 83] : List UInt8))), (by first | rfl | (simp; done) | (simp [*]; done)), H', ⟨by have := HJ2.out; have := HJ8.out; have := HJ14.out; have := HJ19.out; have := HJ22.out; have := HJ25.out; have := HJ30.out; have := HJ33.out; first | omega | exact Nat.le_refl _⟩, by repeat (first | exact Drawn0.refl _ | apply Drawn0.step)⟩
                            ·rw [if_neg c41] at H
                             have c41b0 : (a0.toList == ([84, 88, 83] : List UInt8)) = false := beq_eq_false_iff_ne.mpr c41
                             have c41b1 : (a0.toList != ([84, 88, 83] : List UInt8)) = true := bne_iff_ne.mpr c41
                             (first | rw [c41b0] | (simp only [i64_w, i32_w]; rw [c41b0]) | skip)
                             by_cases c42 : a0.toList = ([74, 83, 82] : List UInt8)
                             ·rw [if_pos c42] at H
                              have c42b0 : (a0.toList == ([74, 83, 82] : List UInt8)) = true := beq_iff_eq.mpr c42
                              have c42b1 : (a0.toList != ([74, 83, 82] : List UInt8)) = false := bne_eq_false_iff_eq.mpr c42
                              clear c42
                              have H' := Aside0.mk H
                              clear H
                              go_wp2
                              go_meet
                              case rel => exact ⟨_, ((a0.toList == ([74, 83, 82] : List UInt8))), (by first | rfl | (simp; done) | (simp [*]; done)), H', ⟨by have := HJ2.out; have := HJ8.out; have := HJ14.out; have := HJ19.out; have := HJ22.out; have := HJ25.out; have := HJ30.out; have := HJ33.out; first | omega | exact Nat.le_refl _⟩, by repeat (first | exact Drawn0.refl _ | apply Drawn0.step)⟩
                             ·rw [if_neg c42] at H
                              have c42b0 : (a0.toList == ([74, 83, 82] : List UInt8)) = false := beq_eq_false_iff_ne.mpr c42
                              have c42b1 : (a0.toList != ([74, 83, 82] : List UInt8)) = true := bne_iff_ne.mpr c42
                              by_cases c43 : a0.toList = ([82, 84, 83] : List UInt8)
                              ·rw [if_pos c43] at H
                               have c43b0 : (a0.toList == ([82, 84, 83] : List UInt8)) = true := beq_iff_eq.mpr c43
                               have c43b1 : (a0.toList != ([82, 84, 83] : List UInt8)) = false := bne_eq_false_iff_eq.mpr c43
                               clear c43
                               have H' := Aside0.mk H
                               clear H
                               go_wp2
                               go_meet
                               case rel => exact ⟨_, ((a0.toList == ([82, 84, 83] : List UInt8))), (by first | rfl | (simp; done) | (simp [*]; done)), H', ⟨by have := HJ2.out; have := HJ8.out; have := HJ14.out; have := HJ19.out; have := HJ22.out; have := HJ25.out; have := HJ30.out; have := HJ33.out; first | omega | exact Nat.le_refl _⟩, by repeat (first | exact Drawn0.refl _ | apply Drawn0.step)⟩
                              ·rw [if_neg c43] at H
                               have c43b0 : (a0.toList == ([82, 84, 83] : List UInt8)) = false := beq_eq_false_iff_ne.mpr c43
                               have c43b1 : (a0.toList != ([82, 84, 83] : List UInt8)) = true := bne_iff_ne.mpr c43
                               by_cases c44 : a0.toList = ([80, 72, 65] : List UInt8)
                               ·rw [if_pos c44] at H
                                have c44b0 : (a0.toList == ([80, 72, 65] : List UInt8)) = true := beq_iff_eq.mpr c44
                                have c44b1 : (a0.toList != ([80, 72, 65] : List UInt8)) = false := bne_eq_false_iff_eq.mpr c44
                                clear c44
                                have H' := Aside0.mk H
                                clear H
                                go_wp2
                                go_meet
                                case rel => exact ⟨_, ((a0.toList == ([80, 72, 65] : List UInt8))), (by first | rfl | (simp; done) | (simp [*]; done)), H', ⟨by have := HJ2.out; have := HJ8.out; have := HJ14.out; have := HJ19.out; have := HJ22.out; have := HJ25.out; have := HJ30.out; have := HJ33.out; first | omega | exact Nat.le_refl _⟩, by repeat (first | exact Drawn0.refl _ | apply Drawn0.step)⟩
                               ·rw [if_neg c44] at H
                                have c44b0 : (a0.toList == ([80, 72, 65] : List UInt8)) = false := beq_eq_false_iff_ne.mpr c44
                                have c44b1 : (a0.toList != ([80, 72, 65] : List UInt8)) = true := bne_iff_ne.mpr c44
                                have H' := Aside0.mk H
                                clear H
                                go_wp2
                                go_meet
                                case rel => exact ⟨_, ((a0.toList == ([80, 72, 80] : List UInt8))), (by first | rfl | (simp; done) | (simp [*]; done)), H', ⟨by have := HJ2.out; have := HJ8.out; have := HJ14.out; have := HJ19.out; have := HJ22.out; have := HJ25.out; have := HJ30.out; have := HJ33.out; first | omega | exact Nat.le_refl _⟩, by repeat (first | exact Drawn0.refl _ | apply Drawn0.step)⟩
                           case rest =>
                            clear HC40
                            try clear c1
                            try clear c2
                            try clear p2
                            try clear c3
                            try clear c4
                            try clear c4b0
                            try clear c4b1
                            try clear c5
                            try clear c5b0
                            try clear c5b1
                            try clear c6
                            try clear c6b0
                            try clear c6b1
                            try clear c7
                            try clear c8
                            try clear c8b0
                            try clear c8b1
                            try clear c10
                            try clear c10b0
                            try clear c10b1
                            try clear c11
                            try clear c11b0
                            try clear c11b1
                            try clear c12
                            try clear c12b0
                            try clear c12b1
                            try clear c13
                            try clear c13b0
                            try clear c13b1
                            try clear c14
                            try clear c16
                            try clear c16b0
                            try clear c16b1
                            try clear c17
                            try clear c17b0
                            try clear c17b1
                            try clear c18
                            try clear c18b0
                            try clear c18b1
                            try clear c19
                            try clear c21
                            try clear c21b0
                            try clear c21b1
                            try clear c22
                            try clear c24
                            try clear c24b0
                            try clear c24b1
                            try clear c25
                            try clear c27
                            try clear c27b0
                            try clear c27b1
                            try clear c28
                            try clear c28b0
                            try clear c28b1
                            try clear c29
                            try clear c30
                            try clear c30b0
                            try clear c30b1
                            try clear c32
                            try clear c32b0
                            try clear c32b1
                            try clear c33
                            try clear c35
                            try clear c35b0
                            try clear c35b1
                            try clear c36
                            try clear c36b0
                            try clear c36b1
                            try clear c37
                            try clear c37b0
                            try clear c37b1
                            try clear c38
                            try clear c39
                            try clear c39b0
                            try clear c39b1
                            try clear c41
                            try clear c41b0
                            try clear c41b1
                            try clear c42
                            try clear c42b0
                            try clear c42b1
                            try clear c43
                            try clear c43b0
                            try clear c43b1
                            try clear c44
                            try clear c44b0
                            try clear c44b1
                            try clear p2
                            obtain ⟨kq, x46_39, rfl, HA, HJ39, ⟨mc39, rfl⟩⟩ := hcut
                            cases kq with
                            | zero => exact absurd HA.out (by simp [impl_changed.j8])
                            | succ kj39 =>
                             have H := HA.out
                             clear HA
                             simp only [impl_changed.j8] at H
                             by_cases c45 : x46_39 = true
                             ·subst c45
                              have H1 : (some (⟨#[83]⟩ : ByteArray)) = some r := by rw [if_pos rfl] at H; exact H
                              clear H
                              have H := H1
                              clear H1
                              obtain rfl := Option.some.inj H
                              go_wp2
                              go_ret
                              exact ⟨by first | rfl | (simp; done) | (simp [*]; done), by repeat (first | exact Drawn0.refl _ | apply Drawn0.step)⟩
                             ·replace c45 := Bool.eq_false_iff.mpr c45
                              subst c45
                              have H1 : (if a0.toList = ([66, 82, 75] : List UInt8) then (some (⟨#[83, 73]⟩ : ByteArray)) else (if a0.toList = ([67, 76, 67] : List UInt8) then (impl_changed.j9 kj39 a0 (a0.toList == ([67, 76, 67] : List UInt8))) else (impl_changed.j9 kj39 a0 (a0.toList == ([83, 69, 67] : List UInt8))))) = some r := by rw [if_neg (show ¬ (false = true) by decide)] at H; exact H
                              clear H
                              have H := H1
                              clear H1
                              by_cases c46 : a0.toList = ([66, 82, 75] : List UInt8)
                              ·rw [if_pos c46] at H
                               have c46b0 : (a0.toList == ([66, 82, 75] : List UInt8)) = true := beq_iff_eq.mpr c46
                               have c46b1 : (a0.toList != ([66, 82, 75] : List UInt8)) = false := bne_eq_false_iff_eq.mpr c46
                               clear c46
                               obtain rfl := Option.some.inj H
                               go_wp2
                               go_ret
                               exact ⟨by first | rfl | (simp; done) | (simp [*]; done), by repeat (first | exact Drawn0.refl _ | apply Drawn0.step)⟩
                              ·rw [if_neg c46] at H
                               have c46b0 : (a0.toList == ([66, 82, 75] : List UInt8)) = false := beq_eq_false_iff_ne.mpr c46
                               have c46b1 : (a0.toList != ([66, 82, 75] : List UInt8)) = true := bne_iff_ne.mpr c46
                               have HC47 := Aside0.mk H
                               clear H
                               go_upto_if 54 with (fail)
                               go_cut [54] (fun v54 wc => ∃ (kq : Nat) (x54_46 : Bool), v54 = .bool x54_46 ∧ Aside0 (impl_changed.j9 kq a0 x54_46 = some r) ∧ Aside0 (kq ≤ kj39) ∧ Drawn0 w wc)
                               case first =>
                                have H := HC47.out
                                clear HC47
                                by_cases c48 : a0.toList = ([67, 76, 67] : List UInt8)
                                ·rw [if_pos c48] at H
                                 have c48b0 : (a0.toList == ([67, 76, 67] : List UInt8)) = true := beq_iff_eq.mpr c48
                                 have c48b1 : (a0.toList != ([67, 76, 67] : List UInt8)) = false := bne_eq_false_iff_eq.mpr c48
                                 clear c48
                                 (first | rw [c48b0] | (simp only [i64_w, i32_w]; rw [c48b0]) | skip)
                                 have H' := Aside0.mk H
                                 clear H
                                 go_wp2
                                 go_meet
                                 case rel => exact ⟨_, ((a0.toList == ([67, 76, 67] : List UInt8))), (by first | rfl | (simp; done) | (simp [*]; done)), H', ⟨by have := HJ2.out; have := HJ8.out; have := HJ14.out; have := HJ19.out; have := HJ22.out; have := HJ25.out; have := HJ30.out; have := HJ33.out; have := HJ39.out; first | omega | exact Nat.le_refl _⟩, by repeat (first | exact Drawn0.refl _ | apply Drawn0.step)⟩
                                ·rw [if_neg c48] at H
                                 have c48b0 : (a0.toList == ([67, 76, 67] : List UInt8)) = false := beq_eq_false_iff_ne.mpr c48
                                 have c48b1 : (a0.toList != ([67, 76, 67] : List UInt8)) = true := bne_iff_ne.mpr c48
                                 (first | rw [c48b0] | (simp only [i64_w, i32_w]; rw [c48b0]) | skip)
                                 have H' := Aside0.mk H
                                 clear H
                                 go_wp2
                                 go_meet
                                 case rel => exact ⟨_, ((a0.toList == ([83, 69, 67] : List UInt8))), (by first | rfl | (simp; done) | (simp [*]; done)), H', ⟨by have := HJ2.out; have := HJ8.out; have := HJ14.out; have := HJ19.out; have := HJ22.out; have := HJ25.out; have := HJ30.out; have := HJ33.out; have := HJ39.out; first | omega | exact Nat.le_refl _⟩, by repeat (first | exact Drawn0.refl _ | apply Drawn0.step)⟩
                               case rest =>
                                clear HC47
                                try clear c1
                                try clear c2
                                try clear p2
                                try clear c3
                                try clear c4
                                try clear c4b0
                                try clear c4b1
                                try clear c5
                                try clear c5b0
                                try clear c5b1
                                try clear c6
                                try clear c6b0
                                try clear c6b1
                                try clear c7
                                try clear c8
                                try clear c8b0
                                try clear c8b1
                                try clear c10
                                try clear c10b0
                                try clear c10b1
                                try clear c11
                                try clear c11b0
                                try clear c11b1
                                try clear c12
                                try clear c12b0
                                try clear c12b1
                                try clear c13
                                try clear c13b0
                                try clear c13b1
                                try clear c14
                                try clear c16
                                try clear c16b0
                                try clear c16b1
                                try clear c17
                                try clear c17b0
                                try clear c17b1
                                try clear c18
                                try clear c18b0
                                try clear c18b1
                                try clear c19
                                try clear c21
                                try clear c21b0
                                try clear c21b1
                                try clear c22
                                try clear c24
                                try clear c24b0
                                try clear c24b1
                                try clear c25
                                try clear c27
                                try clear c27b0
                                try clear c27b1
                                try clear c28
                                try clear c28b0
                                try clear c28b1
                                try clear c29
                                try clear c30
                                try clear c30b0
                                try clear c30b1
                                try clear c32
                                try clear c32b0
                                try clear c32b1
                                try clear c33
                                try clear c35
                                try clear c35b0
                                try clear c35b1
                                try clear c36
                                try clear c36b0
                                try clear c36b1
                                try clear c37
                                try clear c37b0
                                try clear c37b1
                                try clear c38
                                try clear c39
                                try clear c39b0
                                try clear c39b1
                                try clear c41
                                try clear c41b0
                                try clear c41b1
                                try clear c42
                                try clear c42b0
                                try clear c42b1
                                try clear c43
                                try clear c43b0
                                try clear c43b1
                                try clear c44
                                try clear c44b0
                                try clear c44b1
                                try clear c45
                                try clear c46
                                try clear c46b0
                                try clear c46b1
                                try clear c48
                                try clear c48b0
                                try clear c48b1
                                try clear p2
                                obtain ⟨kq, x54_46, rfl, HA, HJ46, ⟨mc46, rfl⟩⟩ := hcut
                                cases kq with
                                | zero => exact absurd HA.out (by simp [impl_changed.j9])
                                | succ kj46 =>
                                 have H := HA.out
                                 clear HA
                                 simp only [impl_changed.j9] at H
                                 by_cases c49 : x54_46 = true
                                 ·subst c49
                                  have H1 : (some (⟨#[67]⟩ : ByteArray)) = some r := by rw [if_pos rfl] at H; exact H
                                  clear H
                                  have H := H1
                                  clear H1
                                  obtain rfl := Option.some.inj H
                                  go_wp2
                                  go_ret
                                  exact ⟨by first | rfl | (simp; done) | (simp [*]; done), by repeat (first | exact Drawn0.refl _ | apply Drawn0.step)⟩
                                 ·replace c49 := Bool.eq_false_iff.mpr c49
                                  subst c49
                                  have H1 : (if a0.toList = ([67, 76, 73] : List UInt8) then (impl_changed.j10 kj46 a0 (a0.toList == ([67, 76, 73] : List UInt8))) else (impl_changed.j10 kj46 a0 (a0.toList == ([83, 69, 73] : List UInt8)))) = some r := by rw [if_neg (show ¬ (false = true) by decide)] at H; exact H
                                  clear H
                                  have H := H1
                                  clear H1
                                  have HC50 := Aside0.mk H
                                  clear H
                                  go_upto_if 57 with (fail)
                                  go_cut [57] (fun v57 wc => ∃ (kq : Nat) (x57_49 : Bool), v57 = .bool x57_49 ∧ Aside0 (impl_changed.j10 kq a0 x57_49 = some r) ∧ Aside0 (kq ≤ kj46) ∧ Drawn0 w wc)
                                  case first =>
                                   have H := HC50.out
                                   clear HC50
                                   by_cases c51 : a0.toList = ([67, 76, 73] : List UInt8)
                                   ·rw [if_pos c51] at H
                                    have c51b0 : (a0.toList == ([67, 76, 73] : List UInt8)) = true := beq_iff_eq.mpr c51
                                    have c51b1 : (a0.toList != ([67, 76, 73] : List UInt8)) = false := bne_eq_false_iff_eq.mpr c51
                                    clear c51
                                    (first | rw [c51b0] | (simp only [i64_w, i32_w]; rw [c51b0]) | skip)
                                    have H' := Aside0.mk H
                                    clear H
                                    go_wp2
                                    go_meet
                                    case rel => exact ⟨_, ((a0.toList == ([67, 76, 73] : List UInt8))), (by first | rfl | (simp; done) | (simp [*]; done)), H', ⟨by have := HJ2.out; have := HJ8.out; have := HJ14.out; have := HJ19.out; have := HJ22.out; have := HJ25.out; have := HJ30.out; have := HJ33.out; have := HJ39.out; have := HJ46.out; first | omega | exact Nat.le_refl _⟩, by repeat (first | exact Drawn0.refl _ | apply Drawn0.step)⟩
                                   ·rw [if_neg c51] at H
                                    have c51b0 : (a0.toList == ([67, 76, 73] : List UInt8)) = false := beq_eq_false_iff_ne.mpr c51
                                    have c51b1 : (a0.toList != ([67, 76, 73] : List UInt8)) = true := bne_iff_ne.mpr c51
                                    (first | rw [c51b0] | (simp only [i64_w, i32_w]; rw [c51b0]) | skip)
                                    have H' := Aside0.mk H
                                    clear H
                                    go_wp2
                                    go_meet
                                    case rel => exact ⟨_, ((a0.toList == ([83, 69, 73] : List UInt8))), (by first | rfl | (simp; done) | (simp [*]; done)), H', ⟨by have := HJ2.out; have := HJ8.out; have := HJ14.out; have := HJ19.out; have := HJ22.out; have := HJ25.out; have := HJ30.out; have := HJ33.out; have := HJ39.out; have := HJ46.out; first | omega | exact Nat.le_refl _⟩, by repeat (first | exact Drawn0.refl _ | apply Drawn0.step)⟩
                                  case rest =>
                                   clear HC50
                                   try clear c1
                                   try clear c2
                                   try clear p2
                                   try clear c3
                                   try clear c4
                                   try clear c4b0
                                   try clear c4b1
                                   try clear c5
                                   try clear c5b0
                                   try clear c5b1
                                   try clear c6
                                   try clear c6b0
                                   try clear c6b1
                                   try clear c7
                                   try clear c8
                                   try clear c8b0
                                   try clear c8b1
                                   try clear c10
                                   try clear c10b0
                                   try clear c10b1
                                   try clear c11
                                   try clear c11b0
                                   try clear c11b1
                                   try clear c12
                                   try clear c12b0
                                   try clear c12b1
                                   try clear c13
                                   try clear c13b0
                                   try clear c13b1
                                   try clear c14
                                   try clear c16
                                   try clear c16b0
                                   try clear c16b1
                                   try clear c17
                                   try clear c17b0
                                   try clear c17b1
                                   try clear c18
                                   try clear c18b0
                                   try clear c18b1
                                   try clear c19
                                   try clear c21
                                   try clear c21b0
                                   try clear c21b1
                                   try clear c22
                                   try clear c24
                                   try clear c24b0
                                   try clear c24b1
                                   try clear c25
                                   try clear c27
                                   try clear c27b0
                                   try clear c27b1
                                   try clear c28
                                   try clear c28b0
                                   try clear c28b1
                                   try clear c29
                                   try clear c30
                                   try clear c30b0
                                   try clear c30b1
                                   try clear c32
                                   try clear c32b0
                                   try clear c32b1
                                   try clear c33
                                   try clear c35
                                   try clear c35b0
                                   try clear c35b1
                                   try clear c36
                                   try clear c36b0
                                   try clear c36b1
                                   try clear c37
                                   try clear c37b0
                                   try clear c37b1
                                   try clear c38
                                   try clear c39
                                   try clear c39b0
                                   try clear c39b1
                                   try clear c41
                                   try clear c41b0
                                   try clear c41b1
                                   try clear c42
                                   try clear c42b0
                                   try clear c42b1
                                   try clear c43
                                   try clear c43b0
                                   try clear c43b1
                                   try clear c44
                                   try clear c44b0
                                   try clear c44b1
                                   try clear c45
                                   try clear c46
                                   try clear c46b0
                                   try clear c46b1
                                   try clear c48
                                   try clear c48b0
                                   try clear c48b1
                                   try clear c49
                                   try clear c51
                                   try clear c51b0
                                   try clear c51b1
                                   try clear p2
                                   obtain ⟨kq, x57_49, rfl, HA, HJ49, ⟨mc49, rfl⟩⟩ := hcut
                                   cases kq with
                                   | zero => exact absurd HA.out (by simp [impl_changed.j10])
                                   | succ kj49 =>
                                    have H := HA.out
                                    clear HA
                                    simp only [impl_changed.j10] at H
                                    by_cases c52 : x57_49 = true
                                    ·subst c52
                                     have H1 : (some (⟨#[73]⟩ : ByteArray)) = some r := by rw [if_pos rfl] at H; exact H
                                     clear H
                                     have H := H1
                                     clear H1
                                     obtain rfl := Option.some.inj H
                                     go_wp2
                                     go_ret
                                     exact ⟨by first | rfl | (simp; done) | (simp [*]; done), by repeat (first | exact Drawn0.refl _ | apply Drawn0.step)⟩
                                    ·replace c52 := Bool.eq_false_iff.mpr c52
                                     subst c52
                                     have H1 : (if a0.toList = ([67, 76, 68] : List UInt8) then (impl_changed.j11 kj49 a0 (a0.toList == ([67, 76, 68] : List UInt8))) else (impl_changed.j11 kj49 a0 (a0.toList == ([83, 69, 68] : List UInt8)))) = some r := by rw [if_neg (show ¬ (false = true) by decide)] at H; exact H
                                     clear H
                                     have H := H1
                                     clear H1
                                     have HC53 := Aside0.mk H
                                     clear H
                                     go_upto_if 60 with (fail)
                                     go_cut [60] (fun v60 wc => ∃ (kq : Nat) (x60_52 : Bool), v60 = .bool x60_52 ∧ Aside0 (impl_changed.j11 kq a0 x60_52 = some r) ∧ Aside0 (kq ≤ kj49) ∧ Drawn0 w wc)
                                     case first =>
                                      have H := HC53.out
                                      clear HC53
                                      by_cases c54 : a0.toList = ([67, 76, 68] : List UInt8)
                                      ·rw [if_pos c54] at H
                                       have c54b0 : (a0.toList == ([67, 76, 68] : List UInt8)) = true := beq_iff_eq.mpr c54
                                       have c54b1 : (a0.toList != ([67, 76, 68] : List UInt8)) = false := bne_eq_false_iff_eq.mpr c54
                                       clear c54
                                       (first | rw [c54b0] | (simp only [i64_w, i32_w]; rw [c54b0]) | skip)
                                       have H' := Aside0.mk H
                                       clear H
                                       go_wp2
                                       go_meet
                                       case rel => exact ⟨_, ((a0.toList == ([67, 76, 68] : List UInt8))), (by first | rfl | (simp; done) | (simp [*]; done)), H', ⟨by have := HJ2.out; have := HJ8.out; have := HJ14.out; have := HJ19.out; have := HJ22.out; have := HJ25.out; have := HJ30.out; have := HJ33.out; have := HJ39.out; have := HJ46.out; have := HJ49.out; first | omega | exact Nat.le_refl _⟩, by repeat (first | exact Drawn0.refl _ | apply Drawn0.step)⟩
                                      ·rw [if_neg c54] at H
                                       have c54b0 : (a0.toList == ([67, 76, 68] : List UInt8)) = false := beq_eq_false_iff_ne.mpr c54
                                       have c54b1 : (a0.toList != ([67, 76, 68] : List UInt8)) = true := bne_iff_ne.mpr c54
                                       (first | rw [c54b0] | (simp only [i64_w, i32_w]; rw [c54b0]) | skip)
                                       have H' := Aside0.mk H
                                       clear H
                                       go_wp2
                                       go_meet
                                       case rel => exact ⟨_, ((a0.toList == ([83, 69, 68] : List UInt8))), (by first | rfl | (simp; done) | (simp [*]; done)), H', ⟨by have := HJ2.out; have := HJ8.out; have := HJ14.out; have := HJ19.out; have := HJ22.out; have := HJ25.out; have := HJ30.out; have := HJ33.out; have := HJ39.out; have := HJ46.out; have := HJ49.out; first | omega | exact Nat.le_refl _⟩, by repeat (first | exact Drawn0.refl _ | apply Drawn0.step)⟩
                                     case rest =>
                                      clear HC53
                                      try clear c1
                                      try clear c2
                                      try clear p2
                                      try clear c3
                                      try clear c4
                                      try clear c4b0
                                      try clear c4b1
                                      try clear c5
                                      try clear c5b0
                                      try clear c5b1
                                      try clear c6
                                      try clear c6b0
                                      try clear c6b1
                                      try clear c7
                                      try clear c8
                                      try clear c8b0
                                      try clear c8b1
                                      try clear c10
                                      try clear c10b0
                                      try clear c10b1
                                      try clear c11
                                      try clear c11b0
                                      try clear c11b1
                                      try clear c12
                                      try clear c12b0
                                      try clear c12b1
                                      try clear c13
                                      try clear c13b0
                                      try clear c13b1
                                      try clear c14
                                      try clear c16
                                      try clear c16b0
                                      try clear c16b1
                                      try clear c17
                                      try clear c17b0
                                      try clear c17b1
                                      try clear c18
                                      try clear c18b0
                                      try clear c18b1
                                      try clear c19
                                      try clear c21
                                      try clear c21b0
                                      try clear c21b1
                                      try clear c22
                                      try clear c24
                                      try clear c24b0
                                      try clear c24b1
                                      try clear c25
                                      try clear c27
                                      try clear c27b0
                                      try clear c27b1
                                      try clear c28
                                      try clear c28b0
                                      try clear c28b1
                                      try clear c29
                                      try clear c30
                                      try clear c30b0
                                      try clear c30b1
                                      try clear c32
                                      try clear c32b0
                                      try clear c32b1
                                      try clear c33
                                      try clear c35
                                      try clear c35b0
                                      try clear c35b1
                                      try clear c36
                                      try clear c36b0
                                      try clear c36b1
                                      try clear c37
                                      try clear c37b0
                                      try clear c37b1
                                      try clear c38
                                      try clear c39
                                      try clear c39b0
                                      try clear c39b1
                                      try clear c41
                                      try clear c41b0
                                      try clear c41b1
                                      try clear c42
                                      try clear c42b0
                                      try clear c42b1
                                      try clear c43
                                      try clear c43b0
                                      try clear c43b1
                                      try clear c44
                                      try clear c44b0
                                      try clear c44b1
                                      try clear c45
                                      try clear c46
                                      try clear c46b0
                                      try clear c46b1
                                      try clear c48
                                      try clear c48b0
                                      try clear c48b1
                                      try clear c49
                                      try clear c51
                                      try clear c51b0
                                      try clear c51b1
                                      try clear c52
                                      try clear c54
                                      try clear c54b0
                                      try clear c54b1
                                      try clear p2
                                      obtain ⟨kq, x60_52, rfl, HA, HJ52, ⟨mc52, rfl⟩⟩ := hcut
                                      cases kq with
                                      | zero => exact absurd HA.out (by simp [impl_changed.j11])
                                      | succ kj52 =>
                                       have H := HA.out
                                       clear HA
                                       simp only [impl_changed.j11] at H
                                       by_cases c55 : x60_52 = true
                                       ·subst c55
                                        have H1 : (some (⟨#[68]⟩ : ByteArray)) = some r := by rw [if_pos rfl] at H; exact H
                                        clear H
                                        have H := H1
                                        clear H1
                                        obtain rfl := Option.some.inj H
                                        go_wp2
                                        go_ret
                                        exact ⟨by first | rfl | (simp; done) | (simp [*]; done), by repeat (first | exact Drawn0.refl _ | apply Drawn0.step)⟩
                                       ·replace c55 := Bool.eq_false_iff.mpr c55
                                        subst c55
                                        have H1 : (if a0.toList = ([67, 76, 86] : List UInt8) then (some (⟨#[86]⟩ : ByteArray)) else (if a0.toList = ([80, 76, 80] : List UInt8) then (some (⟨#[83, 78, 86, 68, 73, 90, 67]⟩ : ByteArray)) else (if a0.toList = ([82, 84, 73] : List UInt8) then (some (⟨#[83, 78, 86, 68, 73, 90, 67]⟩ : ByteArray)) else (some (⟨#[]⟩ : ByteArray))))) = some r := by rw [if_neg (show ¬ (false = true) by decide)] at H; exact H
                                        clear H
                                        have H := H1
                                        clear H1
                                        by_cases c56 : a0.toList = ([67, 76, 86] : List UInt8)
                                        ·rw [if_pos c56] at H
                                         have c56b0 : (a0.toList == ([67, 76, 86] : List UInt8)) = true := beq_iff_eq.mpr c56
                                         have c56b1 : (a0.toList != ([67, 76, 86] : List UInt8)) = false := bne_eq_false_iff_eq.mpr c56
                                         clear c56
                                         obtain rfl := Option.some.inj H
                                         go_wp2
                                         go_ret
                                         exact ⟨by first | rfl | (simp; done) | (simp [*]; done), by repeat (first | exact Drawn0.refl _ | apply Drawn0.step)⟩
                                        ·rw [if_neg c56] at H
                                         have c56b0 : (a0.toList == ([67, 76, 86] : List UInt8)) = false := beq_eq_false_iff_ne.mpr c56
                                         have c56b1 : (a0.toList != ([67, 76, 86] : List UInt8)) = true := bne_iff_ne.mpr c56
                                         by_cases c57 : a0.toList = ([80, 76, 80] : List UInt8)
                                         ·rw [if_pos c57] at H
                                          have c57b0 : (a0.toList == ([80, 76, 80] : List UInt8)) = true := beq_iff_eq.mpr c57
                                          have c57b1 : (a0.toList != ([80, 76, 80] : List UInt8)) = false := bne_eq_false_iff_eq.mpr c57
                                          clear c57
                                          obtain rfl := Option.some.inj H
                                          go_wp2
                                          go_ret
                                          exact ⟨by first | rfl | (simp; done) | (simp [*]; done), by repeat (first | exact Drawn0.refl _ | apply Drawn0.step)⟩
                                         ·rw [if_neg c57] at H
                                          have c57b0 : (a0.toList == ([80, 76, 80] : List UInt8)) = false := beq_eq_false_iff_ne.mpr c57
                                          have c57b1 : (a0.toList != ([80, 76, 80] : List UInt8)) = true := bne_iff_ne.mpr c57
                                          by_cases c58 : a0.toList = ([82, 84, 73] : List UInt8)
                                          ·rw [if_pos c58] at H
                                           have c58b0 : (a0.toList == ([82, 84, 73] : List UInt8)) = true := beq_iff_eq.mpr c58
                                           have c58b1 : (a0.toList != ([82, 84, 73] : List UInt8)) = false := bne_eq_false_iff_eq.mpr c58
                                           clear c58
                                           obtain rfl := Option.some.inj H
                                           go_wp2
                                           go_ret
                                           exact ⟨by first | rfl | (simp; done) | (simp [*]; done), by repeat (first | exact Drawn0.refl _ | apply Drawn0.step)⟩
                                          ·rw [if_neg c58] at H
                                           have c58b0 : (a0.toList == ([82, 84, 73] : List UInt8)) = false := beq_eq_false_iff_ne.mpr c58
                                           have c58b1 : (a0.toList != ([82, 84, 73] : List UInt8)) = true := bne_iff_ne.mpr c58
                                           obtain rfl := Option.some.inj H
                                           go_wp2
                                           go_ret
                                           exact ⟨by first | rfl | (simp; done) | (simp [*]; done), by repeat (first | exact Drawn0.refl _ | apply Drawn0.step)⟩

end Go.Proofs.YtfbhgmpgkhmikaaDoor.MC
