-- Written by this session's own program (wip/myprint.py) over the kit's print of the translation. Lean checks it.
import Derived.Test.YtfbhgmpgkhmikaaDoorMCx0
import Derived.Test.YtfbhgmpgkhmikaaDoorMCx2
namespace Go.Proofs.YtfbhgmpgkhmikaaDoor.MC
open Go.RowKit Go.Proofs.YtfbhgmpgkhmikaaDoorW.PrintWords Go.Proofs.YtfbhgmpgkhmikaaDoorW.PrintLast Go.Proofs.YtfbhgmpgkhmikaaDoorW.PrintMore
attribute [local go_sem] max2_int min2_int max_two min_two max_three min_three max_four min_four   -- for this text's walks alone
set_option linter.unusedVariables false
set_option linter.unusedSimpArgs false

/-! ### spec_Changes: function 25 -/
mutual
def spec_Changes.j0 : Nat → Int → ByteArray → Bool → Option (ByteArray)
 | 0, _, _, _ => none
 | k + 1, x0, x4, x5 => if x5 = true then (some (⟨#[65, 78, 90]⟩ : ByteArray)) else (if x4.toList = ([80, 76, 65] : List UInt8) then (some (⟨#[65, 83, 78, 90]⟩ : ByteArray)) else (if x4.toList = ([76, 68, 88] : List UInt8) then (spec_Changes.j1 k x0 x4 (x4.toList == ([76, 68, 88] : List UInt8))) else (if x4.toList = ([73, 78, 88] : List UInt8) then (spec_Changes.j1 k x0 x4 (x4.toList == ([73, 78, 88] : List UInt8))) else (if x4.toList = ([68, 69, 88] : List UInt8) then (spec_Changes.j1 k x0 x4 (x4.toList == ([68, 69, 88] : List UInt8))) else (if x4.toList = ([84, 65, 88] : List UInt8) then (spec_Changes.j1 k x0 x4 (x4.toList == ([84, 65, 88] : List UInt8))) else (spec_Changes.j1 k x0 x4 (x4.toList == ([84, 83, 88] : List UInt8))))))))
def spec_Changes.j1 : Nat → Int → ByteArray → Bool → Option (ByteArray)
 | 0, _, _, _ => none
 | k + 1, x0, x4, x14 => if x14 = true then (some (⟨#[88, 78, 90]⟩ : ByteArray)) else (if x4.toList = ([76, 68, 89] : List UInt8) then (spec_Changes.j2 k x0 x4 (x4.toList == ([76, 68, 89] : List UInt8))) else (if x4.toList = ([73, 78, 89] : List UInt8) then (spec_Changes.j2 k x0 x4 (x4.toList == ([73, 78, 89] : List UInt8))) else (if x4.toList = ([68, 69, 89] : List UInt8) then (spec_Changes.j2 k x0 x4 (x4.toList == ([68, 69, 89] : List UInt8))) else (spec_Changes.j2 k x0 x4 (x4.toList == ([84, 65, 89] : List UInt8))))))
def spec_Changes.j2 : Nat → Int → ByteArray → Bool → Option (ByteArray)
 | 0, _, _, _ => none
 | k + 1, x0, x4, x20 => if x20 = true then (some (⟨#[89, 78, 90]⟩ : ByteArray)) else (if x4.toList = ([65, 68, 67] : List UInt8) then (spec_Changes.j3 k x0 x4 (x4.toList == ([65, 68, 67] : List UInt8))) else (spec_Changes.j3 k x0 x4 (x4.toList == ([83, 66, 67] : List UInt8))))
def spec_Changes.j3 : Nat → Int → ByteArray → Bool → Option (ByteArray)
 | 0, _, _, _ => none
 | k + 1, x0, x4, x25 => if x25 = true then (some (⟨#[65, 78, 86, 90, 67]⟩ : ByteArray)) else (if x4.toList = ([67, 77, 80] : List UInt8) then (spec_Changes.j4 k x0 x4 (x4.toList == ([67, 77, 80] : List UInt8))) else (if x4.toList = ([67, 80, 88] : List UInt8) then (spec_Changes.j4 k x0 x4 (x4.toList == ([67, 80, 88] : List UInt8))) else (spec_Changes.j4 k x0 x4 (x4.toList == ([67, 80, 89] : List UInt8)))))
def spec_Changes.j4 : Nat → Int → ByteArray → Bool → Option (ByteArray)
 | 0, _, _, _ => none
 | k + 1, x0, x4, x28 => if x28 = true then (some (⟨#[78, 90, 67]⟩ : ByteArray)) else (if x4.toList = ([66, 73, 84] : List UInt8) then (some (⟨#[78, 86, 90]⟩ : ByteArray)) else (if x4.toList = ([73, 78, 67] : List UInt8) then (spec_Changes.j5 k x0 x4 (x4.toList == ([73, 78, 67] : List UInt8))) else (spec_Changes.j5 k x0 x4 (x4.toList == ([68, 69, 67] : List UInt8)))))
def spec_Changes.j5 : Nat → Int → ByteArray → Bool → Option (ByteArray)
 | 0, _, _, _ => none
 | k + 1, x0, x4, x34 => if x34 = true then (some (⟨#[78, 90]⟩ : ByteArray)) else (if x4.toList = ([65, 83, 76] : List UInt8) then (spec_Changes.j6 k x0 x4 (x4.toList == ([65, 83, 76] : List UInt8))) else (if x4.toList = ([76, 83, 82] : List UInt8) then (spec_Changes.j6 k x0 x4 (x4.toList == ([76, 83, 82] : List UInt8))) else (if x4.toList = ([82, 79, 76] : List UInt8) then (spec_Changes.j6 k x0 x4 (x4.toList == ([82, 79, 76] : List UInt8))) else (spec_Changes.j6 k x0 x4 (x4.toList == ([82, 79, 82] : List UInt8))))))
def spec_Changes.j6 : Nat → Int → ByteArray → Bool → Option (ByteArray)
 | 0, _, _, _ => none
 | k + 1, x0, x4, x37 => if x37 = true then ((spec_ModeOf.f k x0).bind fun t169 => (if t169 = 1 then (some (⟨#[65, 78, 90, 67]⟩ : ByteArray)) else (some (⟨#[78, 90, 67]⟩ : ByteArray)))) else (if x4.toList = ([84, 88, 83] : List UInt8) then (spec_Changes.j7 k x4 (x4.toList == ([84, 88, 83] : List UInt8))) else (if x4.toList = ([74, 83, 82] : List UInt8) then (spec_Changes.j7 k x4 (x4.toList == ([74, 83, 82] : List UInt8))) else (if x4.toList = ([82, 84, 83] : List UInt8) then (spec_Changes.j7 k x4 (x4.toList == ([82, 84, 83] : List UInt8))) else (if x4.toList = ([80, 72, 65] : List UInt8) then (spec_Changes.j7 k x4 (x4.toList == ([80, 72, 65] : List UInt8))) else (spec_Changes.j7 k x4 (x4.toList == ([80, 72, 80] : List UInt8)))))))
def spec_Changes.j7 : Nat → ByteArray → Bool → Option (ByteArray)
 | 0, _, _ => none
 | k + 1, x4, x45 => if x45 = true then (some (⟨#[83]⟩ : ByteArray)) else (if x4.toList = ([67, 76, 67] : List UInt8) then (spec_Changes.j8 k x4 (x4.toList == ([67, 76, 67] : List UInt8))) else (spec_Changes.j8 k x4 (x4.toList == ([83, 69, 67] : List UInt8))))
def spec_Changes.j8 : Nat → ByteArray → Bool → Option (ByteArray)
 | 0, _, _ => none
 | k + 1, x4, x51 => if x51 = true then (some (⟨#[67]⟩ : ByteArray)) else (if x4.toList = ([67, 76, 73] : List UInt8) then (spec_Changes.j9 k x4 (x4.toList == ([67, 76, 73] : List UInt8))) else (spec_Changes.j9 k x4 (x4.toList == ([83, 69, 73] : List UInt8))))
def spec_Changes.j9 : Nat → ByteArray → Bool → Option (ByteArray)
 | 0, _, _ => none
 | k + 1, x4, x54 => if x54 = true then (some (⟨#[73]⟩ : ByteArray)) else (if x4.toList = ([67, 76, 68] : List UInt8) then (spec_Changes.j10 k x4 (x4.toList == ([67, 76, 68] : List UInt8))) else (spec_Changes.j10 k x4 (x4.toList == ([83, 69, 68] : List UInt8))))
def spec_Changes.j10 : Nat → ByteArray → Bool → Option (ByteArray)
 | 0, _, _ => none
 | k + 1, x4, x57 => if x57 = true then (some (⟨#[68]⟩ : ByteArray)) else (if x4.toList = ([67, 76, 86] : List UInt8) then (some (⟨#[86]⟩ : ByteArray)) else (if x4.toList = ([80, 76, 80] : List UInt8) then (spec_Changes.j11 k x4 (x4.toList == ([80, 76, 80] : List UInt8))) else (spec_Changes.j11 k x4 (x4.toList == ([82, 84, 73] : List UInt8)))))
def spec_Changes.j11 : Nat → ByteArray → Bool → Option (ByteArray)
 | 0, _, _ => none
 | k + 1, x4, x62 => if x62 = true then (some (⟨#[83, 78, 86, 68, 73, 90, 67]⟩ : ByteArray)) else (if x4.toList = ([66, 82, 75] : List UInt8) then (some (⟨#[83, 73]⟩ : ByteArray)) else (some (⟨#[]⟩ : ByteArray)))
end
def spec_Changes.f (k : Nat) (a0 : Int) : Option (ByteArray) := (spec_NameOf.f k a0).bind fun t168 => (if t168.toList = ([76, 68, 65] : List UInt8) then (spec_Changes.j0 k a0 t168 (t168.toList == ([76, 68, 65] : List UInt8))) else (if t168.toList = ([79, 82, 65] : List UInt8) then (spec_Changes.j0 k a0 t168 (t168.toList == ([79, 82, 65] : List UInt8))) else (if t168.toList = ([65, 78, 68] : List UInt8) then (spec_Changes.j0 k a0 t168 (t168.toList == ([65, 78, 68] : List UInt8))) else (if t168.toList = ([69, 79, 82] : List UInt8) then (spec_Changes.j0 k a0 t168 (t168.toList == ([69, 79, 82] : List UInt8))) else (if t168.toList = ([84, 88, 65] : List UInt8) then (spec_Changes.j0 k a0 t168 (t168.toList == ([84, 88, 65] : List UInt8))) else (spec_Changes.j0 k a0 t168 (t168.toList == ([84, 89, 65] : List UInt8))))))))
theorem spec_Changes.mono_l : ∀ k, (∀ y0 y1 y2, LeO (spec_Changes.j0 k y0 y1 y2) (spec_Changes.j0 (k + 1) y0 y1 y2)) ∧ (∀ y0 y1 y2, LeO (spec_Changes.j1 k y0 y1 y2) (spec_Changes.j1 (k + 1) y0 y1 y2)) ∧ (∀ y0 y1 y2, LeO (spec_Changes.j2 k y0 y1 y2) (spec_Changes.j2 (k + 1) y0 y1 y2)) ∧ (∀ y0 y1 y2, LeO (spec_Changes.j3 k y0 y1 y2) (spec_Changes.j3 (k + 1) y0 y1 y2)) ∧ (∀ y0 y1 y2, LeO (spec_Changes.j4 k y0 y1 y2) (spec_Changes.j4 (k + 1) y0 y1 y2)) ∧ (∀ y0 y1 y2, LeO (spec_Changes.j5 k y0 y1 y2) (spec_Changes.j5 (k + 1) y0 y1 y2)) ∧ (∀ y0 y1 y2, LeO (spec_Changes.j6 k y0 y1 y2) (spec_Changes.j6 (k + 1) y0 y1 y2)) ∧ (∀ y0 y1, LeO (spec_Changes.j7 k y0 y1) (spec_Changes.j7 (k + 1) y0 y1)) ∧ (∀ y0 y1, LeO (spec_Changes.j8 k y0 y1) (spec_Changes.j8 (k + 1) y0 y1)) ∧ (∀ y0 y1, LeO (spec_Changes.j9 k y0 y1) (spec_Changes.j9 (k + 1) y0 y1)) ∧ (∀ y0 y1, LeO (spec_Changes.j10 k y0 y1) (spec_Changes.j10 (k + 1) y0 y1)) ∧ (∀ y0 y1, LeO (spec_Changes.j11 k y0 y1) (spec_Changes.j11 (k + 1) y0 y1))
 | 0 => ⟨fun _ _ _ r h => by simp [spec_Changes.j0] at h, fun _ _ _ r h => by simp [spec_Changes.j1] at h, fun _ _ _ r h => by simp [spec_Changes.j2] at h, fun _ _ _ r h => by simp [spec_Changes.j3] at h, fun _ _ _ r h => by simp [spec_Changes.j4] at h, fun _ _ _ r h => by simp [spec_Changes.j5] at h, fun _ _ _ r h => by simp [spec_Changes.j6] at h, fun _ _ r h => by simp [spec_Changes.j7] at h, fun _ _ r h => by simp [spec_Changes.j8] at h, fun _ _ r h => by simp [spec_Changes.j9] at h, fun _ _ r h => by simp [spec_Changes.j10] at h, fun _ _ r h => by simp [spec_Changes.j11] at h⟩
 | k + 1 => by
  obtain ⟨ih0, ih1, ih2, ih3, ih4, ih5, ih6, ih7, ih8, ih9, ih10, ih11⟩ := spec_Changes.mono_l k
  refine ⟨?_, ?_, ?_, ?_, ?_, ?_, ?_, ?_, ?_, ?_, ?_, ?_⟩
  ·intro y0 y1 y2
   unfold spec_Changes.j0
   repeat' first
   | (with_reducible exact ih0 _ _ _)
   | (with_reducible exact ih1 _ _ _)
   | (with_reducible exact ih2 _ _ _)
   | (with_reducible exact ih3 _ _ _)
   | (with_reducible exact ih4 _ _ _)
   | (with_reducible exact ih5 _ _ _)
   | (with_reducible exact ih6 _ _ _)
   | (with_reducible exact ih7 _ _)
   | (with_reducible exact ih8 _ _)
   | (with_reducible exact ih9 _ _)
   | (with_reducible exact ih10 _ _)
   | (with_reducible exact ih11 _ _)
   | (with_reducible exact spec_ModeOf.mono _ _)
   | (with_reducible exact spec_NameOf.mono _ _)
   | (with_reducible exact LeO.refl _)
   | (with_reducible exact LeO.none _)
   | (with_reducible refine LeO.ite ?_ ?_)
   | (with_reducible refine LeO.bind ?_ (fun _ => ?_))
   | exact ih0 _ _ _
   | exact ih1 _ _ _
   | exact ih2 _ _ _
   | exact ih3 _ _ _
   | exact ih4 _ _ _
   | exact ih5 _ _ _
   | exact ih6 _ _ _
   | exact ih7 _ _
   | exact ih8 _ _
   | exact ih9 _ _
   | exact ih10 _ _
   | exact ih11 _ _
   | exact spec_ModeOf.mono _ _
   | exact spec_NameOf.mono _ _
   | exact LeO.none _
   | refine LeO.ite ?_ ?_
   | refine LeO.bind ?_ (fun _ => ?_)
  ·intro y0 y1 y2
   unfold spec_Changes.j1
   repeat' first
   | (with_reducible exact ih0 _ _ _)
   | (with_reducible exact ih1 _ _ _)
   | (with_reducible exact ih2 _ _ _)
   | (with_reducible exact ih3 _ _ _)
   | (with_reducible exact ih4 _ _ _)
   | (with_reducible exact ih5 _ _ _)
   | (with_reducible exact ih6 _ _ _)
   | (with_reducible exact ih7 _ _)
   | (with_reducible exact ih8 _ _)
   | (with_reducible exact ih9 _ _)
   | (with_reducible exact ih10 _ _)
   | (with_reducible exact ih11 _ _)
   | (with_reducible exact spec_ModeOf.mono _ _)
   | (with_reducible exact spec_NameOf.mono _ _)
   | (with_reducible exact LeO.refl _)
   | (with_reducible exact LeO.none _)
   | (with_reducible refine LeO.ite ?_ ?_)
   | (with_reducible refine LeO.bind ?_ (fun _ => ?_))
   | exact ih0 _ _ _
   | exact ih1 _ _ _
   | exact ih2 _ _ _
   | exact ih3 _ _ _
   | exact ih4 _ _ _
   | exact ih5 _ _ _
   | exact ih6 _ _ _
   | exact ih7 _ _
   | exact ih8 _ _
   | exact ih9 _ _
   | exact ih10 _ _
   | exact ih11 _ _
   | exact spec_ModeOf.mono _ _
   | exact spec_NameOf.mono _ _
   | exact LeO.none _
   | refine LeO.ite ?_ ?_
   | refine LeO.bind ?_ (fun _ => ?_)
  ·intro y0 y1 y2
   unfold spec_Changes.j2
   repeat' first
   | (with_reducible exact ih0 _ _ _)
   | (with_reducible exact ih1 _ _ _)
   | (with_reducible exact ih2 _ _ _)
   | (with_reducible exact ih3 _ _ _)
   | (with_reducible exact ih4 _ _ _)
   | (with_reducible exact ih5 _ _ _)
   | (with_reducible exact ih6 _ _ _)
   | (with_reducible exact ih7 _ _)
   | (with_reducible exact ih8 _ _)
   | (with_reducible exact ih9 _ _)
   | (with_reducible exact ih10 _ _)
   | (with_reducible exact ih11 _ _)
   | (with_reducible exact spec_ModeOf.mono _ _)
   | (with_reducible exact spec_NameOf.mono _ _)
   | (with_reducible exact LeO.refl _)
   | (with_reducible exact LeO.none _)
   | (with_reducible refine LeO.ite ?_ ?_)
   | (with_reducible refine LeO.bind ?_ (fun _ => ?_))
   | exact ih0 _ _ _
   | exact ih1 _ _ _
   | exact ih2 _ _ _
   | exact ih3 _ _ _
   | exact ih4 _ _ _
   | exact ih5 _ _ _
   | exact ih6 _ _ _
   | exact ih7 _ _
   | exact ih8 _ _
   | exact ih9 _ _
   | exact ih10 _ _
   | exact ih11 _ _
   | exact spec_ModeOf.mono _ _
   | exact spec_NameOf.mono _ _
   | exact LeO.none _
   | refine LeO.ite ?_ ?_
   | refine LeO.bind ?_ (fun _ => ?_)
  ·intro y0 y1 y2
   unfold spec_Changes.j3
   repeat' first
   | (with_reducible exact ih0 _ _ _)
   | (with_reducible exact ih1 _ _ _)
   | (with_reducible exact ih2 _ _ _)
   | (with_reducible exact ih3 _ _ _)
   | (with_reducible exact ih4 _ _ _)
   | (with_reducible exact ih5 _ _ _)
   | (with_reducible exact ih6 _ _ _)
   | (with_reducible exact ih7 _ _)
   | (with_reducible exact ih8 _ _)
   | (with_reducible exact ih9 _ _)
   | (with_reducible exact ih10 _ _)
   | (with_reducible exact ih11 _ _)
   | (with_reducible exact spec_ModeOf.mono _ _)
   | (with_reducible exact spec_NameOf.mono _ _)
   | (with_reducible exact LeO.refl _)
   | (with_reducible exact LeO.none _)
   | (with_reducible refine LeO.ite ?_ ?_)
   | (with_reducible refine LeO.bind ?_ (fun _ => ?_))
   | exact ih0 _ _ _
   | exact ih1 _ _ _
   | exact ih2 _ _ _
   | exact ih3 _ _ _
   | exact ih4 _ _ _
   | exact ih5 _ _ _
   | exact ih6 _ _ _
   | exact ih7 _ _
   | exact ih8 _ _
   | exact ih9 _ _
   | exact ih10 _ _
   | exact ih11 _ _
   | exact spec_ModeOf.mono _ _
   | exact spec_NameOf.mono _ _
   | exact LeO.none _
   | refine LeO.ite ?_ ?_
   | refine LeO.bind ?_ (fun _ => ?_)
  ·intro y0 y1 y2
   unfold spec_Changes.j4
   repeat' first
   | (with_reducible exact ih0 _ _ _)
   | (with_reducible exact ih1 _ _ _)
   | (with_reducible exact ih2 _ _ _)
   | (with_reducible exact ih3 _ _ _)
   | (with_reducible exact ih4 _ _ _)
   | (with_reducible exact ih5 _ _ _)
   | (with_reducible exact ih6 _ _ _)
   | (with_reducible exact ih7 _ _)
   | (with_reducible exact ih8 _ _)
   | (with_reducible exact ih9 _ _)
   | (with_reducible exact ih10 _ _)
   | (with_reducible exact ih11 _ _)
   | (with_reducible exact spec_ModeOf.mono _ _)
   | (with_reducible exact spec_NameOf.mono _ _)
   | (with_reducible exact LeO.refl _)
   | (with_reducible exact LeO.none _)
   | (with_reducible refine LeO.ite ?_ ?_)
   | (with_reducible refine LeO.bind ?_ (fun _ => ?_))
   | exact ih0 _ _ _
   | exact ih1 _ _ _
   | exact ih2 _ _ _
   | exact ih3 _ _ _
   | exact ih4 _ _ _
   | exact ih5 _ _ _
   | exact ih6 _ _ _
   | exact ih7 _ _
   | exact ih8 _ _
   | exact ih9 _ _
   | exact ih10 _ _
   | exact ih11 _ _
   | exact spec_ModeOf.mono _ _
   | exact spec_NameOf.mono _ _
   | exact LeO.none _
   | refine LeO.ite ?_ ?_
   | refine LeO.bind ?_ (fun _ => ?_)
  ·intro y0 y1 y2
   unfold spec_Changes.j5
   repeat' first
   | (with_reducible exact ih0 _ _ _)
   | (with_reducible exact ih1 _ _ _)
   | (with_reducible exact ih2 _ _ _)
   | (with_reducible exact ih3 _ _ _)
   | (with_reducible exact ih4 _ _ _)
   | (with_reducible exact ih5 _ _ _)
   | (with_reducible exact ih6 _ _ _)
   | (with_reducible exact ih7 _ _)
   | (with_reducible exact ih8 _ _)
   | (with_reducible exact ih9 _ _)
   | (with_reducible exact ih10 _ _)
   | (with_reducible exact ih11 _ _)
   | (with_reducible exact spec_ModeOf.mono _ _)
   | (with_reducible exact spec_NameOf.mono _ _)
   | (with_reducible exact LeO.refl _)
   | (with_reducible exact LeO.none _)
   | (with_reducible refine LeO.ite ?_ ?_)
   | (with_reducible refine LeO.bind ?_ (fun _ => ?_))
   | exact ih0 _ _ _
   | exact ih1 _ _ _
   | exact ih2 _ _ _
   | exact ih3 _ _ _
   | exact ih4 _ _ _
   | exact ih5 _ _ _
   | exact ih6 _ _ _
   | exact ih7 _ _
   | exact ih8 _ _
   | exact ih9 _ _
   | exact ih10 _ _
   | exact ih11 _ _
   | exact spec_ModeOf.mono _ _
   | exact spec_NameOf.mono _ _
   | exact LeO.none _
   | refine LeO.ite ?_ ?_
   | refine LeO.bind ?_ (fun _ => ?_)
  ·intro y0 y1 y2
   unfold spec_Changes.j6
   repeat' first
   | (with_reducible exact ih0 _ _ _)
   | (with_reducible exact ih1 _ _ _)
   | (with_reducible exact ih2 _ _ _)
   | (with_reducible exact ih3 _ _ _)
   | (with_reducible exact ih4 _ _ _)
   | (with_reducible exact ih5 _ _ _)
   | (with_reducible exact ih6 _ _ _)
   | (with_reducible exact ih7 _ _)
   | (with_reducible exact ih8 _ _)
   | (with_reducible exact ih9 _ _)
   | (with_reducible exact ih10 _ _)
   | (with_reducible exact ih11 _ _)
   | (with_reducible exact spec_ModeOf.mono _ _)
   | (with_reducible exact spec_NameOf.mono _ _)
   | (with_reducible exact LeO.refl _)
   | (with_reducible exact LeO.none _)
   | (with_reducible refine LeO.ite ?_ ?_)
   | (with_reducible refine LeO.bind ?_ (fun _ => ?_))
   | exact ih0 _ _ _
   | exact ih1 _ _ _
   | exact ih2 _ _ _
   | exact ih3 _ _ _
   | exact ih4 _ _ _
   | exact ih5 _ _ _
   | exact ih6 _ _ _
   | exact ih7 _ _
   | exact ih8 _ _
   | exact ih9 _ _
   | exact ih10 _ _
   | exact ih11 _ _
   | exact spec_ModeOf.mono _ _
   | exact spec_NameOf.mono _ _
   | exact LeO.none _
   | refine LeO.ite ?_ ?_
   | refine LeO.bind ?_ (fun _ => ?_)
  ·intro y0 y1
   unfold spec_Changes.j7
   repeat' first
   | (with_reducible exact ih0 _ _ _)
   | (with_reducible exact ih1 _ _ _)
   | (with_reducible exact ih2 _ _ _)
   | (with_reducible exact ih3 _ _ _)
   | (with_reducible exact ih4 _ _ _)
   | (with_reducible exact ih5 _ _ _)
   | (with_reducible exact ih6 _ _ _)
   | (with_reducible exact ih7 _ _)
   | (with_reducible exact ih8 _ _)
   | (with_reducible exact ih9 _ _)
   | (with_reducible exact ih10 _ _)
   | (with_reducible exact ih11 _ _)
   | (with_reducible exact spec_ModeOf.mono _ _)
   | (with_reducible exact spec_NameOf.mono _ _)
   | (with_reducible exact LeO.refl _)
   | (with_reducible exact LeO.none _)
   | (with_reducible refine LeO.ite ?_ ?_)
   | (with_reducible refine LeO.bind ?_ (fun _ => ?_))
   | exact ih0 _ _ _
   | exact ih1 _ _ _
   | exact ih2 _ _ _
   | exact ih3 _ _ _
   | exact ih4 _ _ _
   | exact ih5 _ _ _
   | exact ih6 _ _ _
   | exact ih7 _ _
   | exact ih8 _ _
   | exact ih9 _ _
   | exact ih10 _ _
   | exact ih11 _ _
   | exact spec_ModeOf.mono _ _
   | exact spec_NameOf.mono _ _
   | exact LeO.none _
   | refine LeO.ite ?_ ?_
   | refine LeO.bind ?_ (fun _ => ?_)
  ·intro y0 y1
   unfold spec_Changes.j8
   repeat' first
   | (with_reducible exact ih0 _ _ _)
   | (with_reducible exact ih1 _ _ _)
   | (with_reducible exact ih2 _ _ _)
   | (with_reducible exact ih3 _ _ _)
   | (with_reducible exact ih4 _ _ _)
   | (with_reducible exact ih5 _ _ _)
   | (with_reducible exact ih6 _ _ _)
   | (with_reducible exact ih7 _ _)
   | (with_reducible exact ih8 _ _)
   | (with_reducible exact ih9 _ _)
   | (with_reducible exact ih10 _ _)
   | (with_reducible exact ih11 _ _)
   | (with_reducible exact spec_ModeOf.mono _ _)
   | (with_reducible exact spec_NameOf.mono _ _)
   | (with_reducible exact LeO.refl _)
   | (with_reducible exact LeO.none _)
   | (with_reducible refine LeO.ite ?_ ?_)
   | (with_reducible refine LeO.bind ?_ (fun _ => ?_))
   | exact ih0 _ _ _
   | exact ih1 _ _ _
   | exact ih2 _ _ _
   | exact ih3 _ _ _
   | exact ih4 _ _ _
   | exact ih5 _ _ _
   | exact ih6 _ _ _
   | exact ih7 _ _
   | exact ih8 _ _
   | exact ih9 _ _
   | exact ih10 _ _
   | exact ih11 _ _
   | exact spec_ModeOf.mono _ _
   | exact spec_NameOf.mono _ _
   | exact LeO.none _
   | refine LeO.ite ?_ ?_
   | refine LeO.bind ?_ (fun _ => ?_)
  ·intro y0 y1
   unfold spec_Changes.j9
   repeat' first
   | (with_reducible exact ih0 _ _ _)
   | (with_reducible exact ih1 _ _ _)
   | (with_reducible exact ih2 _ _ _)
   | (with_reducible exact ih3 _ _ _)
   | (with_reducible exact ih4 _ _ _)
   | (with_reducible exact ih5 _ _ _)
   | (with_reducible exact ih6 _ _ _)
   | (with_reducible exact ih7 _ _)
   | (with_reducible exact ih8 _ _)
   | (with_reducible exact ih9 _ _)
   | (with_reducible exact ih10 _ _)
   | (with_reducible exact ih11 _ _)
   | (with_reducible exact spec_ModeOf.mono _ _)
   | (with_reducible exact spec_NameOf.mono _ _)
   | (with_reducible exact LeO.refl _)
   | (with_reducible exact LeO.none _)
   | (with_reducible refine LeO.ite ?_ ?_)
   | (with_reducible refine LeO.bind ?_ (fun _ => ?_))
   | exact ih0 _ _ _
   | exact ih1 _ _ _
   | exact ih2 _ _ _
   | exact ih3 _ _ _
   | exact ih4 _ _ _
   | exact ih5 _ _ _
   | exact ih6 _ _ _
   | exact ih7 _ _
   | exact ih8 _ _
   | exact ih9 _ _
   | exact ih10 _ _
   | exact ih11 _ _
   | exact spec_ModeOf.mono _ _
   | exact spec_NameOf.mono _ _
   | exact LeO.none _
   | refine LeO.ite ?_ ?_
   | refine LeO.bind ?_ (fun _ => ?_)
  ·intro y0 y1
   unfold spec_Changes.j10
   repeat' first
   | (with_reducible exact ih0 _ _ _)
   | (with_reducible exact ih1 _ _ _)
   | (with_reducible exact ih2 _ _ _)
   | (with_reducible exact ih3 _ _ _)
   | (with_reducible exact ih4 _ _ _)
   | (with_reducible exact ih5 _ _ _)
   | (with_reducible exact ih6 _ _ _)
   | (with_reducible exact ih7 _ _)
   | (with_reducible exact ih8 _ _)
   | (with_reducible exact ih9 _ _)
   | (with_reducible exact ih10 _ _)
   | (with_reducible exact ih11 _ _)
   | (with_reducible exact spec_ModeOf.mono _ _)
   | (with_reducible exact spec_NameOf.mono _ _)
   | (with_reducible exact LeO.refl _)
   | (with_reducible exact LeO.none _)
   | (with_reducible refine LeO.ite ?_ ?_)
   | (with_reducible refine LeO.bind ?_ (fun _ => ?_))
   | exact ih0 _ _ _
   | exact ih1 _ _ _
   | exact ih2 _ _ _
   | exact ih3 _ _ _
   | exact ih4 _ _ _
   | exact ih5 _ _ _
   | exact ih6 _ _ _
   | exact ih7 _ _
   | exact ih8 _ _
   | exact ih9 _ _
   | exact ih10 _ _
   | exact ih11 _ _
   | exact spec_ModeOf.mono _ _
   | exact spec_NameOf.mono _ _
   | exact LeO.none _
   | refine LeO.ite ?_ ?_
   | refine LeO.bind ?_ (fun _ => ?_)
  ·intro y0 y1
   unfold spec_Changes.j11
   repeat' first
   | (with_reducible exact ih0 _ _ _)
   | (with_reducible exact ih1 _ _ _)
   | (with_reducible exact ih2 _ _ _)
   | (with_reducible exact ih3 _ _ _)
   | (with_reducible exact ih4 _ _ _)
   | (with_reducible exact ih5 _ _ _)
   | (with_reducible exact ih6 _ _ _)
   | (with_reducible exact ih7 _ _)
   | (with_reducible exact ih8 _ _)
   | (with_reducible exact ih9 _ _)
   | (with_reducible exact ih10 _ _)
   | (with_reducible exact ih11 _ _)
   | (with_reducible exact spec_ModeOf.mono _ _)
   | (with_reducible exact spec_NameOf.mono _ _)
   | (with_reducible exact LeO.refl _)
   | (with_reducible exact LeO.none _)
   | (with_reducible refine LeO.ite ?_ ?_)
   | (with_reducible refine LeO.bind ?_ (fun _ => ?_))
   | exact ih0 _ _ _
   | exact ih1 _ _ _
   | exact ih2 _ _ _
   | exact ih3 _ _ _
   | exact ih4 _ _ _
   | exact ih5 _ _ _
   | exact ih6 _ _ _
   | exact ih7 _ _
   | exact ih8 _ _
   | exact ih9 _ _
   | exact ih10 _ _
   | exact ih11 _ _
   | exact spec_ModeOf.mono _ _
   | exact spec_NameOf.mono _ _
   | exact LeO.none _
   | refine LeO.ite ?_ ?_
   | refine LeO.bind ?_ (fun _ => ?_)
theorem spec_Changes.mono : ∀ a0 k, LeO (spec_Changes.f k a0) (spec_Changes.f (k + 1) a0) := by
 intro a0 k
 obtain ⟨ih0, ih1, ih2, ih3, ih4, ih5, ih6, ih7, ih8, ih9, ih10, ih11⟩ := spec_Changes.mono_l k
 unfold spec_Changes.f
 repeat' first
   | (with_reducible exact ih0 _ _ _)
   | (with_reducible exact ih1 _ _ _)
   | (with_reducible exact ih2 _ _ _)
   | (with_reducible exact ih3 _ _ _)
   | (with_reducible exact ih4 _ _ _)
   | (with_reducible exact ih5 _ _ _)
   | (with_reducible exact ih6 _ _ _)
   | (with_reducible exact ih7 _ _)
   | (with_reducible exact ih8 _ _)
   | (with_reducible exact ih9 _ _)
   | (with_reducible exact ih10 _ _)
   | (with_reducible exact ih11 _ _)
   | (with_reducible exact spec_ModeOf.mono _ _)
   | (with_reducible exact spec_NameOf.mono _ _)
   | (with_reducible exact LeO.refl _)
   | (with_reducible exact LeO.none _)
   | (with_reducible refine LeO.ite ?_ ?_)
   | (with_reducible refine LeO.bind ?_ (fun _ => ?_))
   | exact ih0 _ _ _
   | exact ih1 _ _ _
   | exact ih2 _ _ _
   | exact ih3 _ _ _
   | exact ih4 _ _ _
   | exact ih5 _ _ _
   | exact ih6 _ _ _
   | exact ih7 _ _
   | exact ih8 _ _
   | exact ih9 _ _
   | exact ih10 _ _
   | exact ih11 _ _
   | exact spec_ModeOf.mono _ _
   | exact spec_NameOf.mono _ _
   | exact LeO.none _
   | refine LeO.ite ?_ ?_
   | refine LeO.bind ?_ (fun _ => ?_)
set_option maxHeartbeats 8000000 in
set_option maxRecDepth 100000 in
theorem spec_Changes.calls (k : Nat) (a0 : Int) (r : ByteArray) (w : World) (h : spec_Changes.f k a0 = some r) :
  Calls Tryd.prog 25 #[.int .u8 a0] w fun e w' => e = .returned (.string r) ∧ Below w.heap.size w w' := by
 have HB := Aside0.mk (Below.refl w.heap.size w)
 have H : ((spec_NameOf.f k a0).bind fun t168 => (if t168.toList = ([76, 68, 65] : List UInt8) then (spec_Changes.j0 k a0 t168 (t168.toList == ([76, 68, 65] : List UInt8))) else (if t168.toList = ([79, 82, 65] : List UInt8) then (spec_Changes.j0 k a0 t168 (t168.toList == ([79, 82, 65] : List UInt8))) else (if t168.toList = ([65, 78, 68] : List UInt8) then (spec_Changes.j0 k a0 t168 (t168.toList == ([65, 78, 68] : List UInt8))) else (if t168.toList = ([69, 79, 82] : List UInt8) then (spec_Changes.j0 k a0 t168 (t168.toList == ([69, 79, 82] : List UInt8))) else (if t168.toList = ([84, 88, 65] : List UInt8) then (spec_Changes.j0 k a0 t168 (t168.toList == ([84, 88, 65] : List UInt8))) else (spec_Changes.j0 k a0 t168 (t168.toList == ([84, 89, 65] : List UInt8))))))))) = some r := h
 clear h
 replace H := Option.bind_eq_some_iff.mp H
 obtain ⟨t168, A20, H⟩ := H
 replace H : (if t168.toList = ([76, 68, 65] : List UInt8) then (spec_Changes.j0 k a0 t168 (t168.toList == ([76, 68, 65] : List UInt8))) else (if t168.toList = ([79, 82, 65] : List UInt8) then (spec_Changes.j0 k a0 t168 (t168.toList == ([79, 82, 65] : List UInt8))) else (if t168.toList = ([65, 78, 68] : List UInt8) then (spec_Changes.j0 k a0 t168 (t168.toList == ([65, 78, 68] : List UInt8))) else (if t168.toList = ([69, 79, 82] : List UInt8) then (spec_Changes.j0 k a0 t168 (t168.toList == ([69, 79, 82] : List UInt8))) else (if t168.toList = ([84, 88, 65] : List UInt8) then (spec_Changes.j0 k a0 t168 (t168.toList == ([84, 88, 65] : List UInt8))) else (spec_Changes.j0 k a0 t168 (t168.toList == ([84, 89, 65] : List UInt8)))))))) = some r := H
 have A2 := Aside0.mk A20
 clear A20
 have HC3 := Aside0.mk H
 clear H
 go_enter Tryd.func25, Tryd.ntmps25
 go_upto_if 5 with (first | ((with_reducible refine gate_callee (f := 15) rfl ?_); refine goesL_ (some 4) rfl rfl Tryd.func15 (by kernel_rfl) rfl #[.int .u8 a0] rfl (by (try simp only [List.map_toArray, List.map_cons, List.map_nil]); first | done | rfl | (simp only [List.length_drop, List.length_take]; rfl)) ?_; (with_reducible refine (spec_NameOf.calls k a0 t168 _ A2.out).mono ?_); rintro e w4 ⟨rfl, hb⟩; refine ⟨_, rfl, ?_⟩; have n0_ := Aside0.mk (below_step (by repeat (first | (with_reducible first | exact HB.out | apply below_alloc | apply pw_below_drewN | apply below_drew1) | exact HB.out)) hb); clear HB; have HB := n0_; clear n0_; (try clear hb); (try clear hb2); (try clear hk); (try clear hi)))
 (try simp only [Act.put, List.setIfInBounds_toArray, List.set_cons_zero, List.set_cons_succ])
 go_cut [5] (fun v5 wc => ∃ (kq : Nat) (x5_2 : Bool), v5 = .bool x5_2 ∧ Aside0 (spec_Changes.j0 kq a0 t168 x5_2 = some r) ∧ Aside0 (kq ≤ k) ∧ Aside0 (Below w.heap.size w wc))
 case first =>
  have H := HC3.out
  clear HC3
  by_cases c5 : t168.toList = ([76, 68, 65] : List UInt8)
  ·rw [if_pos c5] at H
   have c5b0 : (t168.toList == ([76, 68, 65] : List UInt8)) = true := beq_iff_eq.mpr c5
   have c5b1 : (t168.toList != ([76, 68, 65] : List UInt8)) = false := bne_eq_false_iff_eq.mpr c5
   clear c5
   (first | rw [c5b0] | (simp only [i64_w, i32_w]; rw [c5b0]) | skip)
   have H' := Aside0.mk H
   clear H
   go_wp2
   go_meet
   case rel => exact ⟨_, ((t168.toList == ([76, 68, 65] : List UInt8))), (by first | rfl | (simp; done) | (simp [*]; done)), H', ⟨by first | omega | exact Nat.le_refl _⟩, ⟨by repeat (first | (with_reducible first | exact HB.out | apply below_alloc | apply pw_below_drewN | apply below_drew1) | exact HB.out)⟩⟩
  ·rw [if_neg c5] at H
   have c5b0 : (t168.toList == ([76, 68, 65] : List UInt8)) = false := beq_eq_false_iff_ne.mpr c5
   have c5b1 : (t168.toList != ([76, 68, 65] : List UInt8)) = true := bne_iff_ne.mpr c5
   (first | rw [c5b0] | (simp only [i64_w, i32_w]; rw [c5b0]) | skip)
   by_cases c6 : t168.toList = ([79, 82, 65] : List UInt8)
   ·rw [if_pos c6] at H
    have c6b0 : (t168.toList == ([79, 82, 65] : List UInt8)) = true := beq_iff_eq.mpr c6
    have c6b1 : (t168.toList != ([79, 82, 65] : List UInt8)) = false := bne_eq_false_iff_eq.mpr c6
    clear c6
    have H' := Aside0.mk H
    clear H
    go_wp2
    go_meet
    case rel => exact ⟨_, ((t168.toList == ([79, 82, 65] : List UInt8))), (by first | rfl | (simp; done) | (simp [*]; done)), H', ⟨by first | omega | exact Nat.le_refl _⟩, ⟨by repeat (first | (with_reducible first | exact HB.out | apply below_alloc | apply pw_below_drewN | apply below_drew1) | exact HB.out)⟩⟩
   ·rw [if_neg c6] at H
    have c6b0 : (t168.toList == ([79, 82, 65] : List UInt8)) = false := beq_eq_false_iff_ne.mpr c6
    have c6b1 : (t168.toList != ([79, 82, 65] : List UInt8)) = true := bne_iff_ne.mpr c6
    by_cases c7 : t168.toList = ([65, 78, 68] : List UInt8)
    ·rw [if_pos c7] at H
     have c7b0 : (t168.toList == ([65, 78, 68] : List UInt8)) = true := beq_iff_eq.mpr c7
     have c7b1 : (t168.toList != ([65, 78, 68] : List UInt8)) = false := bne_eq_false_iff_eq.mpr c7
     clear c7
     have H' := Aside0.mk H
     clear H
     go_wp2
     go_meet
     case rel => exact ⟨_, ((t168.toList == ([65, 78, 68] : List UInt8))), (by first | rfl | (simp; done) | (simp [*]; done)), H', ⟨by first | omega | exact Nat.le_refl _⟩, ⟨by repeat (first | (with_reducible first | exact HB.out | apply below_alloc | apply pw_below_drewN | apply below_drew1) | exact HB.out)⟩⟩
    ·rw [if_neg c7] at H
     have c7b0 : (t168.toList == ([65, 78, 68] : List UInt8)) = false := beq_eq_false_iff_ne.mpr c7
     have c7b1 : (t168.toList != ([65, 78, 68] : List UInt8)) = true := bne_iff_ne.mpr c7
     by_cases c8 : t168.toList = ([69, 79, 82] : List UInt8)
     ·rw [if_pos c8] at H
      have c8b0 : (t168.toList == ([69, 79, 82] : List UInt8)) = true := beq_iff_eq.mpr c8
      have c8b1 : (t168.toList != ([69, 79, 82] : List UInt8)) = false := bne_eq_false_iff_eq.mpr c8
      clear c8
      have H' := Aside0.mk H
      clear H
      go_wp2
      go_meet
      case rel => exact ⟨_, ((t168.toList == ([69, 79, 82] : List UInt8))), (by first | rfl | (simp; done) | (simp [*]; done)), H', ⟨by first | omega | exact Nat.le_refl _⟩, ⟨by repeat (first | (with_reducible first | exact HB.out | apply below_alloc | apply pw_below_drewN | apply below_drew1) | exact HB.out)⟩⟩
     ·rw [if_neg c8] at H
      have c8b0 : (t168.toList == ([69, 79, 82] : List UInt8)) = false := beq_eq_false_iff_ne.mpr c8
      have c8b1 : (t168.toList != ([69, 79, 82] : List UInt8)) = true := bne_iff_ne.mpr c8
      by_cases c9 : t168.toList = ([84, 88, 65] : List UInt8)
      ·rw [if_pos c9] at H
       have c9b0 : (t168.toList == ([84, 88, 65] : List UInt8)) = true := beq_iff_eq.mpr c9
       have c9b1 : (t168.toList != ([84, 88, 65] : List UInt8)) = false := bne_eq_false_iff_eq.mpr c9
       clear c9
       have H' := Aside0.mk H
       clear H
       go_wp2
       go_meet
       case rel => exact ⟨_, ((t168.toList == ([84, 88, 65] : List UInt8))), (by first | rfl | (simp; done) | (simp [*]; done)), H', ⟨by first | omega | exact Nat.le_refl _⟩, ⟨by repeat (first | (with_reducible first | exact HB.out | apply below_alloc | apply pw_below_drewN | apply below_drew1) | exact HB.out)⟩⟩
      ·rw [if_neg c9] at H
       have c9b0 : (t168.toList == ([84, 88, 65] : List UInt8)) = false := beq_eq_false_iff_ne.mpr c9
       have c9b1 : (t168.toList != ([84, 88, 65] : List UInt8)) = true := bne_iff_ne.mpr c9
       have H' := Aside0.mk H
       clear H
       go_wp2
       go_meet
       case rel => exact ⟨_, ((t168.toList == ([84, 89, 65] : List UInt8))), (by first | rfl | (simp; done) | (simp [*]; done)), H', ⟨by first | omega | exact Nat.le_refl _⟩, ⟨by repeat (first | (with_reducible first | exact HB.out | apply below_alloc | apply pw_below_drewN | apply below_drew1) | exact HB.out)⟩⟩
 case rest =>
  clear HC3
  try clear c1
  try clear c2
  try clear p2
  try clear c5
  try clear c5b0
  try clear c5b1
  try clear c6
  try clear c6b0
  try clear c6b1
  try clear c7
  try clear c7b0
  try clear c7b1
  try clear c8
  try clear c8b0
  try clear c8b1
  try clear c9
  try clear c9b0
  try clear c9b1
  obtain ⟨kq, x5_2, rfl, HA, HJ2, HB⟩ := hcut
  cases kq with
  | zero => exact absurd HA.out (by simp [spec_Changes.j0])
  | succ kj2 =>
   have H := HA.out
   clear HA
   simp only [spec_Changes.j0] at H
   by_cases c10 : x5_2 = true
   ·subst c10
    have H1 : (some (⟨#[65, 78, 90]⟩ : ByteArray)) = some r := by rw [if_pos rfl] at H; exact H
    clear H
    have H := H1
    clear H1
    obtain rfl := Option.some.inj H
    go_wp2
    go_ret
    exact ⟨by first | rfl | (simp [errW_none, errW_some] <;> rfl) | (simp [*, errW_none, errW_some] <;> rfl), by repeat (first | (with_reducible first | exact HB.out | apply below_alloc | apply pw_below_drewN | apply below_drew1) | exact HB.out)⟩
   ·replace c10 := Bool.eq_false_iff.mpr c10
    subst c10
    have H1 : (if t168.toList = ([80, 76, 65] : List UInt8) then (some (⟨#[65, 83, 78, 90]⟩ : ByteArray)) else (if t168.toList = ([76, 68, 88] : List UInt8) then (spec_Changes.j1 kj2 a0 t168 (t168.toList == ([76, 68, 88] : List UInt8))) else (if t168.toList = ([73, 78, 88] : List UInt8) then (spec_Changes.j1 kj2 a0 t168 (t168.toList == ([73, 78, 88] : List UInt8))) else (if t168.toList = ([68, 69, 88] : List UInt8) then (spec_Changes.j1 kj2 a0 t168 (t168.toList == ([68, 69, 88] : List UInt8))) else (if t168.toList = ([84, 65, 88] : List UInt8) then (spec_Changes.j1 kj2 a0 t168 (t168.toList == ([84, 65, 88] : List UInt8))) else (spec_Changes.j1 kj2 a0 t168 (t168.toList == ([84, 83, 88] : List UInt8)))))))) = some r := by rw [if_neg (show ¬ (false = true) by decide)] at H; exact H
    clear H
    have H := H1
    clear H1
    by_cases c11 : t168.toList = ([80, 76, 65] : List UInt8)
    ·rw [if_pos c11] at H
     have c11b0 : (t168.toList == ([80, 76, 65] : List UInt8)) = true := beq_iff_eq.mpr c11
     have c11b1 : (t168.toList != ([80, 76, 65] : List UInt8)) = false := bne_eq_false_iff_eq.mpr c11
     clear c11
     obtain rfl := Option.some.inj H
     go_wp2
     go_ret
     exact ⟨by first | rfl | (simp [errW_none, errW_some] <;> rfl) | (simp [*, errW_none, errW_some] <;> rfl), by repeat (first | (with_reducible first | exact HB.out | apply below_alloc | apply pw_below_drewN | apply below_drew1) | exact HB.out)⟩
    ·rw [if_neg c11] at H
     have c11b0 : (t168.toList == ([80, 76, 65] : List UInt8)) = false := beq_eq_false_iff_ne.mpr c11
     have c11b1 : (t168.toList != ([80, 76, 65] : List UInt8)) = true := bne_iff_ne.mpr c11
     have HC12 := Aside0.mk H
     clear H
     go_upto_if 14 with (fail)
     go_cut [14] (fun v14 wc => ∃ (kq : Nat) (x14_11 : Bool), v14 = .bool x14_11 ∧ Aside0 (spec_Changes.j1 kq a0 t168 x14_11 = some r) ∧ Aside0 (kq ≤ kj2) ∧ Aside0 (Below w.heap.size w wc))
     case first =>
      have H := HC12.out
      clear HC12
      by_cases c13 : t168.toList = ([76, 68, 88] : List UInt8)
      ·rw [if_pos c13] at H
       have c13b0 : (t168.toList == ([76, 68, 88] : List UInt8)) = true := beq_iff_eq.mpr c13
       have c13b1 : (t168.toList != ([76, 68, 88] : List UInt8)) = false := bne_eq_false_iff_eq.mpr c13
       clear c13
       (first | rw [c13b0] | (simp only [i64_w, i32_w]; rw [c13b0]) | skip)
       have H' := Aside0.mk H
       clear H
       go_wp2
       go_meet
       case rel => exact ⟨_, ((t168.toList == ([76, 68, 88] : List UInt8))), (by first | rfl | (simp; done) | (simp [*]; done)), H', ⟨by have := HJ2.out; first | omega | exact Nat.le_refl _⟩, ⟨by repeat (first | (with_reducible first | exact HB.out | apply below_alloc | apply pw_below_drewN | apply below_drew1) | exact HB.out)⟩⟩
      ·rw [if_neg c13] at H
       have c13b0 : (t168.toList == ([76, 68, 88] : List UInt8)) = false := beq_eq_false_iff_ne.mpr c13
       have c13b1 : (t168.toList != ([76, 68, 88] : List UInt8)) = true := bne_iff_ne.mpr c13
       (first | rw [c13b0] | (simp only [i64_w, i32_w]; rw [c13b0]) | skip)
       by_cases c14 : t168.toList = ([73, 78, 88] : List UInt8)
       ·rw [if_pos c14] at H
        have c14b0 : (t168.toList == ([73, 78, 88] : List UInt8)) = true := beq_iff_eq.mpr c14
        have c14b1 : (t168.toList != ([73, 78, 88] : List UInt8)) = false := bne_eq_false_iff_eq.mpr c14
        clear c14
        have H' := Aside0.mk H
        clear H
        go_wp2
        go_meet
        case rel => exact ⟨_, ((t168.toList == ([73, 78, 88] : List UInt8))), (by first | rfl | (simp; done) | (simp [*]; done)), H', ⟨by have := HJ2.out; first | omega | exact Nat.le_refl _⟩, ⟨by repeat (first | (with_reducible first | exact HB.out | apply below_alloc | apply pw_below_drewN | apply below_drew1) | exact HB.out)⟩⟩
       ·rw [if_neg c14] at H
        have c14b0 : (t168.toList == ([73, 78, 88] : List UInt8)) = false := beq_eq_false_iff_ne.mpr c14
        have c14b1 : (t168.toList != ([73, 78, 88] : List UInt8)) = true := bne_iff_ne.mpr c14
        by_cases c15 : t168.toList = ([68, 69, 88] : List UInt8)
        ·rw [if_pos c15] at H
         have c15b0 : (t168.toList == ([68, 69, 88] : List UInt8)) = true := beq_iff_eq.mpr c15
         have c15b1 : (t168.toList != ([68, 69, 88] : List UInt8)) = false := bne_eq_false_iff_eq.mpr c15
         clear c15
         have H' := Aside0.mk H
         clear H
         go_wp2
         go_meet
         case rel => exact ⟨_, ((t168.toList == ([68, 69, 88] : List UInt8))), (by first | rfl | (simp; done) | (simp [*]; done)), H', ⟨by have := HJ2.out; first | omega | exact Nat.le_refl _⟩, ⟨by repeat (first | (with_reducible first | exact HB.out | apply below_alloc | apply pw_below_drewN | apply below_drew1) | exact HB.out)⟩⟩
        ·rw [if_neg c15] at H
         have c15b0 : (t168.toList == ([68, 69, 88] : List UInt8)) = false := beq_eq_false_iff_ne.mpr c15
         have c15b1 : (t168.toList != ([68, 69, 88] : List UInt8)) = true := bne_iff_ne.mpr c15
         by_cases c16 : t168.toList = ([84, 65, 88] : List UInt8)
         ·rw [if_pos c16] at H
          have c16b0 : (t168.toList == ([84, 65, 88] : List UInt8)) = true := beq_iff_eq.mpr c16
          have c16b1 : (t168.toList != ([84, 65, 88] : List UInt8)) = false := bne_eq_false_iff_eq.mpr c16
          clear c16
          have H' := Aside0.mk H
          clear H
          go_wp2
          go_meet
          case rel => exact ⟨_, ((t168.toList == ([84, 65, 88] : List UInt8))), (by first | rfl | (simp; done) | (simp [*]; done)), H', ⟨by have := HJ2.out; first | omega | exact Nat.le_refl _⟩, ⟨by repeat (first | (with_reducible first | exact HB.out | apply below_alloc | apply pw_below_drewN | apply below_drew1) | exact HB.out)⟩⟩
         ·rw [if_neg c16] at H
          have c16b0 : (t168.toList == ([84, 65, 88] : List UInt8)) = false := beq_eq_false_iff_ne.mpr c16
          have c16b1 : (t168.toList != ([84, 65, 88] : List UInt8)) = true := bne_iff_ne.mpr c16
          have H' := Aside0.mk H
          clear H
          go_wp2
          go_meet
          case rel => exact ⟨_, ((t168.toList == ([84, 83, 88] : List UInt8))), (by first | rfl | (simp; done) | (simp [*]; done)), H', ⟨by have := HJ2.out; first | omega | exact Nat.le_refl _⟩, ⟨by repeat (first | (with_reducible first | exact HB.out | apply below_alloc | apply pw_below_drewN | apply below_drew1) | exact HB.out)⟩⟩
     case rest =>
      clear HC12
      try clear c1
      try clear c2
      try clear p2
      try clear c5
      try clear c5b0
      try clear c5b1
      try clear c6
      try clear c6b0
      try clear c6b1
      try clear c7
      try clear c7b0
      try clear c7b1
      try clear c8
      try clear c8b0
      try clear c8b1
      try clear c9
      try clear c9b0
      try clear c9b1
      try clear c10
      try clear c11
      try clear c11b0
      try clear c11b1
      try clear c13
      try clear c13b0
      try clear c13b1
      try clear c14
      try clear c14b0
      try clear c14b1
      try clear c15
      try clear c15b0
      try clear c15b1
      try clear c16
      try clear c16b0
      try clear c16b1
      try clear p2
      obtain ⟨kq, x14_11, rfl, HA, HJ11, HB⟩ := hcut
      cases kq with
      | zero => exact absurd HA.out (by simp [spec_Changes.j1])
      | succ kj11 =>
       have H := HA.out
       clear HA
       simp only [spec_Changes.j1] at H
       by_cases c17 : x14_11 = true
       ·subst c17
        have H1 : (some (⟨#[88, 78, 90]⟩ : ByteArray)) = some r := by rw [if_pos rfl] at H; exact H
        clear H
        have H := H1
        clear H1
        obtain rfl := Option.some.inj H
        go_wp2
        go_ret
        exact ⟨by first | rfl | (simp [errW_none, errW_some] <;> rfl) | (simp [*, errW_none, errW_some] <;> rfl), by repeat (first | (with_reducible first | exact HB.out | apply below_alloc | apply pw_below_drewN | apply below_drew1) | exact HB.out)⟩
       ·replace c17 := Bool.eq_false_iff.mpr c17
        subst c17
        have H1 : (if t168.toList = ([76, 68, 89] : List UInt8) then (spec_Changes.j2 kj11 a0 t168 (t168.toList == ([76, 68, 89] : List UInt8))) else (if t168.toList = ([73, 78, 89] : List UInt8) then (spec_Changes.j2 kj11 a0 t168 (t168.toList == ([73, 78, 89] : List UInt8))) else (if t168.toList = ([68, 69, 89] : List UInt8) then (spec_Changes.j2 kj11 a0 t168 (t168.toList == ([68, 69, 89] : List UInt8))) else (spec_Changes.j2 kj11 a0 t168 (t168.toList == ([84, 65, 89] : List UInt8)))))) = some r := by rw [if_neg (show ¬ (false = true) by decide)] at H; exact H
        clear H
        have H := H1
        clear H1
        have HC18 := Aside0.mk H
        clear H
        go_upto_if 20 with (fail)
        go_cut [20] (fun v20 wc => ∃ (kq : Nat) (x20_17 : Bool), v20 = .bool x20_17 ∧ Aside0 (spec_Changes.j2 kq a0 t168 x20_17 = some r) ∧ Aside0 (kq ≤ kj11) ∧ Aside0 (Below w.heap.size w wc))
        case first =>
         have H := HC18.out
         clear HC18
         by_cases c19 : t168.toList = ([76, 68, 89] : List UInt8)
         ·rw [if_pos c19] at H
          have c19b0 : (t168.toList == ([76, 68, 89] : List UInt8)) = true := beq_iff_eq.mpr c19
          have c19b1 : (t168.toList != ([76, 68, 89] : List UInt8)) = false := bne_eq_false_iff_eq.mpr c19
          clear c19
          (first | rw [c19b0] | (simp only [i64_w, i32_w]; rw [c19b0]) | skip)
          have H' := Aside0.mk H
          clear H
          go_wp2
          go_meet
          case rel => exact ⟨_, ((t168.toList == ([76, 68, 89] : List UInt8))), (by first | rfl | (simp; done) | (simp [*]; done)), H', ⟨by have := HJ2.out; have := HJ11.out; first | omega | exact Nat.le_refl _⟩, ⟨by repeat (first | (with_reducible first | exact HB.out | apply below_alloc | apply pw_below_drewN | apply below_drew1) | exact HB.out)⟩⟩
         ·rw [if_neg c19] at H
          have c19b0 : (t168.toList == ([76, 68, 89] : List UInt8)) = false := beq_eq_false_iff_ne.mpr c19
          have c19b1 : (t168.toList != ([76, 68, 89] : List UInt8)) = true := bne_iff_ne.mpr c19
          (first | rw [c19b0] | (simp only [i64_w, i32_w]; rw [c19b0]) | skip)
          by_cases c20 : t168.toList = ([73, 78, 89] : List UInt8)
          ·rw [if_pos c20] at H
           have c20b0 : (t168.toList == ([73, 78, 89] : List UInt8)) = true := beq_iff_eq.mpr c20
           have c20b1 : (t168.toList != ([73, 78, 89] : List UInt8)) = false := bne_eq_false_iff_eq.mpr c20
           clear c20
           have H' := Aside0.mk H
           clear H
           go_wp2
           go_meet
           case rel => exact ⟨_, ((t168.toList == ([73, 78, 89] : List UInt8))), (by first | rfl | (simp; done) | (simp [*]; done)), H', ⟨by have := HJ2.out; have := HJ11.out; first | omega | exact Nat.le_refl _⟩, ⟨by repeat (first | (with_reducible first | exact HB.out | apply below_alloc | apply pw_below_drewN | apply below_drew1) | exact HB.out)⟩⟩
          ·rw [if_neg c20] at H
           have c20b0 : (t168.toList == ([73, 78, 89] : List UInt8)) = false := beq_eq_false_iff_ne.mpr c20
           have c20b1 : (t168.toList != ([73, 78, 89] : List UInt8)) = true := bne_iff_ne.mpr c20
           by_cases c21 : t168.toList = ([68, 69, 89] : List UInt8)
           ·rw [if_pos c21] at H
            have c21b0 : (t168.toList == ([68, 69, 89] : List UInt8)) = true := beq_iff_eq.mpr c21
            have c21b1 : (t168.toList != ([68, 69, 89] : List UInt8)) = false := bne_eq_false_iff_eq.mpr c21
            clear c21
            have H' := Aside0.mk H
            clear H
            go_wp2
            go_meet
            case rel => exact ⟨_, ((t168.toList == ([68, 69, 89] : List UInt8))), (by first | rfl | (simp; done) | (simp [*]; done)), H', ⟨by have := HJ2.out; have := HJ11.out; first | omega | exact Nat.le_refl _⟩, ⟨by repeat (first | (with_reducible first | exact HB.out | apply below_alloc | apply pw_below_drewN | apply below_drew1) | exact HB.out)⟩⟩
           ·rw [if_neg c21] at H
            have c21b0 : (t168.toList == ([68, 69, 89] : List UInt8)) = false := beq_eq_false_iff_ne.mpr c21
            have c21b1 : (t168.toList != ([68, 69, 89] : List UInt8)) = true := bne_iff_ne.mpr c21
            have H' := Aside0.mk H
            clear H
            go_wp2
            go_meet
            case rel => exact ⟨_, ((t168.toList == ([84, 65, 89] : List UInt8))), (by first | rfl | (simp; done) | (simp [*]; done)), H', ⟨by have := HJ2.out; have := HJ11.out; first | omega | exact Nat.le_refl _⟩, ⟨by repeat (first | (with_reducible first | exact HB.out | apply below_alloc | apply pw_below_drewN | apply below_drew1) | exact HB.out)⟩⟩
        case rest =>
         clear HC18
         try clear c1
         try clear c2
         try clear p2
         try clear c5
         try clear c5b0
         try clear c5b1
         try clear c6
         try clear c6b0
         try clear c6b1
         try clear c7
         try clear c7b0
         try clear c7b1
         try clear c8
         try clear c8b0
         try clear c8b1
         try clear c9
         try clear c9b0
         try clear c9b1
         try clear c10
         try clear c11
         try clear c11b0
         try clear c11b1
         try clear c13
         try clear c13b0
         try clear c13b1
         try clear c14
         try clear c14b0
         try clear c14b1
         try clear c15
         try clear c15b0
         try clear c15b1
         try clear c16
         try clear c16b0
         try clear c16b1
         try clear c17
         try clear c19
         try clear c19b0
         try clear c19b1
         try clear c20
         try clear c20b0
         try clear c20b1
         try clear c21
         try clear c21b0
         try clear c21b1
         try clear p2
         obtain ⟨kq, x20_17, rfl, HA, HJ17, HB⟩ := hcut
         cases kq with
         | zero => exact absurd HA.out (by simp [spec_Changes.j2])
         | succ kj17 =>
          have H := HA.out
          clear HA
          simp only [spec_Changes.j2] at H
          by_cases c22 : x20_17 = true
          ·subst c22
           have H1 : (some (⟨#[89, 78, 90]⟩ : ByteArray)) = some r := by rw [if_pos rfl] at H; exact H
           clear H
           have H := H1
           clear H1
           obtain rfl := Option.some.inj H
           go_wp2
           go_ret
           exact ⟨by first | rfl | (simp [errW_none, errW_some] <;> rfl) | (simp [*, errW_none, errW_some] <;> rfl), by repeat (first | (with_reducible first | exact HB.out | apply below_alloc | apply pw_below_drewN | apply below_drew1) | exact HB.out)⟩
          ·replace c22 := Bool.eq_false_iff.mpr c22
           subst c22
           have H1 : (if t168.toList = ([65, 68, 67] : List UInt8) then (spec_Changes.j3 kj17 a0 t168 (t168.toList == ([65, 68, 67] : List UInt8))) else (spec_Changes.j3 kj17 a0 t168 (t168.toList == ([83, 66, 67] : List UInt8)))) = some r := by rw [if_neg (show ¬ (false = true) by decide)] at H; exact H
           clear H
           have H := H1
           clear H1
           have HC23 := Aside0.mk H
           clear H
           go_upto_if 25 with (fail)
           go_cut [25] (fun v25 wc => ∃ (kq : Nat) (x25_22 : Bool), v25 = .bool x25_22 ∧ Aside0 (spec_Changes.j3 kq a0 t168 x25_22 = some r) ∧ Aside0 (kq ≤ kj17) ∧ Aside0 (Below w.heap.size w wc))
           case first =>
            have H := HC23.out
            clear HC23
            by_cases c24 : t168.toList = ([65, 68, 67] : List UInt8)
            ·rw [if_pos c24] at H
             have c24b0 : (t168.toList == ([65, 68, 67] : List UInt8)) = true := beq_iff_eq.mpr c24
             have c24b1 : (t168.toList != ([65, 68, 67] : List UInt8)) = false := bne_eq_false_iff_eq.mpr c24
             clear c24
             (first | rw [c24b0] | (simp only [i64_w, i32_w]; rw [c24b0]) | skip)
             have H' := Aside0.mk H
             clear H
             go_wp2
             go_meet
             case rel => exact ⟨_, ((t168.toList == ([65, 68, 67] : List UInt8))), (by first | rfl | (simp; done) | (simp [*]; done)), H', ⟨by have := HJ2.out; have := HJ11.out; have := HJ17.out; first | omega | exact Nat.le_refl _⟩, ⟨by repeat (first | (with_reducible first | exact HB.out | apply below_alloc | apply pw_below_drewN | apply below_drew1) | exact HB.out)⟩⟩
            ·rw [if_neg c24] at H
             have c24b0 : (t168.toList == ([65, 68, 67] : List UInt8)) = false := beq_eq_false_iff_ne.mpr c24
             have c24b1 : (t168.toList != ([65, 68, 67] : List UInt8)) = true := bne_iff_ne.mpr c24
             (first | rw [c24b0] | (simp only [i64_w, i32_w]; rw [c24b0]) | skip)
             have H' := Aside0.mk H
             clear H
             go_wp2
             go_meet
             case rel => exact ⟨_, ((t168.toList == ([83, 66, 67] : List UInt8))), (by first | rfl | (simp; done) | (simp [*]; done)), H', ⟨by have := HJ2.out; have := HJ11.out; have := HJ17.out; first | omega | exact Nat.le_refl _⟩, ⟨by repeat (first | (with_reducible first | exact HB.out | apply below_alloc | apply pw_below_drewN | apply below_drew1) | exact HB.out)⟩⟩
           case rest =>
            clear HC23
            try clear c1
            try clear c2
            try clear p2
            try clear c5
            try clear c5b0
            try clear c5b1
            try clear c6
            try clear c6b0
            try clear c6b1
            try clear c7
            try clear c7b0
            try clear c7b1
            try clear c8
            try clear c8b0
            try clear c8b1
            try clear c9
            try clear c9b0
            try clear c9b1
            try clear c10
            try clear c11
            try clear c11b0
            try clear c11b1
            try clear c13
            try clear c13b0
            try clear c13b1
            try clear c14
            try clear c14b0
            try clear c14b1
            try clear c15
            try clear c15b0
            try clear c15b1
            try clear c16
            try clear c16b0
            try clear c16b1
            try clear c17
            try clear c19
            try clear c19b0
            try clear c19b1
            try clear c20
            try clear c20b0
            try clear c20b1
            try clear c21
            try clear c21b0
            try clear c21b1
            try clear c22
            try clear c24
            try clear c24b0
            try clear c24b1
            try clear p2
            obtain ⟨kq, x25_22, rfl, HA, HJ22, HB⟩ := hcut
            cases kq with
            | zero => exact absurd HA.out (by simp [spec_Changes.j3])
            | succ kj22 =>
             have H := HA.out
             clear HA
             simp only [spec_Changes.j3] at H
             by_cases c25 : x25_22 = true
             ·subst c25
              have H1 : (some (⟨#[65, 78, 86, 90, 67]⟩ : ByteArray)) = some r := by rw [if_pos rfl] at H; exact H
              clear H
              have H := H1
              clear H1
              obtain rfl := Option.some.inj H
              go_wp2
              go_ret
              exact ⟨by first | rfl | (simp [errW_none, errW_some] <;> rfl) | (simp [*, errW_none, errW_some] <;> rfl), by repeat (first | (with_reducible first | exact HB.out | apply below_alloc | apply pw_below_drewN | apply below_drew1) | exact HB.out)⟩
             ·replace c25 := Bool.eq_false_iff.mpr c25
              subst c25
              have H1 : (if t168.toList = ([67, 77, 80] : List UInt8) then (spec_Changes.j4 kj22 a0 t168 (t168.toList == ([67, 77, 80] : List UInt8))) else (if t168.toList = ([67, 80, 88] : List UInt8) then (spec_Changes.j4 kj22 a0 t168 (t168.toList == ([67, 80, 88] : List UInt8))) else (spec_Changes.j4 kj22 a0 t168 (t168.toList == ([67, 80, 89] : List UInt8))))) = some r := by rw [if_neg (show ¬ (false = true) by decide)] at H; exact H
              clear H
              have H := H1
              clear H1
              have HC26 := Aside0.mk H
              clear H
              go_upto_if 28 with (fail)
              go_cut [28] (fun v28 wc => ∃ (kq : Nat) (x28_25 : Bool), v28 = .bool x28_25 ∧ Aside0 (spec_Changes.j4 kq a0 t168 x28_25 = some r) ∧ Aside0 (kq ≤ kj22) ∧ Aside0 (Below w.heap.size w wc))
              case first =>
               have H := HC26.out
               clear HC26
               by_cases c27 : t168.toList = ([67, 77, 80] : List UInt8)
               ·rw [if_pos c27] at H
                have c27b0 : (t168.toList == ([67, 77, 80] : List UInt8)) = true := beq_iff_eq.mpr c27
                have c27b1 : (t168.toList != ([67, 77, 80] : List UInt8)) = false := bne_eq_false_iff_eq.mpr c27
                clear c27
                (first | rw [c27b0] | (simp only [i64_w, i32_w]; rw [c27b0]) | skip)
                have H' := Aside0.mk H
                clear H
                go_wp2
                go_meet
                case rel => exact ⟨_, ((t168.toList == ([67, 77, 80] : List UInt8))), (by first | rfl | (simp; done) | (simp [*]; done)), H', ⟨by have := HJ2.out; have := HJ11.out; have := HJ17.out; have := HJ22.out; first | omega | exact Nat.le_refl _⟩, ⟨by repeat (first | (with_reducible first | exact HB.out | apply below_alloc | apply pw_below_drewN | apply below_drew1) | exact HB.out)⟩⟩
               ·rw [if_neg c27] at H
                have c27b0 : (t168.toList == ([67, 77, 80] : List UInt8)) = false := beq_eq_false_iff_ne.mpr c27
                have c27b1 : (t168.toList != ([67, 77, 80] : List UInt8)) = true := bne_iff_ne.mpr c27
                (first | rw [c27b0] | (simp only [i64_w, i32_w]; rw [c27b0]) | skip)
                by_cases c28 : t168.toList = ([67, 80, 88] : List UInt8)
                ·rw [if_pos c28] at H
                 have c28b0 : (t168.toList == ([67, 80, 88] : List UInt8)) = true := beq_iff_eq.mpr c28
                 have c28b1 : (t168.toList != ([67, 80, 88] : List UInt8)) = false := bne_eq_false_iff_eq.mpr c28
                 clear c28
                 have H' := Aside0.mk H
                 clear H
                 go_wp2
                 go_meet
                 case rel => exact ⟨_, ((t168.toList == ([67, 80, 88] : List UInt8))), (by first | rfl | (simp; done) | (simp [*]; done)), H', ⟨by have := HJ2.out; have := HJ11.out; have := HJ17.out; have := HJ22.out; first | omega | exact Nat.le_refl _⟩, ⟨by repeat (first | (with_reducible first | exact HB.out | apply below_alloc | apply pw_below_drewN | apply below_drew1) | exact HB.out)⟩⟩
                ·rw [if_neg c28] at H
                 have c28b0 : (t168.toList == ([67, 80, 88] : List UInt8)) = false := beq_eq_false_iff_ne.mpr c28
                 have c28b1 : (t168.toList != ([67, 80, 88] : List UInt8)) = true := bne_iff_ne.mpr c28
                 have H' := Aside0.mk H
                 clear H
                 go_wp2
                 go_meet
                 case rel => exact ⟨_, ((t168.toList == ([67, 80, 89] : List UInt8))), (by first | rfl | (simp; done) | (simp [*]; done)), H', ⟨by have := HJ2.out; have := HJ11.out; have := HJ17.out; have := HJ22.out; first | omega | exact Nat.le_refl _⟩, ⟨by repeat (first | (with_reducible first | exact HB.out | apply below_alloc | apply pw_below_drewN | apply below_drew1) | exact HB.out)⟩⟩
              case rest =>
               clear HC26
               try clear c1
               try clear c2
               try clear p2
               try clear c5
               try clear c5b0
               try clear c5b1
               try clear c6
               try clear c6b0
               try clear c6b1
               try clear c7
               try clear c7b0
               try clear c7b1
               try clear c8
               try clear c8b0
               try clear c8b1
               try clear c9
               try clear c9b0
               try clear c9b1
               try clear c10
               try clear c11
               try clear c11b0
               try clear c11b1
               try clear c13
               try clear c13b0
               try clear c13b1
               try clear c14
               try clear c14b0
               try clear c14b1
               try clear c15
               try clear c15b0
               try clear c15b1
               try clear c16
               try clear c16b0
               try clear c16b1
               try clear c17
               try clear c19
               try clear c19b0
               try clear c19b1
               try clear c20
               try clear c20b0
               try clear c20b1
               try clear c21
               try clear c21b0
               try clear c21b1
               try clear c22
               try clear c24
               try clear c24b0
               try clear c24b1
               try clear c25
               try clear c27
               try clear c27b0
               try clear c27b1
               try clear c28
               try clear c28b0
               try clear c28b1
               try clear p2
               obtain ⟨kq, x28_25, rfl, HA, HJ25, HB⟩ := hcut
               cases kq with
               | zero => exact absurd HA.out (by simp [spec_Changes.j4])
               | succ kj25 =>
                have H := HA.out
                clear HA
                simp only [spec_Changes.j4] at H
                by_cases c29 : x28_25 = true
                ·subst c29
                 have H1 : (some (⟨#[78, 90, 67]⟩ : ByteArray)) = some r := by rw [if_pos rfl] at H; exact H
                 clear H
                 have H := H1
                 clear H1
                 obtain rfl := Option.some.inj H
                 go_wp2
                 go_ret
                 exact ⟨by first | rfl | (simp [errW_none, errW_some] <;> rfl) | (simp [*, errW_none, errW_some] <;> rfl), by repeat (first | (with_reducible first | exact HB.out | apply below_alloc | apply pw_below_drewN | apply below_drew1) | exact HB.out)⟩
                ·replace c29 := Bool.eq_false_iff.mpr c29
                 subst c29
                 have H1 : (if t168.toList = ([66, 73, 84] : List UInt8) then (some (⟨#[78, 86, 90]⟩ : ByteArray)) else (if t168.toList = ([73, 78, 67] : List UInt8) then (spec_Changes.j5 kj25 a0 t168 (t168.toList == ([73, 78, 67] : List UInt8))) else (spec_Changes.j5 kj25 a0 t168 (t168.toList == ([68, 69, 67] : List UInt8))))) = some r := by rw [if_neg (show ¬ (false = true) by decide)] at H; exact H
                 clear H
                 have H := H1
                 clear H1
                 by_cases c30 : t168.toList = ([66, 73, 84] : List UInt8)
                 ·rw [if_pos c30] at H
                  have c30b0 : (t168.toList == ([66, 73, 84] : List UInt8)) = true := beq_iff_eq.mpr c30
                  have c30b1 : (t168.toList != ([66, 73, 84] : List UInt8)) = false := bne_eq_false_iff_eq.mpr c30
                  clear c30
                  obtain rfl := Option.some.inj H
                  go_wp2
                  go_ret
                  exact ⟨by first | rfl | (simp [errW_none, errW_some] <;> rfl) | (simp [*, errW_none, errW_some] <;> rfl), by repeat (first | (with_reducible first | exact HB.out | apply below_alloc | apply pw_below_drewN | apply below_drew1) | exact HB.out)⟩
                 ·rw [if_neg c30] at H
                  have c30b0 : (t168.toList == ([66, 73, 84] : List UInt8)) = false := beq_eq_false_iff_ne.mpr c30
                  have c30b1 : (t168.toList != ([66, 73, 84] : List UInt8)) = true := bne_iff_ne.mpr c30
                  have HC31 := Aside0.mk H
                  clear H
                  go_upto_if 34 with (fail)
                  go_cut [34] (fun v34 wc => ∃ (kq : Nat) (x34_30 : Bool), v34 = .bool x34_30 ∧ Aside0 (spec_Changes.j5 kq a0 t168 x34_30 = some r) ∧ Aside0 (kq ≤ kj25) ∧ Aside0 (Below w.heap.size w wc))
                  case first =>
                   have H := HC31.out
                   clear HC31
                   by_cases c32 : t168.toList = ([73, 78, 67] : List UInt8)
                   ·rw [if_pos c32] at H
                    have c32b0 : (t168.toList == ([73, 78, 67] : List UInt8)) = true := beq_iff_eq.mpr c32
                    have c32b1 : (t168.toList != ([73, 78, 67] : List UInt8)) = false := bne_eq_false_iff_eq.mpr c32
                    clear c32
                    (first | rw [c32b0] | (simp only [i64_w, i32_w]; rw [c32b0]) | skip)
                    have H' := Aside0.mk H
                    clear H
                    go_wp2
                    go_meet
                    case rel => exact ⟨_, ((t168.toList == ([73, 78, 67] : List UInt8))), (by first | rfl | (simp; done) | (simp [*]; done)), H', ⟨by have := HJ2.out; have := HJ11.out; have := HJ17.out; have := HJ22.out; have := HJ25.out; first | omega | exact Nat.le_refl _⟩, ⟨by repeat (first | (with_reducible first | exact HB.out | apply below_alloc | apply pw_below_drewN | apply below_drew1) | exact HB.out)⟩⟩
                   ·rw [if_neg c32] at H
                    have c32b0 : (t168.toList == ([73, 78, 67] : List UInt8)) = false := beq_eq_false_iff_ne.mpr c32
                    have c32b1 : (t168.toList != ([73, 78, 67] : List UInt8)) = true := bne_iff_ne.mpr c32
                    (first | rw [c32b0] | (simp only [i64_w, i32_w]; rw [c32b0]) | skip)
                    have H' := Aside0.mk H
                    clear H
                    go_wp2
                    go_meet
                    case rel => exact ⟨_, ((t168.toList == ([68, 69, 67] : List UInt8))), (by first | rfl | (simp; done) | (simp [*]; done)), H', ⟨by have := HJ2.out; have := HJ11.out; have := HJ17.out; have := HJ22.out; have := HJ25.out; first | omega | exact Nat.le_refl _⟩, ⟨by repeat (first | (with_reducible first | exact HB.out | apply below_alloc | apply pw_below_drewN | apply below_drew1) | exact HB.out)⟩⟩
                  case rest =>
                   clear HC31
                   try clear c1
                   try clear c2
                   try clear p2
                   try clear c3
                   try clear c5
                   try clear c5b0
                   try clear c5b1
                   try clear c6
                   try clear c6b0
                   try clear c6b1
                   try clear c7
                   try clear c7b0
                   try clear c7b1
                   try clear c8
                   try clear c8b0
                   try clear c8b1
                   try clear c9
                   try clear c9b0
                   try clear c9b1
                   try clear c10
                   try clear c11
                   try clear c11b0
                   try clear c11b1
                   try clear c13
                   try clear c13b0
                   try clear c13b1
                   try clear c14
                   try clear c14b0
                   try clear c14b1
                   try clear c15
                   try clear c15b0
                   try clear c15b1
                   try clear c16
                   try clear c16b0
                   try clear c16b1
                   try clear c17
                   try clear c19
                   try clear c19b0
                   try clear c19b1
                   try clear c20
                   try clear c20b0
                   try clear c20b1
                   try clear c21
                   try clear c21b0
                   try clear c21b1
                   try clear c22
                   try clear c24
                   try clear c24b0
                   try clear c24b1
                   try clear c25
                   try clear c27
                   try clear c27b0
                   try clear c27b1
                   try clear c28
                   try clear c28b0
                   try clear c28b1
                   try clear c29
                   try clear c30
                   try clear c30b0
                   try clear c30b1
                   try clear c32
                   try clear c32b0
                   try clear c32b1
                   try clear p2
                   obtain ⟨kq, x34_30, rfl, HA, HJ30, HB⟩ := hcut
                   cases kq with
                   | zero => exact absurd HA.out (by simp [spec_Changes.j5])
                   | succ kj30 =>
                    have H := HA.out
                    clear HA
                    simp only [spec_Changes.j5] at H
                    by_cases c33 : x34_30 = true
                    ·subst c33
                     have H1 : (some (⟨#[78, 90]⟩ : ByteArray)) = some r := by rw [if_pos rfl] at H; exact H
                     clear H
                     have H := H1
                     clear H1
                     obtain rfl := Option.some.inj H
                     go_wp2
                     go_ret
                     exact ⟨by first | rfl | (simp [errW_none, errW_some] <;> rfl) | (simp [*, errW_none, errW_some] <;> rfl), by repeat (first | (with_reducible first | exact HB.out | apply below_alloc | apply pw_below_drewN | apply below_drew1) | exact HB.out)⟩
                    ·replace c33 := Bool.eq_false_iff.mpr c33
                     subst c33
                     have H1 : (if t168.toList = ([65, 83, 76] : List UInt8) then (spec_Changes.j6 kj30 a0 t168 (t168.toList == ([65, 83, 76] : List UInt8))) else (if t168.toList = ([76, 83, 82] : List UInt8) then (spec_Changes.j6 kj30 a0 t168 (t168.toList == ([76, 83, 82] : List UInt8))) else (if t168.toList = ([82, 79, 76] : List UInt8) then (spec_Changes.j6 kj30 a0 t168 (t168.toList == ([82, 79, 76] : List UInt8))) else (spec_Changes.j6 kj30 a0 t168 (t168.toList == ([82, 79, 82] : List UInt8)))))) = some r := by rw [if_neg (show ¬ (false = true) by decide)] at H; exact H
                     clear H
                     have H := H1
                     clear H1
                     have HC34 := Aside0.mk H
                     clear H
                     go_upto_if 37 with (fail)
                     go_cut [37] (fun v37 wc => ∃ (kq : Nat) (x37_33 : Bool), v37 = .bool x37_33 ∧ Aside0 (spec_Changes.j6 kq a0 t168 x37_33 = some r) ∧ Aside0 (kq ≤ kj30) ∧ Aside0 (Below w.heap.size w wc))
                     case first =>
                      have H := HC34.out
                      clear HC34
                      by_cases c35 : t168.toList = ([65, 83, 76] : List UInt8)
                      ·rw [if_pos c35] at H
                       have c35b0 : (t168.toList == ([65, 83, 76] : List UInt8)) = true := beq_iff_eq.mpr c35
                       have c35b1 : (t168.toList != ([65, 83, 76] : List UInt8)) = false := bne_eq_false_iff_eq.mpr c35
                       clear c35
                       (first | rw [c35b0] | (simp only [i64_w, i32_w]; rw [c35b0]) | skip)
                       have H' := Aside0.mk H
                       clear H
                       go_wp2
                       go_meet
                       case rel => exact ⟨_, ((t168.toList == ([65, 83, 76] : List UInt8))), (by first | rfl | (simp; done) | (simp [*]; done)), H', ⟨by have := HJ2.out; have := HJ11.out; have := HJ17.out; have := HJ22.out; have := HJ25.out; have := HJ30.out; first | omega | exact Nat.le_refl _⟩, ⟨by repeat (first | (with_reducible first | exact HB.out | apply below_alloc | apply pw_below_drewN | apply below_drew1) | exact HB.out)⟩⟩
                      ·rw [if_neg c35] at H
                       have c35b0 : (t168.toList == ([65, 83, 76] : List UInt8)) = false := beq_eq_false_iff_ne.mpr c35
                       have c35b1 : (t168.toList != ([65, 83, 76] : List UInt8)) = true := bne_iff_ne.mpr c35
                       (first | rw [c35b0] | (simp only [i64_w, i32_w]; rw [c35b0]) | skip)
                       by_cases c36 : t168.toList = ([76, 83, 82] : List UInt8)
                       ·rw [if_pos c36] at H
                        have c36b0 : (t168.toList == ([76, 83, 82] : List UInt8)) = true := beq_iff_eq.mpr c36
                        have c36b1 : (t168.toList != ([76, 83, 82] : List UInt8)) = false := bne_eq_false_iff_eq.mpr c36
                        clear c36
                        have H' := Aside0.mk H
                        clear H
                        go_wp2
                        go_meet
                        case rel => exact ⟨_, ((t168.toList == ([76, 83, 82] : List UInt8))), (by first | rfl | (simp; done) | (simp [*]; done)), H', ⟨by have := HJ2.out; have := HJ11.out; have := HJ17.out; have := HJ22.out; have := HJ25.out; have := HJ30.out; first | omega | exact Nat.le_refl _⟩, ⟨by repeat (first | (with_reducible first | exact HB.out | apply below_alloc | apply pw_below_drewN | apply below_drew1) | exact HB.out)⟩⟩
                       ·rw [if_neg c36] at H
                        have c36b0 : (t168.toList == ([76, 83, 82] : List UInt8)) = false := beq_eq_false_iff_ne.mpr c36
                        have c36b1 : (t168.toList != ([76, 83, 82] : List UInt8)) = true := bne_iff_ne.mpr c36
                        by_cases c37 : t168.toList = ([82, 79, 76] : List UInt8)
                        ·rw [if_pos c37] at H
                         have c37b0 : (t168.toList == ([82, 79, 76] : List UInt8)) = true := beq_iff_eq.mpr c37
                         have c37b1 : (t168.toList != ([82, 79, 76] : List UInt8)) = false := bne_eq_false_iff_eq.mpr c37
                         clear c37
                         have H' := Aside0.mk H
                         clear H
                         go_wp2
                         go_meet
                         case rel => exact ⟨_, ((t168.toList == ([82, 79, 76] : List UInt8))), (by first | rfl | (simp; done) | (simp [*]; done)), H', ⟨by have := HJ2.out; have := HJ11.out; have := HJ17.out; have := HJ22.out; have := HJ25.out; have := HJ30.out; first | omega | exact Nat.le_refl _⟩, ⟨by repeat (first | (with_reducible first | exact HB.out | apply below_alloc | apply pw_below_drewN | apply below_drew1) | exact HB.out)⟩⟩
                        ·rw [if_neg c37] at H
                         have c37b0 : (t168.toList == ([82, 79, 76] : List UInt8)) = false := beq_eq_false_iff_ne.mpr c37
                         have c37b1 : (t168.toList != ([82, 79, 76] : List UInt8)) = true := bne_iff_ne.mpr c37
                         have H' := Aside0.mk H
                         clear H
                         go_wp2
                         go_meet
                         case rel => exact ⟨_, ((t168.toList == ([82, 79, 82] : List UInt8))), (by first | rfl | (simp; done) | (simp [*]; done)), H', ⟨by have := HJ2.out; have := HJ11.out; have := HJ17.out; have := HJ22.out; have := HJ25.out; have := HJ30.out; first | omega | exact Nat.le_refl _⟩, ⟨by repeat (first | (with_reducible first | exact HB.out | apply below_alloc | apply pw_below_drewN | apply below_drew1) | exact HB.out)⟩⟩
                     case rest =>
                      clear HC34
                      try clear c1
                      try clear c2
                      try clear p2
                      try clear c3
                      try clear c5
                      try clear c5b0
                      try clear c5b1
                      try clear c6
                      try clear c6b0
                      try clear c6b1
                      try clear c7
                      try clear c7b0
                      try clear c7b1
                      try clear c8
                      try clear c8b0
                      try clear c8b1
                      try clear c9
                      try clear c9b0
                      try clear c9b1
                      try clear c10
                      try clear c11
                      try clear c11b0
                      try clear c11b1
                      try clear c13
                      try clear c13b0
                      try clear c13b1
                      try clear c14
                      try clear c14b0
                      try clear c14b1
                      try clear c15
                      try clear c15b0
                      try clear c15b1
                      try clear c16
                      try clear c16b0
                      try clear c16b1
                      try clear c17
                      try clear c19
                      try clear c19b0
                      try clear c19b1
                      try clear c20
                      try clear c20b0
                      try clear c20b1
                      try clear c21
                      try clear c21b0
                      try clear c21b1
                      try clear c22
                      try clear c24
                      try clear c24b0
                      try clear c24b1
                      try clear c25
                      try clear c27
                      try clear c27b0
                      try clear c27b1
                      try clear c28
                      try clear c28b0
                      try clear c28b1
                      try clear c29
                      try clear c30
                      try clear c30b0
                      try clear c30b1
                      try clear c32
                      try clear c32b0
                      try clear c32b1
                      try clear c33
                      try clear c35
                      try clear c35b0
                      try clear c35b1
                      try clear c36
                      try clear c36b0
                      try clear c36b1
                      try clear c37
                      try clear c37b0
                      try clear c37b1
                      try clear p2
                      obtain ⟨kq, x37_33, rfl, HA, HJ33, HB⟩ := hcut
                      cases kq with
                      | zero => exact absurd HA.out (by simp [spec_Changes.j6])
                      | succ kj33 =>
                       have H := HA.out
                       clear HA
                       simp only [spec_Changes.j6] at H
                       by_cases c38 : x37_33 = true
                       ·subst c38
                        have H1 : ((spec_ModeOf.f kj33 a0).bind fun t169 => (if t169 = 1 then (some (⟨#[65, 78, 90, 67]⟩ : ByteArray)) else (some (⟨#[78, 90, 67]⟩ : ByteArray)))) = some r := by rw [if_pos rfl] at H; exact H
                        clear H
                        have H := H1
                        clear H1
                        replace H := Option.bind_eq_some_iff.mp H
                        obtain ⟨t169, A390, H⟩ := H
                        replace H : (if t169 = 1 then (some (⟨#[65, 78, 90, 67]⟩ : ByteArray)) else (some (⟨#[78, 90, 67]⟩ : ByteArray))) = some r := H
                        have A39 := Aside0.mk A390
                        clear A390
                        by_cases c40 : t169 = 1
                        ·rw [if_pos c40] at H
                         have c40b0 : (t169 == 1) = true := beq_iff_eq.mpr c40
                         have c40b1 : (t169 != 1) = false := bne_eq_false_iff_eq.mpr c40
                         clear c40
                         obtain rfl := Option.some.inj H
                         go_wp2_with (first | ((with_reducible refine gate_callee (f := 17) rfl ?_); refine goesL_ (some 43) rfl rfl Tryd.func17 (by kernel_rfl) rfl #[.int .u8 a0] rfl (by (try simp only [List.map_toArray, List.map_cons, List.map_nil]); first | done | rfl | (simp only [List.length_drop, List.length_take]; rfl)) ?_; (with_reducible refine (spec_ModeOf.calls kj33 a0 t169 _ A39.out).mono ?_); rintro e w41 ⟨rfl, hb⟩; refine ⟨_, rfl, ?_⟩; have n0_ := Aside0.mk (below_step (by repeat (first | (with_reducible first | exact HB.out | apply below_alloc | apply pw_below_drewN | apply below_drew1) | exact HB.out)) hb); clear HB; have HB := n0_; clear n0_; (try clear hb); (try clear hb2); (try clear hk); (try clear hi)))
                         go_ret
                         exact ⟨by first | rfl | (simp [errW_none, errW_some] <;> rfl) | (simp [*, errW_none, errW_some] <;> rfl), by repeat (first | (with_reducible first | exact HB.out | apply below_alloc | apply pw_below_drewN | apply below_drew1) | exact HB.out)⟩
                        ·rw [if_neg c40] at H
                         have c40b0 : (t169 == 1) = false := beq_eq_false_iff_ne.mpr c40
                         have c40b1 : (t169 != 1) = true := bne_iff_ne.mpr c40
                         obtain rfl := Option.some.inj H
                         go_wp2_with (first | ((with_reducible refine gate_callee (f := 17) rfl ?_); refine goesL_ (some 43) rfl rfl Tryd.func17 (by kernel_rfl) rfl #[.int .u8 a0] rfl (by (try simp only [List.map_toArray, List.map_cons, List.map_nil]); first | done | rfl | (simp only [List.length_drop, List.length_take]; rfl)) ?_; (with_reducible refine (spec_ModeOf.calls kj33 a0 t169 _ A39.out).mono ?_); rintro e w42 ⟨rfl, hb⟩; refine ⟨_, rfl, ?_⟩; have n0_ := Aside0.mk (below_step (by repeat (first | (with_reducible first | exact HB.out | apply below_alloc | apply pw_below_drewN | apply below_drew1) | exact HB.out)) hb); clear HB; have HB := n0_; clear n0_; (try clear hb); (try clear hb2); (try clear hk); (try clear hi)))
                         go_ret
                         exact ⟨by first | rfl | (simp [errW_none, errW_some] <;> rfl) | (simp [*, errW_none, errW_some] <;> rfl), by repeat (first | (with_reducible first | exact HB.out | apply below_alloc | apply pw_below_drewN | apply below_drew1) | exact HB.out)⟩
                       ·replace c38 := Bool.eq_false_iff.mpr c38
                        subst c38
                        have H1 : (if t168.toList = ([84, 88, 83] : List UInt8) then (spec_Changes.j7 kj33 t168 (t168.toList == ([84, 88, 83] : List UInt8))) else (if t168.toList = ([74, 83, 82] : List UInt8) then (spec_Changes.j7 kj33 t168 (t168.toList == ([74, 83, 82] : List UInt8))) else (if t168.toList = ([82, 84, 83] : List UInt8) then (spec_Changes.j7 kj33 t168 (t168.toList == ([82, 84, 83] : List UInt8))) else (if t168.toList = ([80, 72, 65] : List UInt8) then (spec_Changes.j7 kj33 t168 (t168.toList == ([80, 72, 65] : List UInt8))) else (spec_Changes.j7 kj33 t168 (t168.toList == ([80, 72, 80] : List UInt8))))))) = some r := by rw [if_neg (show ¬ (false = true) by decide)] at H; exact H
                        clear H
                        have H := H1
                        clear H1
                        have HC43 := Aside0.mk H
                        clear H
                        go_upto_if 45 with (fail)
                        go_cut [45] (fun v45 wc => ∃ (kq : Nat) (x45_42 : Bool), v45 = .bool x45_42 ∧ Aside0 (spec_Changes.j7 kq t168 x45_42 = some r) ∧ Aside0 (kq ≤ kj33) ∧ Aside0 (Below w.heap.size w wc))
                        case first =>
                         have H := HC43.out
                         clear HC43
                         by_cases c44 : t168.toList = ([84, 88, 83] : List UInt8)
                         ·rw [if_pos c44] at H
                          have c44b0 : (t168.toList == ([84, 88, 83] : List UInt8)) = true := beq_iff_eq.mpr c44
                          have c44b1 : (t168.toList != ([84, 88, 83] : List UInt8)) = false := bne_eq_false_iff_eq.mpr c44
                          clear c44
                          (first | rw [c44b0] | (simp only [i64_w, i32_w]; rw [c44b0]) | skip)
                          have H' := Aside0.mk H
                          clear H
                          go_wp2
                          go_meet
                          case rel => exact ⟨_, ((t168.toList == ([84, 88, 83] : List UInt8))), (by first | rfl | (simp; done) | (simp [*]; done)), H', ⟨by have := HJ2.out; have := HJ11.out; have := HJ17.out; have := HJ22.out; have := HJ25.out; have := HJ30.out; have := HJ33.out; first | omega | exact Nat.le_refl _⟩, ⟨by repeat (first | (with_reducible first | exact HB.out | apply below_alloc | apply pw_below_drewN | apply below_drew1) | exact HB.out)⟩⟩
                         ·rw [if_neg c44] at H
                          have c44b0 : (t168.toList == ([84, 88, 83] : List UInt8)) = false := beq_eq_false_iff_ne.mpr c44
                          have c44b1 : (t168.toList != ([84, 88, 83] : List UInt8)) = true := bne_iff_ne.mpr c44
                          (first | rw [c44b0] | (simp only [i64_w, i32_w]; rw [c44b0]) | skip)
                          by_cases c45 : t168.toList = ([74, 83, 82] : List UInt8)
                          ·rw [if_pos c45] at H
                           have c45b0 : (t168.toList == ([74, 83, 82] : List UInt8)) = true := beq_iff_eq.mpr c45
                           have c45b1 : (t168.toList != ([74, 83, 82] : List UInt8)) = false := bne_eq_false_iff_eq.mpr c45
                           clear c45
                           have H' := Aside0.mk H
                           clear H
                           go_wp2
                           go_meet
                           case rel => exact ⟨_, ((t168.toList == ([74, 83, 82] : List UInt8))), (by first | rfl | (simp; done) | (simp [*]; done)), H', ⟨by have := HJ2.out; have := HJ11.out; have := HJ17.out; have := HJ22.out; have := HJ25.out; have := HJ30.out; have := HJ33.out; first | omega | exact Nat.le_refl _⟩, ⟨by repeat (first | (with_reducible first | exact HB.out | apply below_alloc | apply pw_below_drewN | apply below_drew1) | exact HB.out)⟩⟩
                          ·rw [if_neg c45] at H
                           have c45b0 : (t168.toList == ([74, 83, 82] : List UInt8)) = false := beq_eq_false_iff_ne.mpr c45
                           have c45b1 : (t168.toList != ([74, 83, 82] : List UInt8)) = true := bne_iff_ne.mpr c45
                           by_cases c46 : t168.toList = ([82, 84, 83] : List UInt8)
                           ·rw [if_pos c46] at H
                            have c46b0 : (t168.toList == ([82, 84, 83] : List UInt8)) = true := beq_iff_eq.mpr c46
                            have c46b1 : (t168.toList != ([82, 84, 83] : List UInt8)) = false := bne_eq_false_iff_eq.mpr c46
                            clear c46
                            have H' := Aside0.mk H
                            clear H
                            go_wp2
                            go_meet
                            case rel => exact ⟨_, ((t168.toList == ([82, 84, 83] : List UInt8))), (by first | rfl | (simp; done) | (simp [*]; done)), H', ⟨by have := HJ2.out; have := HJ11.out; have := HJ17.out; have := HJ22.out; have := HJ25.out; have := HJ30.out; have := HJ33.out; first | omega | exact Nat.le_refl _⟩, ⟨by repeat (first | (with_reducible first | exact HB.out | apply below_alloc | apply pw_below_drewN | apply below_drew1) | exact HB.out)⟩⟩
                           ·rw [if_neg c46] at H
                            have c46b0 : (t168.toList == ([82, 84, 83] : List UInt8)) = false := beq_eq_false_iff_ne.mpr c46
                            have c46b1 : (t168.toList != ([82, 84, 83] : List UInt8)) = true := bne_iff_ne.mpr c46
                            by_cases c47 : t168.toList = ([80, 72, 65] : List UInt8)
                            ·rw [if_pos c47] at H
                             have c47b0 : (t168.toList == ([80, 72, 65] : List UInt8)) = true := beq_iff_eq.mpr c47
                             have c47b1 : (t168.toList != ([80, 72, 65] : List UInt8)) = false := bne_eq_false_iff_eq.mpr c47
                             clear c47
                             have H' := Aside0.mk H
                             clear H
                             go_wp2
                             go_meet
                             case rel => exact ⟨_, ((t168.toList == ([80, 72, 65] : List UInt8))), (by first | rfl | (simp; done) | (simp [*]; done)), H', ⟨by have := HJ2.out; have := HJ11.out; have := HJ17.out; have := HJ22.out; have := HJ25.out; have := HJ30.out; have := HJ33.out; first | omega | exact Nat.le_refl _⟩, ⟨by repeat (first | (with_reducible first | exact HB.out | apply below_alloc | apply pw_below_drewN | apply below_drew1) | exact HB.out)⟩⟩
                            ·rw [if_neg c47] at H
                             have c47b0 : (t168.toList == ([80, 72, 65] : List UInt8)) = false := beq_eq_false_iff_ne.mpr c47
                             have c47b1 : (t168.toList != ([80, 72, 65] : List UInt8)) = true := bne_iff_ne.mpr c47
                             have H' := Aside0.mk H
                             clear H
                             go_wp2
                             go_meet
                             case rel => exact ⟨_, ((t168.toList == ([80, 72, 80] : List UInt8))), (by first | rfl | (simp; done) | (simp [*]; done)), H', ⟨by have := HJ2.out; have := HJ11.out; have := HJ17.out; have := HJ22.out; have := HJ25.out; have := HJ30.out; have := HJ33.out; first | omega | exact Nat.le_refl _⟩, ⟨by repeat (first | (with_reducible first | exact HB.out | apply below_alloc | apply pw_below_drewN | apply below_drew1) | exact HB.out)⟩⟩
                        case rest =>
                         clear HC43
                         try clear c1
                         try clear c2
                         try clear p2
                         try clear c3
                         try clear c4
                         try clear c5
                         try clear c5b0
                         try clear c5b1
                         try clear c6
                         try clear c6b0
                         try clear c6b1
                         try clear c7
                         try clear c7b0
                         try clear c7b1
                         try clear c8
                         try clear c8b0
                         try clear c8b1
                         try clear c9
                         try clear c9b0
                         try clear c9b1
                         try clear c10
                         try clear c11
                         try clear c11b0
                         try clear c11b1
                         try clear c13
                         try clear c13b0
                         try clear c13b1
                         try clear c14
                         try clear c14b0
                         try clear c14b1
                         try clear c15
                         try clear c15b0
                         try clear c15b1
                         try clear c16
                         try clear c16b0
                         try clear c16b1
                         try clear c17
                         try clear c19
                         try clear c19b0
                         try clear c19b1
                         try clear c20
                         try clear c20b0
                         try clear c20b1
                         try clear c21
                         try clear c21b0
                         try clear c21b1
                         try clear c22
                         try clear c24
                         try clear c24b0
                         try clear c24b1
                         try clear c25
                         try clear c27
                         try clear c27b0
                         try clear c27b1
                         try clear c28
                         try clear c28b0
                         try clear c28b1
                         try clear c29
                         try clear c30
                         try clear c30b0
                         try clear c30b1
                         try clear c32
                         try clear c32b0
                         try clear c32b1
                         try clear c33
                         try clear c35
                         try clear c35b0
                         try clear c35b1
                         try clear c36
                         try clear c36b0
                         try clear c36b1
                         try clear c37
                         try clear c37b0
                         try clear c37b1
                         try clear c38
                         try clear c40
                         try clear c40b0
                         try clear c40b1
                         try clear c44
                         try clear c44b0
                         try clear c44b1
                         try clear c45
                         try clear c45b0
                         try clear c45b1
                         try clear c46
                         try clear c46b0
                         try clear c46b1
                         try clear c47
                         try clear c47b0
                         try clear c47b1
                         try clear p2
                         obtain ⟨kq, x45_42, rfl, HA, HJ42, HB⟩ := hcut
                         cases kq with
                         | zero => exact absurd HA.out (by simp [spec_Changes.j7])
                         | succ kj42 =>
                          have H := HA.out
                          clear HA
                          simp only [spec_Changes.j7] at H
                          by_cases c48 : x45_42 = true
                          ·subst c48
                           have H1 : (some (⟨#[83]⟩ : ByteArray)) = some r := by rw [if_pos rfl] at H; exact H
                           clear H
                           have H := H1
                           clear H1
                           obtain rfl := Option.some.inj H
                           go_wp2
                           go_ret
                           exact ⟨by first | rfl | (simp [errW_none, errW_some] <;> rfl) | (simp [*, errW_none, errW_some] <;> rfl), by repeat (first | (with_reducible first | exact HB.out | apply below_alloc | apply pw_below_drewN | apply below_drew1) | exact HB.out)⟩
                          ·replace c48 := Bool.eq_false_iff.mpr c48
                           subst c48
                           have H1 : (if t168.toList = ([67, 76, 67] : List UInt8) then (spec_Changes.j8 kj42 t168 (t168.toList == ([67, 76, 67] : List UInt8))) else (spec_Changes.j8 kj42 t168 (t168.toList == ([83, 69, 67] : List UInt8)))) = some r := by rw [if_neg (show ¬ (false = true) by decide)] at H; exact H
                           clear H
                           have H := H1
                           clear H1
                           have HC49 := Aside0.mk H
                           clear H
                           go_upto_if 51 with (fail)
                           go_cut [51] (fun v51 wc => ∃ (kq : Nat) (x51_48 : Bool), v51 = .bool x51_48 ∧ Aside0 (spec_Changes.j8 kq t168 x51_48 = some r) ∧ Aside0 (kq ≤ kj42) ∧ Aside0 (Below w.heap.size w wc))
                           case first =>
                            have H := HC49.out
                            clear HC49
                            by_cases c50 : t168.toList = ([67, 76, 67] : List UInt8)
                            ·rw [if_pos c50] at H
                             have c50b0 : (t168.toList == ([67, 76, 67] : List UInt8)) = true := beq_iff_eq.mpr c50
                             have c50b1 : (t168.toList != ([67, 76, 67] : List UInt8)) = false := bne_eq_false_iff_eq.mpr c50
                             clear c50
                             (first | rw [c50b0] | (simp only [i64_w, i32_w]; rw [c50b0]) | skip)
                             have H' := Aside0.mk H
                             clear H
                             go_wp2
                             go_meet
                             case rel => exact ⟨_, ((t168.toList == ([67, 76, 67] : List UInt8))), (by first | rfl | (simp; done) | (simp [*]; done)), H', ⟨by have := HJ2.out; have := HJ11.out; have := HJ17.out; have := HJ22.out; have := HJ25.out; have := HJ30.out; have := HJ33.out; have := HJ42.out; first | omega | exact Nat.le_refl _⟩, ⟨by repeat (first | (with_reducible first | exact HB.out | apply below_alloc | apply pw_below_drewN | apply below_drew1) | exact HB.out)⟩⟩
                            ·rw [if_neg c50] at H
                             have c50b0 : (t168.toList == ([67, 76, 67] : List UInt8)) = false := beq_eq_false_iff_ne.mpr c50
                             have c50b1 : (t168.toList != ([67, 76, 67] : List UInt8)) = true := bne_iff_ne.mpr c50
                             (first | rw [c50b0] | (simp only [i64_w, i32_w]; rw [c50b0]) | skip)
                             have H' := Aside0.mk H
                             clear H
                             go_wp2
                             go_meet
                             case rel => exact ⟨_, ((t168.toList == ([83, 69, 67] : List UInt8))), (by first | rfl | (simp; done) | (simp [*]; done)), H', ⟨by have := HJ2.out; have := HJ11.out; have := HJ17.out; have := HJ22.out; have := HJ25.out; have := HJ30.out; have := HJ33.out; have := HJ42.out; first | omega | exact Nat.le_refl _⟩, ⟨by repeat (first | (with_reducible first | exact HB.out | apply below_alloc | apply pw_below_drewN | apply below_drew1) | exact HB.out)⟩⟩
                           case rest =>
                            clear HC49
                            try clear c1
                            try clear c2
                            try clear p2
                            try clear c3
                            try clear c4
                            try clear c5
                            try clear c5b0
                            try clear c5b1
                            try clear c6
                            try clear c6b0
                            try clear c6b1
                            try clear c7
                            try clear c7b0
                            try clear c7b1
                            try clear c8
                            try clear c8b0
                            try clear c8b1
                            try clear c9
                            try clear c9b0
                            try clear c9b1
                            try clear c10
                            try clear c11
                            try clear c11b0
                            try clear c11b1
                            try clear c13
                            try clear c13b0
                            try clear c13b1
                            try clear c14
                            try clear c14b0
                            try clear c14b1
                            try clear c15
                            try clear c15b0
                            try clear c15b1
                            try clear c16
                            try clear c16b0
                            try clear c16b1
                            try clear c17
                            try clear c19
                            try clear c19b0
                            try clear c19b1
                            try clear c20
                            try clear c20b0
                            try clear c20b1
                            try clear c21
                            try clear c21b0
                            try clear c21b1
                            try clear c22
                            try clear c24
                            try clear c24b0
                            try clear c24b1
                            try clear c25
                            try clear c27
                            try clear c27b0
                            try clear c27b1
                            try clear c28
                            try clear c28b0
                            try clear c28b1
                            try clear c29
                            try clear c30
                            try clear c30b0
                            try clear c30b1
                            try clear c32
                            try clear c32b0
                            try clear c32b1
                            try clear c33
                            try clear c35
                            try clear c35b0
                            try clear c35b1
                            try clear c36
                            try clear c36b0
                            try clear c36b1
                            try clear c37
                            try clear c37b0
                            try clear c37b1
                            try clear c38
                            try clear c40
                            try clear c40b0
                            try clear c40b1
                            try clear c44
                            try clear c44b0
                            try clear c44b1
                            try clear c45
                            try clear c45b0
                            try clear c45b1
                            try clear c46
                            try clear c46b0
                            try clear c46b1
                            try clear c47
                            try clear c47b0
                            try clear c47b1
                            try clear c48
                            try clear c50
                            try clear c50b0
                            try clear c50b1
                            try clear p2
                            obtain ⟨kq, x51_48, rfl, HA, HJ48, HB⟩ := hcut
                            cases kq with
                            | zero => exact absurd HA.out (by simp [spec_Changes.j8])
                            | succ kj48 =>
                             have H := HA.out
                             clear HA
                             simp only [spec_Changes.j8] at H
                             by_cases c51 : x51_48 = true
                             ·subst c51
                              have H1 : (some (⟨#[67]⟩ : ByteArray)) = some r := by rw [if_pos rfl] at H; exact H
                              clear H
                              have H := H1
                              clear H1
                              obtain rfl := Option.some.inj H
                              go_wp2
                              go_ret
                              exact ⟨by first | rfl | (simp [errW_none, errW_some] <;> rfl) | (simp [*, errW_none, errW_some] <;> rfl), by repeat (first | (with_reducible first | exact HB.out | apply below_alloc | apply pw_below_drewN | apply below_drew1) | exact HB.out)⟩
                             ·replace c51 := Bool.eq_false_iff.mpr c51
                              subst c51
                              have H1 : (if t168.toList = ([67, 76, 73] : List UInt8) then (spec_Changes.j9 kj48 t168 (t168.toList == ([67, 76, 73] : List UInt8))) else (spec_Changes.j9 kj48 t168 (t168.toList == ([83, 69, 73] : List UInt8)))) = some r := by rw [if_neg (show ¬ (false = true) by decide)] at H; exact H
                              clear H
                              have H := H1
                              clear H1
                              have HC52 := Aside0.mk H
                              clear H
                              go_upto_if 54 with (fail)
                              go_cut [54] (fun v54 wc => ∃ (kq : Nat) (x54_51 : Bool), v54 = .bool x54_51 ∧ Aside0 (spec_Changes.j9 kq t168 x54_51 = some r) ∧ Aside0 (kq ≤ kj48) ∧ Aside0 (Below w.heap.size w wc))
                              case first =>
                               have H := HC52.out
                               clear HC52
                               by_cases c53 : t168.toList = ([67, 76, 73] : List UInt8)
                               ·rw [if_pos c53] at H
                                have c53b0 : (t168.toList == ([67, 76, 73] : List UInt8)) = true := beq_iff_eq.mpr c53
                                have c53b1 : (t168.toList != ([67, 76, 73] : List UInt8)) = false := bne_eq_false_iff_eq.mpr c53
                                clear c53
                                (first | rw [c53b0] | (simp only [i64_w, i32_w]; rw [c53b0]) | skip)
                                have H' := Aside0.mk H
                                clear H
                                go_wp2
                                go_meet
                                case rel => exact ⟨_, ((t168.toList == ([67, 76, 73] : List UInt8))), (by first | rfl | (simp; done) | (simp [*]; done)), H', ⟨by have := HJ2.out; have := HJ11.out; have := HJ17.out; have := HJ22.out; have := HJ25.out; have := HJ30.out; have := HJ33.out; have := HJ42.out; have := HJ48.out; first | omega | exact Nat.le_refl _⟩, ⟨by repeat (first | (with_reducible first | exact HB.out | apply below_alloc | apply pw_below_drewN | apply below_drew1) | exact HB.out)⟩⟩
                               ·rw [if_neg c53] at H
                                have c53b0 : (t168.toList == ([67, 76, 73] : List UInt8)) = false := beq_eq_false_iff_ne.mpr c53
                                have c53b1 : (t168.toList != ([67, 76, 73] : List UInt8)) = true := bne_iff_ne.mpr c53
                                (first | rw [c53b0] | (simp only [i64_w, i32_w]; rw [c53b0]) | skip)
                                have H' := Aside0.mk H
                                clear H
                                go_wp2
                                go_meet
                                case rel => exact ⟨_, ((t168.toList == ([83, 69, 73] : List UInt8))), (by first | rfl | (simp; done) | (simp [*]; done)), H', ⟨by have := HJ2.out; have := HJ11.out; have := HJ17.out; have := HJ22.out; have := HJ25.out; have := HJ30.out; have := HJ33.out; have := HJ42.out; have := HJ48.out; first | omega | exact Nat.le_refl _⟩, ⟨by repeat (first | (with_reducible first | exact HB.out | apply below_alloc | apply pw_below_drewN | apply below_drew1) | exact HB.out)⟩⟩
                              case rest =>
                               clear HC52
                               try clear c1
                               try clear c2
                               try clear p2
                               try clear c3
                               try clear c4
                               try clear c5
                               try clear c5b0
                               try clear c5b1
                               try clear c6
                               try clear c6b0
                               try clear c6b1
                               try clear c7
                               try clear c7b0
                               try clear c7b1
                               try clear c8
                               try clear c8b0
                               try clear c8b1
                               try clear c9
                               try clear c9b0
                               try clear c9b1
                               try clear c10
                               try clear c11
                               try clear c11b0
                               try clear c11b1
                               try clear c13
                               try clear c13b0
                               try clear c13b1
                               try clear c14
                               try clear c14b0
                               try clear c14b1
                               try clear c15
                               try clear c15b0
                               try clear c15b1
                               try clear c16
                               try clear c16b0
                               try clear c16b1
                               try clear c17
                               try clear c19
                               try clear c19b0
                               try clear c19b1
                               try clear c20
                               try clear c20b0
                               try clear c20b1
                               try clear c21
                               try clear c21b0
                               try clear c21b1
                               try clear c22
                               try clear c24
                               try clear c24b0
                               try clear c24b1
                               try clear c25
                               try clear c27
                               try clear c27b0
                               try clear c27b1
                               try clear c28
                               try clear c28b0
                               try clear c28b1
                               try clear c29
                               try clear c30
                               try clear c30b0
                               try clear c30b1
                               try clear c32
                               try clear c32b0
                               try clear c32b1
                               try clear c33
                               try clear c35
                               try clear c35b0
                               try clear c35b1
                               try clear c36
                               try clear c36b0
                               try clear c36b1
                               try clear c37
                               try clear c37b0
                               try clear c37b1
                               try clear c38
                               try clear c40
                               try clear c40b0
                               try clear c40b1
                               try clear c44
                               try clear c44b0
                               try clear c44b1
                               try clear c45
                               try clear c45b0
                               try clear c45b1
                               try clear c46
                               try clear c46b0
                               try clear c46b1
                               try clear c47
                               try clear c47b0
                               try clear c47b1
                               try clear c48
                               try clear c50
                               try clear c50b0
                               try clear c50b1
                               try clear c51
                               try clear c53
                               try clear c53b0
                               try clear c53b1
                               try clear p2
                               obtain ⟨kq, x54_51, rfl, HA, HJ51, HB⟩ := hcut
                               cases kq with
                               | zero => exact absurd HA.out (by simp [spec_Changes.j9])
                               | succ kj51 =>
                                have H := HA.out
                                clear HA
                                simp only [spec_Changes.j9] at H
                                by_cases c54 : x54_51 = true
                                ·subst c54
                                 have H1 : (some (⟨#[73]⟩ : ByteArray)) = some r := by rw [if_pos rfl] at H; exact H
                                 clear H
                                 have H := H1
                                 clear H1
                                 obtain rfl := Option.some.inj H
                                 go_wp2
                                 go_ret
                                 exact ⟨by first | rfl | (simp [errW_none, errW_some] <;> rfl) | (simp [*, errW_none, errW_some] <;> rfl), by repeat (first | (with_reducible first | exact HB.out | apply below_alloc | apply pw_below_drewN | apply below_drew1) | exact HB.out)⟩
                                ·replace c54 := Bool.eq_false_iff.mpr c54
                                 subst c54
                                 have H1 : (if t168.toList = ([67, 76, 68] : List UInt8) then (spec_Changes.j10 kj51 t168 (t168.toList == ([67, 76, 68] : List UInt8))) else (spec_Changes.j10 kj51 t168 (t168.toList == ([83, 69, 68] : List UInt8)))) = some r := by rw [if_neg (show ¬ (false = true) by decide)] at H; exact H
                                 clear H
                                 have H := H1
                                 clear H1
                                 have HC55 := Aside0.mk H
                                 clear H
                                 go_upto_if 57 with (fail)
                                 go_cut [57] (fun v57 wc => ∃ (kq : Nat) (x57_54 : Bool), v57 = .bool x57_54 ∧ Aside0 (spec_Changes.j10 kq t168 x57_54 = some r) ∧ Aside0 (kq ≤ kj51) ∧ Aside0 (Below w.heap.size w wc))
                                 case first =>
                                  have H := HC55.out
                                  clear HC55
                                  by_cases c56 : t168.toList = ([67, 76, 68] : List UInt8)
                                  ·rw [if_pos c56] at H
                                   have c56b0 : (t168.toList == ([67, 76, 68] : List UInt8)) = true := beq_iff_eq.mpr c56
                                   have c56b1 : (t168.toList != ([67, 76, 68] : List UInt8)) = false := bne_eq_false_iff_eq.mpr c56
                                   clear c56
                                   (first | rw [c56b0] | (simp only [i64_w, i32_w]; rw [c56b0]) | skip)
                                   have H' := Aside0.mk H
                                   clear H
                                   go_wp2
                                   go_meet
                                   case rel => exact ⟨_, ((t168.toList == ([67, 76, 68] : List UInt8))), (by first | rfl | (simp; done) | (simp [*]; done)), H', ⟨by have := HJ2.out; have := HJ11.out; have := HJ17.out; have := HJ22.out; have := HJ25.out; have := HJ30.out; have := HJ33.out; have := HJ42.out; have := HJ48.out; have := HJ51.out; first | omega | exact Nat.le_refl _⟩, ⟨by repeat (first | (with_reducible first | exact HB.out | apply below_alloc | apply pw_below_drewN | apply below_drew1) | exact HB.out)⟩⟩
                                  ·rw [if_neg c56] at H
                                   have c56b0 : (t168.toList == ([67, 76, 68] : List UInt8)) = false := beq_eq_false_iff_ne.mpr c56
                                   have c56b1 : (t168.toList != ([67, 76, 68] : List UInt8)) = true := bne_iff_ne.mpr c56
                                   (first | rw [c56b0] | (simp only [i64_w, i32_w]; rw [c56b0]) | skip)
                                   have H' := Aside0.mk H
                                   clear H
                                   go_wp2
                                   go_meet
                                   case rel => exact ⟨_, ((t168.toList == ([83, 69, 68] : List UInt8))), (by first | rfl | (simp; done) | (simp [*]; done)), H', ⟨by have := HJ2.out; have := HJ11.out; have := HJ17.out; have := HJ22.out; have := HJ25.out; have := HJ30.out; have := HJ33.out; have := HJ42.out; have := HJ48.out; have := HJ51.out; first | omega | exact Nat.le_refl _⟩, ⟨by repeat (first | (with_reducible first | exact HB.out | apply below_alloc | apply pw_below_drewN | apply below_drew1) | exact HB.out)⟩⟩
                                 case rest =>
                                  clear HC55
                                  try clear c1
                                  try clear c2
                                  try clear p2
                                  try clear c3
                                  try clear c4
                                  try clear c5
                                  try clear c5b0
                                  try clear c5b1
                                  try clear c6
                                  try clear c6b0
                                  try clear c6b1
                                  try clear c7
                                  try clear c7b0
                                  try clear c7b1
                                  try clear c8
                                  try clear c8b0
                                  try clear c8b1
                                  try clear c9
                                  try clear c9b0
                                  try clear c9b1
                                  try clear c10
                                  try clear c11
                                  try clear c11b0
                                  try clear c11b1
                                  try clear c13
                                  try clear c13b0
                                  try clear c13b1
                                  try clear c14
                                  try clear c14b0
                                  try clear c14b1
                                  try clear c15
                                  try clear c15b0
                                  try clear c15b1
                                  try clear c16
                                  try clear c16b0
                                  try clear c16b1
                                  try clear c17
                                  try clear c19
                                  try clear c19b0
                                  try clear c19b1
                                  try clear c20
                                  try clear c20b0
                                  try clear c20b1
                                  try clear c21
                                  try clear c21b0
                                  try clear c21b1
                                  try clear c22
                                  try clear c24
                                  try clear c24b0
                                  try clear c24b1
                                  try clear c25
                                  try clear c27
                                  try clear c27b0
                                  try clear c27b1
                                  try clear c28
                                  try clear c28b0
                                  try clear c28b1
                                  try clear c29
                                  try clear c30
                                  try clear c30b0
                                  try clear c30b1
                                  try clear c32
                                  try clear c32b0
                                  try clear c32b1
                                  try clear c33
                                  try clear c35
                                  try clear c35b0
                                  try clear c35b1
                                  try clear c36
                                  try clear c36b0
                                  try clear c36b1
                                  try clear c37
                                  try clear c37b0
                                  try clear c37b1
                                  try clear c38
                                  try clear c40
                                  try clear c40b0
                                  try clear c40b1
                                  try clear c44
                                  try clear c44b0
                                  try clear c44b1
                                  try clear c45
                                  try clear c45b0
                                  try clear c45b1
                                  try clear c46
                                  try clear c46b0
                                  try clear c46b1
                                  try clear c47
                                  try clear c47b0
                                  try clear c47b1
                                  try clear c48
                                  try clear c50
                                  try clear c50b0
                                  try clear c50b1
                                  try clear c51
                                  try clear c53
                                  try clear c53b0
                                  try clear c53b1
                                  try clear c54
                                  try clear c56
                                  try clear c56b0
                                  try clear c56b1
                                  try clear p2
                                  obtain ⟨kq, x57_54, rfl, HA, HJ54, HB⟩ := hcut
                                  cases kq with
                                  | zero => exact absurd HA.out (by simp [spec_Changes.j10])
                                  | succ kj54 =>
                                   have H := HA.out
                                   clear HA
                                   simp only [spec_Changes.j10] at H
                                   by_cases c57 : x57_54 = true
                                   ·subst c57
                                    have H1 : (some (⟨#[68]⟩ : ByteArray)) = some r := by rw [if_pos rfl] at H; exact H
                                    clear H
                                    have H := H1
                                    clear H1
                                    obtain rfl := Option.some.inj H
                                    go_wp2
                                    go_ret
                                    exact ⟨by first | rfl | (simp [errW_none, errW_some] <;> rfl) | (simp [*, errW_none, errW_some] <;> rfl), by repeat (first | (with_reducible first | exact HB.out | apply below_alloc | apply pw_below_drewN | apply below_drew1) | exact HB.out)⟩
                                   ·replace c57 := Bool.eq_false_iff.mpr c57
                                    subst c57
                                    have H1 : (if t168.toList = ([67, 76, 86] : List UInt8) then (some (⟨#[86]⟩ : ByteArray)) else (if t168.toList = ([80, 76, 80] : List UInt8) then (spec_Changes.j11 kj54 t168 (t168.toList == ([80, 76, 80] : List UInt8))) else (spec_Changes.j11 kj54 t168 (t168.toList == ([82, 84, 73] : List UInt8))))) = some r := by rw [if_neg (show ¬ (false = true) by decide)] at H; exact H
                                    clear H
                                    have H := H1
                                    clear H1
                                    by_cases c58 : t168.toList = ([67, 76, 86] : List UInt8)
                                    ·rw [if_pos c58] at H
                                     have c58b0 : (t168.toList == ([67, 76, 86] : List UInt8)) = true := beq_iff_eq.mpr c58
                                     have c58b1 : (t168.toList != ([67, 76, 86] : List UInt8)) = false := bne_eq_false_iff_eq.mpr c58
                                     clear c58
                                     obtain rfl := Option.some.inj H
                                     go_wp2
                                     go_ret
                                     exact ⟨by first | rfl | (simp [errW_none, errW_some] <;> rfl) | (simp [*, errW_none, errW_some] <;> rfl), by repeat (first | (with_reducible first | exact HB.out | apply below_alloc | apply pw_below_drewN | apply below_drew1) | exact HB.out)⟩
                                    ·rw [if_neg c58] at H
                                     have c58b0 : (t168.toList == ([67, 76, 86] : List UInt8)) = false := beq_eq_false_iff_ne.mpr c58
                                     have c58b1 : (t168.toList != ([67, 76, 86] : List UInt8)) = true := bne_iff_ne.mpr c58
                                     have HC59 := Aside0.mk H
                                     clear H
                                     go_upto_if 62 with (fail)
                                     go_cut [62] (fun v62 wc => ∃ (kq : Nat) (x62_58 : Bool), v62 = .bool x62_58 ∧ Aside0 (spec_Changes.j11 kq t168 x62_58 = some r) ∧ Aside0 (kq ≤ kj54) ∧ Aside0 (Below w.heap.size w wc))
                                     case first =>
                                      have H := HC59.out
                                      clear HC59
                                      by_cases c60 : t168.toList = ([80, 76, 80] : List UInt8)
                                      ·rw [if_pos c60] at H
                                       have c60b0 : (t168.toList == ([80, 76, 80] : List UInt8)) = true := beq_iff_eq.mpr c60
                                       have c60b1 : (t168.toList != ([80, 76, 80] : List UInt8)) = false := bne_eq_false_iff_eq.mpr c60
                                       clear c60
                                       (first | rw [c60b0] | (simp only [i64_w, i32_w]; rw [c60b0]) | skip)
                                       have H' := Aside0.mk H
                                       clear H
                                       go_wp2
                                       go_meet
                                       case rel => exact ⟨_, ((t168.toList == ([80, 76, 80] : List UInt8))), (by first | rfl | (simp; done) | (simp [*]; done)), H', ⟨by have := HJ2.out; have := HJ11.out; have := HJ17.out; have := HJ22.out; have := HJ25.out; have := HJ30.out; have := HJ33.out; have := HJ42.out; have := HJ48.out; have := HJ51.out; have := HJ54.out; first | omega | exact Nat.le_refl _⟩, ⟨by repeat (first | (with_reducible first | exact HB.out | apply below_alloc | apply pw_below_drewN | apply below_drew1) | exact HB.out)⟩⟩
                                      ·rw [if_neg c60] at H
                                       have c60b0 : (t168.toList == ([80, 76, 80] : List UInt8)) = false := beq_eq_false_iff_ne.mpr c60
                                       have c60b1 : (t168.toList != ([80, 76, 80] : List UInt8)) = true := bne_iff_ne.mpr c60
                                       (first | rw [c60b0] | (simp only [i64_w, i32_w]; rw [c60b0]) | skip)
                                       have H' := Aside0.mk H
                                       clear H
                                       go_wp2
                                       go_meet
                                       case rel => exact ⟨_, ((t168.toList == ([82, 84, 73] : List UInt8))), (by first | rfl | (simp; done) | (simp [*]; done)), H', ⟨by have := HJ2.out; have := HJ11.out; have := HJ17.out; have := HJ22.out; have := HJ25.out; have := HJ30.out; have := HJ33.out; have := HJ42.out; have := HJ48.out; have := HJ51.out; have := HJ54.out; first | omega | exact Nat.le_refl _⟩, ⟨by repeat (first | (with_reducible first | exact HB.out | apply below_alloc | apply pw_below_drewN | apply below_drew1) | exact HB.out)⟩⟩
                                     case rest =>
                                      clear HC59
                                      try clear c1
                                      try clear c2
                                      try clear p2
                                      try clear c3
                                      try clear c4
                                      try clear c5
                                      try clear c5b0
                                      try clear c5b1
                                      try clear c6
                                      try clear c6b0
                                      try clear c6b1
                                      try clear c7
                                      try clear c7b0
                                      try clear c7b1
                                      try clear c8
                                      try clear c8b0
                                      try clear c8b1
                                      try clear c9
                                      try clear c9b0
                                      try clear c9b1
                                      try clear c10
                                      try clear c11
                                      try clear c11b0
                                      try clear c11b1
                                      try clear c13
                                      try clear c13b0
                                      try clear c13b1
                                      try clear c14
                                      try clear c14b0
                                      try clear c14b1
                                      try clear c15
                                      try clear c15b0
                                      try clear c15b1
                                      try clear c16
                                      try clear c16b0
                                      try clear c16b1
                                      try clear c17
                                      try clear c19
                                      try clear c19b0
                                      try clear c19b1
                                      try clear c20
                                      try clear c20b0
                                      try clear c20b1
                                      try clear c21
                                      try clear c21b0
                                      try clear c21b1
                                      try clear c22
                                      try clear c24
                                      try clear c24b0
                                      try clear c24b1
                                      try clear c25
                                      try clear c27
                                      try clear c27b0
                                      try clear c27b1
                                      try clear c28
                                      try clear c28b0
                                      try clear c28b1
                                      try clear c29
                                      try clear c30
                                      try clear c30b0
                                      try clear c30b1
                                      try clear c32
                                      try clear c32b0
                                      try clear c32b1
                                      try clear c33
                                      try clear c35
                                      try clear c35b0
                                      try clear c35b1
                                      try clear c36
                                      try clear c36b0
                                      try clear c36b1
                                      try clear c37
                                      try clear c37b0
                                      try clear c37b1
                                      try clear c38
                                      try clear c40
                                      try clear c40b0
                                      try clear c40b1
                                      try clear c44
                                      try clear c44b0
                                      try clear c44b1
                                      try clear c45
                                      try clear c45b0
                                      try clear c45b1
                                      try clear c46
                                      try clear c46b0
                                      try clear c46b1
                                      try clear c47
                                      try clear c47b0
                                      try clear c47b1
                                      try clear c48
                                      try clear c50
                                      try clear c50b0
                                      try clear c50b1
                                      try clear c51
                                      try clear c53
                                      try clear c53b0
                                      try clear c53b1
                                      try clear c54
                                      try clear c56
                                      try clear c56b0
                                      try clear c56b1
                                      try clear c57
                                      try clear c58
                                      try clear c58b0
                                      try clear c58b1
                                      try clear c60
                                      try clear c60b0
                                      try clear c60b1
                                      try clear p2
                                      obtain ⟨kq, x62_58, rfl, HA, HJ58, HB⟩ := hcut
                                      cases kq with
                                      | zero => exact absurd HA.out (by simp [spec_Changes.j11])
                                      | succ kj58 =>
                                       have H := HA.out
                                       clear HA
                                       simp only [spec_Changes.j11] at H
                                       by_cases c61 : x62_58 = true
                                       ·subst c61
                                        have H1 : (some (⟨#[83, 78, 86, 68, 73, 90, 67]⟩ : ByteArray)) = some r := by rw [if_pos rfl] at H; exact H
                                        clear H
                                        have H := H1
                                        clear H1
                                        obtain rfl := Option.some.inj H
                                        go_wp2
                                        go_ret
                                        exact ⟨by first | rfl | (simp [errW_none, errW_some] <;> rfl) | (simp [*, errW_none, errW_some] <;> rfl), by repeat (first | (with_reducible first | exact HB.out | apply below_alloc | apply pw_below_drewN | apply below_drew1) | exact HB.out)⟩
                                       ·replace c61 := Bool.eq_false_iff.mpr c61
                                        subst c61
                                        have H1 : (if t168.toList = ([66, 82, 75] : List UInt8) then (some (⟨#[83, 73]⟩ : ByteArray)) else (some (⟨#[]⟩ : ByteArray))) = some r := by rw [if_neg (show ¬ (false = true) by decide)] at H; exact H
                                        clear H
                                        have H := H1
                                        clear H1
                                        by_cases c62 : t168.toList = ([66, 82, 75] : List UInt8)
                                        ·rw [if_pos c62] at H
                                         have c62b0 : (t168.toList == ([66, 82, 75] : List UInt8)) = true := beq_iff_eq.mpr c62
                                         have c62b1 : (t168.toList != ([66, 82, 75] : List UInt8)) = false := bne_eq_false_iff_eq.mpr c62
                                         clear c62
                                         obtain rfl := Option.some.inj H
                                         go_wp2
                                         go_ret
                                         exact ⟨by first | rfl | (simp [errW_none, errW_some] <;> rfl) | (simp [*, errW_none, errW_some] <;> rfl), by repeat (first | (with_reducible first | exact HB.out | apply below_alloc | apply pw_below_drewN | apply below_drew1) | exact HB.out)⟩
                                        ·rw [if_neg c62] at H
                                         have c62b0 : (t168.toList == ([66, 82, 75] : List UInt8)) = false := beq_eq_false_iff_ne.mpr c62
                                         have c62b1 : (t168.toList != ([66, 82, 75] : List UInt8)) = true := bne_iff_ne.mpr c62
                                         obtain rfl := Option.some.inj H
                                         go_wp2
                                         go_ret
                                         exact ⟨by first | rfl | (simp [errW_none, errW_some] <;> rfl) | (simp [*, errW_none, errW_some] <;> rfl), by repeat (first | (with_reducible first | exact HB.out | apply below_alloc | apply pw_below_drewN | apply below_drew1) | exact HB.out)⟩

end Go.Proofs.YtfbhgmpgkhmikaaDoor.MC
