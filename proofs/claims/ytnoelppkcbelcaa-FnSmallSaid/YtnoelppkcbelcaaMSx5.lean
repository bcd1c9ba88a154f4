-- Written by this session's own program (wip/myprint.py) over the kit's print of the translation. Lean checks it.
import Derived.Test.YtnoelppkcbelcaaMSx0
import Derived.Test.YtnoelppkcbelcaaMSx3
import Derived.Test.YtnoelppkcbelcaaMSx4
namespace Go.Proofs.Ytnoelppkcbelcaa.MS
open Go.RowKit Go.Proofs.YtnoelppkcbelcaaW.PrintWords Go.Proofs.YtnoelppkcbelcaaW.PrintLast Go.Proofs.YtnoelppkcbelcaaW.PrintMore
attribute [local go_sem] max2_int min2_int max_two min_two max_three min_three max_four min_four   -- for this text's walks alone
set_option linter.unusedVariables false
set_option linter.unusedSimpArgs false

/-! ### spec_DrawUnsqueeze: function 26 -/
def spec_DrawUnsqueeze.l0 : Nat → List Int → Int → Int → List Int → Int → Int → Option (List Int × Int × Int)
 | 0, _, _, _, _, _, _ => none
 | k + 1, x4, x5, x6, x1000, x1001, x1002 => if x6 < x5 then (if x4.length < 140737488355328 then (spec_DrawUnsqueeze.l0 k (x4 ++ [10]) x5 (wrap64 (x6 + 1)) x1000 x1001 x1002) else (none)) else (some (x4, x1001, x1002))
def spec_DrawUnsqueeze.f (k : Nat) (s0_0 : List Int) (s0_1 : Int) (s0_2 : Int) (l1 : List (S32)) : Option (List Int × Int × Int) := (spec_Squeeze.f k l1).bind fun t305 => ((spec_l01Below.f s0_0 s0_1 s0_2 6).bind fun bt308 => (if bt308.1 = 0 then ((spec_l01Below.f s0_0 bt308.2.1 bt308.2.2 (wrap64 ((t305.length : Int) + 1))).bind fun bt311 => (if 0 ≤ bt311.1 then (if bt311.1 ≤ (t305.length : Int) then (some ((t305.take (bt311.1 : Int).toNat), bt311.2.1, bt311.2.2)) else (none)) else (none))) else (if bt308.1 = 1 then (if (t305.length : Int) > 0 then ((spec_l01Below.f s0_0 bt308.2.1 bt308.2.2 (t305.length : Int)).bind fun bt317 => ((spec_l01Below.f s0_0 bt317.2.1 bt317.2.2 18).bind fun bt320 => (if 0 ≤ bt317.1 then (if bt317.1 < (t305.length : Int) then (some ((t305.set (bt317.1 : Int).toNat ((bt320.1) % 256)), bt320.2.1, bt320.2.2)) else (none)) else (none)))) else (some (t305, bt308.2.1, bt308.2.2))) else (if bt308.1 = 2 then ((spec_l01Below.f s0_0 bt308.2.1 bt308.2.2 18).bind fun bt324 => ((some (([(bt324.1) % 256, 1, 2] : List Int) : List Int)).bind fun y327 => (if t305.length + y327.length < 140737488355328 then (some ((t305 ++ y327), bt324.2.1, bt324.2.2)) else (none)))) else (if bt308.1 = 3 then ((spec_l01Below.f s0_0 bt308.2.1 bt308.2.2 3).bind fun bt333 => (spec_DrawUnsqueeze.l0 k (([] : List Int)) (wrap64 (1199 + bt333.1)) 0 s0_0 bt333.2.1 bt333.2.2)) else (some (t305, bt308.2.1, bt308.2.2)))))))
theorem spec_DrawUnsqueeze.mono_l : ∀ k, (∀ y0 y1 y2 y3 y4 y5, LeO (spec_DrawUnsqueeze.l0 k y0 y1 y2 y3 y4 y5) (spec_DrawUnsqueeze.l0 (k + 1) y0 y1 y2 y3 y4 y5))
 | 0 => fun _ _ _ _ _ _ r h => by simp [spec_DrawUnsqueeze.l0] at h
 | k + 1 => by
  have ih0 := spec_DrawUnsqueeze.mono_l k
  ·intro y0 y1 y2 y3 y4 y5
   unfold spec_DrawUnsqueeze.l0
   repeat' first
   | (with_reducible exact ih0 _ _ _ _ _ _)
   | (with_reducible exact spec_Squeeze.mono _ _)
   | (with_reducible exact LeO.refl _)
   | (with_reducible exact LeO.none _)
   | (with_reducible refine LeO.ite ?_ ?_)
   | (with_reducible refine LeO.bind ?_ (fun _ => ?_))
   | exact ih0 _ _ _ _ _ _
   | exact spec_Squeeze.mono _ _
   | exact LeO.none _
   | refine LeO.ite ?_ ?_
   | refine LeO.bind ?_ (fun _ => ?_)
theorem spec_DrawUnsqueeze.mono : ∀ a0 a1 a2 a3 k, LeO (spec_DrawUnsqueeze.f k a0 a1 a2 a3) (spec_DrawUnsqueeze.f (k + 1) a0 a1 a2 a3) := by
 intro a0 a1 a2 a3 k
 have ih0 := spec_DrawUnsqueeze.mono_l k
 unfold spec_DrawUnsqueeze.f
 repeat' first
   | (with_reducible exact ih0 _ _ _ _ _ _)
   | (with_reducible exact spec_Squeeze.mono _ _)
   | (with_reducible exact LeO.refl _)
   | (with_reducible exact LeO.none _)
   | (with_reducible refine LeO.ite ?_ ?_)
   | (with_reducible refine LeO.bind ?_ (fun _ => ?_))
   | exact ih0 _ _ _ _ _ _
   | exact spec_Squeeze.mono _ _
   | exact LeO.none _
   | refine LeO.ite ?_ ?_
   | refine LeO.bind ?_ (fun _ => ?_)
/-! ### spec_l04Word: function 73 -/
def spec_l04Word.f (a0 : Int) (a1 : Int) : Option (Int) := some (wrap64 ((wrap64 (a0)) + (wrap64 (256 * (wrap64 (a1))))))
set_option maxHeartbeats 8000000 in
set_option maxRecDepth 100000 in
theorem spec_l04Word.calls (a0 : Int) (a1 : Int) (r : Int) (w : World) (h : spec_l04Word.f a0 a1 = some r) :
  Calls Try.prog 73 #[.int .u8 a0, .int .u8 a1] w fun e w' => e = .returned (.int .i64 r) ∧ Drawn0 w w' := by
 have H : (some (wrap64 ((wrap64 (a0)) + (wrap64 (256 * (wrap64 (a1))))))) = some r := h
 clear h
 obtain rfl := Option.some.inj H
 go_enter Try.func73, Try.ntmps73
 go_wp2
 go_ret
 exact ⟨by first | rfl | (simp; done) | (simp [*]; done), by repeat (first | exact Drawn0.refl _ | apply Drawn0.step)⟩

end Go.Proofs.Ytnoelppkcbelcaa.MS
