-- Written by this session's own program (wip/myprint.py) over the kit's print of the translation. Lean checks it.
import Derived.Test.YtfbhgmpgkhmikaaDoorMAx0
import Derived.Test.YtfbhgmpgkhmikaaDoorMAx2
import Derived.Test.YtfbhgmpgkhmikaaDoorMAx3
namespace Go.Proofs.YtfbhgmpgkhmikaaDoor.MA
open Go.RowKit Go.Proofs.YtfbhgmpgkhmikaaDoorW.PrintWords Go.Proofs.YtfbhgmpgkhmikaaDoorW.PrintLast Go.Proofs.YtfbhgmpgkhmikaaDoorW.PrintMore
attribute [local go_sem] max2_int min2_int max_two min_two max_three min_three max_four min_four   -- for this text's walks alone
set_option linter.unusedVariables false
set_option linter.unusedSimpArgs false

/-! ### spec_KindOf: function 23 -/
mutual
def spec_KindOf.j0 : Nat → ByteArray → Int → ByteArray → Bool → Option (Int)
  | 0, _, _, _, _ => none
  | k + 1, x3, x4, x9, x22 => if x22 = true then (some 11) else (if x9.toList = ([80, 76, 65] : List UInt8) then (spec_KindOf.j1 k x3 x4 x9 (x9.toList == ([80, 76, 65] : List UInt8))) else (spec_KindOf.j1 k x3 x4 x9 (x9.toList == ([80, 76, 80] : List UInt8))))
def spec_KindOf.j1 : Nat → ByteArray → Int → ByteArray → Bool → Option (Int)
  | 0, _, _, _, _ => none
  | k + 1, x3, x4, x9, x25 => if x25 = true then (some 12) else (if x9.toList = ([83, 84, 65] : List UInt8) then (some 3) else (if x9.toList = ([83, 84, 88] : List UInt8) then (some 3) else (if x9.toList = ([83, 84, 89] : List UInt8) then (some 3) else (if x4 = 12 then (some 5) else (if x4 = 0 then (some 1) else (if x4 = 1 then (some 1) else (if x3.toList = ([65, 83, 76] : List UInt8) then (some 4) else (if x3.toList = ([76, 83, 82] : List UInt8) then (some 4) else (if x3.toList = ([82, 79, 76] : List UInt8) then (some 4) else (if x3.toList = ([82, 79, 82] : List UInt8) then (some 4) else (if x3.toList = ([73, 78, 67] : List UInt8) then (some 4) else (if x3.toList = ([68, 69, 67] : List UInt8) then (some 4) else (some 2)))))))))))))
end
def spec_KindOf.f (k : Nat) (a0 : Int) : Option (Int) := (spec_NameOf.f k a0).bind fun t213 => ((spec_ModeOf.f k a0).bind fun t214 => (if t213.toList = ([] : List UInt8) then (some 0) else (if t213.toList = ([74, 77, 80] : List UInt8) then (some 6) else (if t213.toList = ([74, 83, 82] : List UInt8) then (some 7) else (if t213.toList = ([82, 84, 83] : List UInt8) then (some 8) else (if t213.toList = ([82, 84, 73] : List UInt8) then (some 9) else (if t213.toList = ([66, 82, 75] : List UInt8) then (some 10) else (if t213.toList = ([80, 72, 65] : List UInt8) then (spec_KindOf.j0 k t213 t214 t213 (t213.toList == ([80, 72, 65] : List UInt8))) else (spec_KindOf.j0 k t213 t214 t213 (t213.toList == ([80, 72, 80] : List UInt8)))))))))))
theorem spec_KindOf.mono_l : ∀ k, (∀ y0 y1 y2 y3, LeO (spec_KindOf.j0 k y0 y1 y2 y3) (spec_KindOf.j0 (k + 1) y0 y1 y2 y3)) ∧ (∀ y0 y1 y2 y3, LeO (spec_KindOf.j1 k y0 y1 y2 y3) (spec_KindOf.j1 (k + 1) y0 y1 y2 y3))
  | 0 => ⟨fun _ _ _ _ r h => by simp [spec_KindOf.j0] at h, fun _ _ _ _ r h => by simp [spec_KindOf.j1] at h⟩
  | k + 1 => by
    obtain ⟨ih0, ih1⟩ := spec_KindOf.mono_l k
    refine ⟨?_, ?_⟩
    · intro y0 y1 y2 y3
      unfold spec_KindOf.j0
      repeat' first
      | (with_reducible exact ih0 _ _ _ _)
      | (with_reducible exact ih1 _ _ _ _)
      | (with_reducible exact spec_ModeOf.mono _ _)
      | (with_reducible exact spec_NameOf.mono _ _)
      | (with_reducible exact LeO.refl _)
      | (with_reducible exact LeO.none _)
      | (with_reducible refine LeO.ite ?_ ?_)
      | (with_reducible refine LeO.bind ?_ (fun _ => ?_))
      | exact ih0 _ _ _ _
      | exact ih1 _ _ _ _
      | exact spec_ModeOf.mono _ _
      | exact spec_NameOf.mono _ _
      | exact LeO.none _
      | refine LeO.ite ?_ ?_
      | refine LeO.bind ?_ (fun _ => ?_)
    · intro y0 y1 y2 y3
      unfold spec_KindOf.j1
      repeat' first
      | (with_reducible exact ih0 _ _ _ _)
      | (with_reducible exact ih1 _ _ _ _)
      | (with_reducible exact spec_ModeOf.mono _ _)
      | (with_reducible exact spec_NameOf.mono _ _)
      | (with_reducible exact LeO.refl _)
      | (with_reducible exact LeO.none _)
      | (with_reducible refine LeO.ite ?_ ?_)
      | (with_reducible refine LeO.bind ?_ (fun _ => ?_))
      | exact ih0 _ _ _ _
      | exact ih1 _ _ _ _
      | exact spec_ModeOf.mono _ _
      | exact spec_NameOf.mono _ _
      | exact LeO.none _
      | refine LeO.ite ?_ ?_
      | refine LeO.bind ?_ (fun _ => ?_)
theorem spec_KindOf.mono : ∀ a0 k, LeO (spec_KindOf.f k a0) (spec_KindOf.f (k + 1) a0) := by
  intro a0 k
  obtain ⟨ih0, ih1⟩ := spec_KindOf.mono_l k
  unfold spec_KindOf.f
  repeat' first
      | (with_reducible exact ih0 _ _ _ _)
      | (with_reducible exact ih1 _ _ _ _)
      | (with_reducible exact spec_ModeOf.mono _ _)
      | (with_reducible exact spec_NameOf.mono _ _)
      | (with_reducible exact LeO.refl _)
      | (with_reducible exact LeO.none _)
      | (with_reducible refine LeO.ite ?_ ?_)
      | (with_reducible refine LeO.bind ?_ (fun _ => ?_))
      | exact ih0 _ _ _ _
      | exact ih1 _ _ _ _
      | exact spec_ModeOf.mono _ _
      | exact spec_NameOf.mono _ _
      | exact LeO.none _
      | refine LeO.ite ?_ ?_
      | refine LeO.bind ?_ (fun _ => ?_)
set_option maxHeartbeats 8000000 in
set_option maxRecDepth 100000 in
theorem spec_KindOf.calls (k : Nat) (a0 : Int) (r : Int) (w : World) (h : spec_KindOf.f k a0 = some r) :
    Calls Tryd.prog 23 #[.int .u8 a0] w fun e w' => e = .returned (.int .i64 r) ∧ Below w.heap.size w w' := by
  have HB := Aside0.mk (Below.refl w.heap.size w)
  have H : ((spec_NameOf.f k a0).bind fun t213 => ((spec_ModeOf.f k a0).bind fun t214 => (if t213.toList = ([] : List UInt8) then (some 0) else (if t213.toList = ([74, 77, 80] : List UInt8) then (some 6) else (if t213.toList = ([74, 83, 82] : List UInt8) then (some 7) else (if t213.toList = ([82, 84, 83] : List UInt8) then (some 8) else (if t213.toList = ([82, 84, 73] : List UInt8) then (some 9) else (if t213.toList = ([66, 82, 75] : List UInt8) then (some 10) else (if t213.toList = ([80, 72, 65] : List UInt8) then (spec_KindOf.j0 k t213 t214 t213 (t213.toList == ([80, 72, 65] : List UInt8))) else (spec_KindOf.j0 k t213 t214 t213 (t213.toList == ([80, 72, 80] : List UInt8)))))))))))) = some r := h
  clear h
  replace H := Option.bind_eq_some_iff.mp H
  obtain ⟨t213, A20, H⟩ := H
  replace H : ((spec_ModeOf.f k a0).bind fun t214 => (if t213.toList = ([] : List UInt8) then (some 0) else (if t213.toList = ([74, 77, 80] : List UInt8) then (some 6) else (if t213.toList = ([74, 83, 82] : List UInt8) then (some 7) else (if t213.toList = ([82, 84, 83] : List UInt8) then (some 8) else (if t213.toList = ([82, 84, 73] : List UInt8) then (some 9) else (if t213.toList = ([66, 82, 75] : List UInt8) then (some 10) else (if t213.toList = ([80, 72, 65] : List UInt8) then (spec_KindOf.j0 k t213 t214 t213 (t213.toList == ([80, 72, 65] : List UInt8))) else (spec_KindOf.j0 k t213 t214 t213 (t213.toList == ([80, 72, 80] : List UInt8))))))))))) = some r := H
  have A2 := Aside0.mk A20
  clear A20
  replace H := Option.bind_eq_some_iff.mp H
  obtain ⟨t214, A30, H⟩ := H
  replace H : (if t213.toList = ([] : List UInt8) then (some 0) else (if t213.toList = ([74, 77, 80] : List UInt8) then (some 6) else (if t213.toList = ([74, 83, 82] : List UInt8) then (some 7) else (if t213.toList = ([82, 84, 83] : List UInt8) then (some 8) else (if t213.toList = ([82, 84, 73] : List UInt8) then (some 9) else (if t213.toList = ([66, 82, 75] : List UInt8) then (some 10) else (if t213.toList = ([80, 72, 65] : List UInt8) then (spec_KindOf.j0 k t213 t214 t213 (t213.toList == ([80, 72, 65] : List UInt8))) else (spec_KindOf.j0 k t213 t214 t213 (t213.toList == ([80, 72, 80] : List UInt8)))))))))) = some r := H
  have A3 := Aside0.mk A30
  clear A30
  by_cases c4 : t213.toList = ([] : List UInt8)
  · rw [if_pos c4] at H
    have c4b0 : (t213.toList == ([] : List UInt8)) = true := beq_iff_eq.mpr c4
    have c4b1 : (t213.toList != ([] : List UInt8)) = false := bne_eq_false_iff_eq.mpr c4
    clear c4
    obtain rfl := Option.some.inj H
    go_enter Tryd.func23, Tryd.ntmps23
    go_wp2_with (first | ((with_reducible refine gate_callee (f := 15) rfl ?_); refine goesL_ (some 6) rfl rfl Tryd.func15 (by kernel_rfl) rfl #[.int .u8 a0] rfl (by (try simp only [List.map_toArray, List.map_cons, List.map_nil]); first | done | rfl | (simp only [List.length_drop, List.length_take]; rfl)) ?_; (with_reducible refine (spec_NameOf.calls k a0 t213 _ A2.out).mono ?_); rintro e w5 ⟨rfl, hb⟩; refine ⟨_, rfl, ?_⟩; have n0_ := Aside0.mk (below_step (by repeat (first | (with_reducible first | exact HB.out | apply below_alloc | apply pw_below_drewN | apply below_drew1) | exact HB.out)) hb); clear HB; have HB := n0_; clear n0_; (try clear hb); (try clear hb2); (try clear hk); (try clear hi)) | ((with_reducible refine gate_callee (f := 17) rfl ?_); refine goesL_ (some 8) rfl rfl Tryd.func17 (by kernel_rfl) rfl #[.int .u8 a0] rfl (by (try simp only [List.map_toArray, List.map_cons, List.map_nil]); first | done | rfl | (simp only [List.length_drop, List.length_take]; rfl)) ?_; (with_reducible refine (spec_ModeOf.calls k a0 t214 _ A3.out).mono ?_); rintro e w6 ⟨rfl, hb⟩; refine ⟨_, rfl, ?_⟩; have n0_ := Aside0.mk (below_step (by repeat (first | (with_reducible first | exact HB.out | apply below_alloc | apply pw_below_drewN | apply below_drew1) | exact HB.out)) hb); clear HB; have HB := n0_; clear n0_; (try clear hb); (try clear hb2); (try clear hk); (try clear hi)))
    go_ret
    exact ⟨by first | rfl | (simp [errW_none, errW_some] <;> rfl) | (simp [*, errW_none, errW_some] <;> rfl), by repeat (first | (with_reducible first | exact HB.out | apply below_alloc | apply pw_below_drewN | apply below_drew1) | exact HB.out)⟩
  · rw [if_neg c4] at H
    have c4b0 : (t213.toList == ([] : List UInt8)) = false := beq_eq_false_iff_ne.mpr c4
    have c4b1 : (t213.toList != ([] : List UInt8)) = true := bne_iff_ne.mpr c4
    by_cases c7 : t213.toList = ([74, 77, 80] : List UInt8)
    · rw [if_pos c7] at H
      have c7b0 : (t213.toList == ([74, 77, 80] : List UInt8)) = true := beq_iff_eq.mpr c7
      have c7b1 : (t213.toList != ([74, 77, 80] : List UInt8)) = false := bne_eq_false_iff_eq.mpr c7
      clear c7
      obtain rfl := Option.some.inj H
      go_enter Tryd.func23, Tryd.ntmps23
      go_wp2_with (first | ((with_reducible refine gate_callee (f := 15) rfl ?_); refine goesL_ (some 6) rfl rfl Tryd.func15 (by kernel_rfl) rfl #[.int .u8 a0] rfl (by (try simp only [List.map_toArray, List.map_cons, List.map_nil]); first | done | rfl | (simp only [List.length_drop, List.length_take]; rfl)) ?_; (with_reducible refine (spec_NameOf.calls k a0 t213 _ A2.out).mono ?_); rintro e w8 ⟨rfl, hb⟩; refine ⟨_, rfl, ?_⟩; have n0_ := Aside0.mk (below_step (by repeat (first | (with_reducible first | exact HB.out | apply below_alloc | apply pw_below_drewN | apply below_drew1) | exact HB.out)) hb); clear HB; have HB := n0_; clear n0_; (try clear hb); (try clear hb2); (try clear hk); (try clear hi)) | ((with_reducible refine gate_callee (f := 17) rfl ?_); refine goesL_ (some 8) rfl rfl Tryd.func17 (by kernel_rfl) rfl #[.int .u8 a0] rfl (by (try simp only [List.map_toArray, List.map_cons, List.map_nil]); first | done | rfl | (simp only [List.length_drop, List.length_take]; rfl)) ?_; (with_reducible refine (spec_ModeOf.calls k a0 t214 _ A3.out).mono ?_); rintro e w9 ⟨rfl, hb⟩; refine ⟨_, rfl, ?_⟩; have n0_ := Aside0.mk (below_step (by repeat (first | (with_reducible first | exact HB.out | apply below_alloc | apply pw_below_drewN | apply below_drew1) | exact HB.out)) hb); clear HB; have HB := n0_; clear n0_; (try clear hb); (try clear hb2); (try clear hk); (try clear hi)))
      go_ret
      exact ⟨by first | rfl | (simp [errW_none, errW_some] <;> rfl) | (simp [*, errW_none, errW_some] <;> rfl), by repeat (first | (with_reducible first | exact HB.out | apply below_alloc | apply pw_below_drewN | apply below_drew1) | exact HB.out)⟩
    · rw [if_neg c7] at H
      have c7b0 : (t213.toList == ([74, 77, 80] : List UInt8)) = false := beq_eq_false_iff_ne.mpr c7
      have c7b1 : (t213.toList != ([74, 77, 80] : List UInt8)) = true := bne_iff_ne.mpr c7
      by_cases c10 : t213.toList = ([74, 83, 82] : List UInt8)
      · rw [if_pos c10] at H
        have c10b0 : (t213.toList == ([74, 83, 82] : List UInt8)) = true := beq_iff_eq.mpr c10
        have c10b1 : (t213.toList != ([74, 83, 82] : List UInt8)) = false := bne_eq_false_iff_eq.mpr c10
        clear c10
        obtain rfl := Option.some.inj H
        go_enter Tryd.func23, Tryd.ntmps23
        go_wp2_with (first | ((with_reducible refine gate_callee (f := 15) rfl ?_); refine goesL_ (some 6) rfl rfl Tryd.func15 (by kernel_rfl) rfl #[.int .u8 a0] rfl (by (try simp only [List.map_toArray, List.map_cons, List.map_nil]); first | done | rfl | (simp only [List.length_drop, List.length_take]; rfl)) ?_; (with_reducible refine (spec_NameOf.calls k a0 t213 _ A2.out).mono ?_); rintro e w11 ⟨rfl, hb⟩; refine ⟨_, rfl, ?_⟩; have n0_ := Aside0.mk (below_step (by repeat (first | (with_reducible first | exact HB.out | apply below_alloc | apply pw_below_drewN | apply below_drew1) | exact HB.out)) hb); clear HB; have HB := n0_; clear n0_; (try clear hb); (try clear hb2); (try clear hk); (try clear hi)) | ((with_reducible refine gate_callee (f := 17) rfl ?_); refine goesL_ (some 8) rfl rfl Tryd.func17 (by kernel_rfl) rfl #[.int .u8 a0] rfl (by (try simp only [List.map_toArray, List.map_cons, List.map_nil]); first | done | rfl | (simp only [List.length_drop, List.length_take]; rfl)) ?_; (with_reducible refine (spec_ModeOf.calls k a0 t214 _ A3.out).mono ?_); rintro e w12 ⟨rfl, hb⟩; refine ⟨_, rfl, ?_⟩; have n0_ := Aside0.mk (below_step (by repeat (first | (with_reducible first | exact HB.out | apply below_alloc | apply pw_below_drewN | apply below_drew1) | exact HB.out)) hb); clear HB; have HB := n0_; clear n0_; (try clear hb); (try clear hb2); (try clear hk); (try clear hi)))
        go_ret
        exact ⟨by first | rfl | (simp [errW_none, errW_some] <;> rfl) | (simp [*, errW_none, errW_some] <;> rfl), by repeat (first | (with_reducible first | exact HB.out | apply below_alloc | apply pw_below_drewN | apply below_drew1) | exact HB.out)⟩
      · rw [if_neg c10] at H
        have c10b0 : (t213.toList == ([74, 83, 82] : List UInt8)) = false := beq_eq_false_iff_ne.mpr c10
        have c10b1 : (t213.toList != ([74, 83, 82] : List UInt8)) = true := bne_iff_ne.mpr c10
        by_cases c13 : t213.toList = ([82, 84, 83] : List UInt8)
        · rw [if_pos c13] at H
          have c13b0 : (t213.toList == ([82, 84, 83] : List UInt8)) = true := beq_iff_eq.mpr c13
          have c13b1 : (t213.toList != ([82, 84, 83] : List UInt8)) = false := bne_eq_false_iff_eq.mpr c13
          clear c13
          obtain rfl := Option.some.inj H
          go_enter Tryd.func23, Tryd.ntmps23
          go_wp2_with (first | ((with_reducible refine gate_callee (f := 15) rfl ?_); refine goesL_ (some 6) rfl rfl Tryd.func15 (by kernel_rfl) rfl #[.int .u8 a0] rfl (by (try simp only [List.map_toArray, List.map_cons, List.map_nil]); first | done | rfl | (simp only [List.length_drop, List.length_take]; rfl)) ?_; (with_reducible refine (spec_NameOf.calls k a0 t213 _ A2.out).mono ?_); rintro e w14 ⟨rfl, hb⟩; refine ⟨_, rfl, ?_⟩; have n0_ := Aside0.mk (below_step (by repeat (first | (with_reducible first | exact HB.out | apply below_alloc | apply pw_below_drewN | apply below_drew1) | exact HB.out)) hb); clear HB; have HB := n0_; clear n0_; (try clear hb); (try clear hb2); (try clear hk); (try clear hi)) | ((with_reducible refine gate_callee (f := 17) rfl ?_); refine goesL_ (some 8) rfl rfl Tryd.func17 (by kernel_rfl) rfl #[.int .u8 a0] rfl (by (try simp only [List.map_toArray, List.map_cons, List.map_nil]); first | done | rfl | (simp only [List.length_drop, List.length_take]; rfl)) ?_; (with_reducible refine (spec_ModeOf.calls k a0 t214 _ A3.out).mono ?_); rintro e w15 ⟨rfl, hb⟩; refine ⟨_, rfl, ?_⟩; have n0_ := Aside0.mk (below_step (by repeat (first | (with_reducible first | exact HB.out | apply below_alloc | apply pw_below_drewN | apply below_drew1) | exact HB.out)) hb); clear HB; have HB := n0_; clear n0_; (try clear hb); (try clear hb2); (try clear hk); (try clear hi)))
          go_ret
          exact ⟨by first | rfl | (simp [errW_none, errW_some] <;> rfl) | (simp [*, errW_none, errW_some] <;> rfl), by repeat (first | (with_reducible first | exact HB.out | apply below_alloc | apply pw_below_drewN | apply below_drew1) | exact HB.out)⟩
        · rw [if_neg c13] at H
          have c13b0 : (t213.toList == ([82, 84, 83] : List UInt8)) = false := beq_eq_false_iff_ne.mpr c13
          have c13b1 : (t213.toList != ([82, 84, 83] : List UInt8)) = true := bne_iff_ne.mpr c13
          by_cases c16 : t213.toList = ([82, 84, 73] : List UInt8)
          · rw [if_pos c16] at H
            have c16b0 : (t213.toList == ([82, 84, 73] : List UInt8)) = true := beq_iff_eq.mpr c16
            have c16b1 : (t213.toList != ([82, 84, 73] : List UInt8)) = false := bne_eq_false_iff_eq.mpr c16
            clear c16
            obtain rfl := Option.some.inj H
            go_enter Tryd.func23, Tryd.ntmps23
            go_wp2_with (first | ((with_reducible refine gate_callee (f := 15) rfl ?_); refine goesL_ (some 6) rfl rfl Tryd.func15 (by kernel_rfl) rfl #[.int .u8 a0] rfl (by (try simp only [List.map_toArray, List.map_cons, List.map_nil]); first | done | rfl | (simp only [List.length_drop, List.length_take]; rfl)) ?_; (with_reducible refine (spec_NameOf.calls k a0 t213 _ A2.out).mono ?_); rintro e w17 ⟨rfl, hb⟩; refine ⟨_, rfl, ?_⟩; have n0_ := Aside0.mk (below_step (by repeat (first | (with_reducible first | exact HB.out | apply below_alloc | apply pw_below_drewN | apply below_drew1) | exact HB.out)) hb); clear HB; have HB := n0_; clear n0_; (try clear hb); (try clear hb2); (try clear hk); (try clear hi)) | ((with_reducible refine gate_callee (f := 17) rfl ?_); refine goesL_ (some 8) rfl rfl Tryd.func17 (by kernel_rfl) rfl #[.int .u8 a0] rfl (by (try simp only [List.map_toArray, List.map_cons, List.map_nil]); first | done | rfl | (simp only [List.length_drop, List.length_take]; rfl)) ?_; (with_reducible refine (spec_ModeOf.calls k a0 t214 _ A3.out).mono ?_); rintro e w18 ⟨rfl, hb⟩; refine ⟨_, rfl, ?_⟩; have n0_ := Aside0.mk (below_step (by repeat (first | (with_reducible first | exact HB.out | apply below_alloc | apply pw_below_drewN | apply below_drew1) | exact HB.out)) hb); clear HB; have HB := n0_; clear n0_; (try clear hb); (try clear hb2); (try clear hk); (try clear hi)))
            go_ret
            exact ⟨by first | rfl | (simp [errW_none, errW_some] <;> rfl) | (simp [*, errW_none, errW_some] <;> rfl), by repeat (first | (with_reducible first | exact HB.out | apply below_alloc | apply pw_below_drewN | apply below_drew1) | exact HB.out)⟩
          · rw [if_neg c16] at H
            have c16b0 : (t213.toList == ([82, 84, 73] : List UInt8)) = false := beq_eq_false_iff_ne.mpr c16
            have c16b1 : (t213.toList != ([82, 84, 73] : List UInt8)) = true := bne_iff_ne.mpr c16
            by_cases c19 : t213.toList = ([66, 82, 75] : List UInt8)
            · rw [if_pos c19] at H
              have c19b0 : (t213.toList == ([66, 82, 75] : List UInt8)) = true := beq_iff_eq.mpr c19
              have c19b1 : (t213.toList != ([66, 82, 75] : List UInt8)) = false := bne_eq_false_iff_eq.mpr c19
              clear c19
              obtain rfl := Option.some.inj H
              go_enter Tryd.func23, Tryd.ntmps23
              go_wp2_with (first | ((with_reducible refine gate_callee (f := 15) rfl ?_); refine goesL_ (some 6) rfl rfl Tryd.func15 (by kernel_rfl) rfl #[.int .u8 a0] rfl (by (try simp only [List.map_toArray, List.map_cons, List.map_nil]); first | done | rfl | (simp only [List.length_drop, List.length_take]; rfl)) ?_; (with_reducible refine (spec_NameOf.calls k a0 t213 _ A2.out).mono ?_); rintro e w20 ⟨rfl, hb⟩; refine ⟨_, rfl, ?_⟩; have n0_ := Aside0.mk (below_step (by repeat (first | (with_reducible first | exact HB.out | apply below_alloc | apply pw_below_drewN | apply below_drew1) | exact HB.out)) hb); clear HB; have HB := n0_; clear n0_; (try clear hb); (try clear hb2); (try clear hk); (try clear hi)) | ((with_reducible refine gate_callee (f := 17) rfl ?_); refine goesL_ (some 8) rfl rfl Tryd.func17 (by kernel_rfl) rfl #[.int .u8 a0] rfl (by (try simp only [List.map_toArray, List.map_cons, List.map_nil]); first | done | rfl | (simp only [List.length_drop, List.length_take]; rfl)) ?_; (with_reducible refine (spec_ModeOf.calls k a0 t214 _ A3.out).mono ?_); rintro e w21 ⟨rfl, hb⟩; refine ⟨_, rfl, ?_⟩; have n0_ := Aside0.mk (below_step (by repeat (first | (with_reducible first | exact HB.out | apply below_alloc | apply pw_below_drewN | apply below_drew1) | exact HB.out)) hb); clear HB; have HB := n0_; clear n0_; (try clear hb); (try clear hb2); (try clear hk); (try clear hi)))
              go_ret
              exact ⟨by first | rfl | (simp [errW_none, errW_some] <;> rfl) | (simp [*, errW_none, errW_some] <;> rfl), by repeat (first | (with_reducible first | exact HB.out | apply below_alloc | apply pw_below_drewN | apply below_drew1) | exact HB.out)⟩
            · rw [if_neg c19] at H
              have c19b0 : (t213.toList == ([66, 82, 75] : List UInt8)) = false := beq_eq_false_iff_ne.mpr c19
              have c19b1 : (t213.toList != ([66, 82, 75] : List UInt8)) = true := bne_iff_ne.mpr c19
              have HC22 := Aside0.mk H
              clear H
              go_enter Tryd.func23, Tryd.ntmps23
              go_upto_if 22 with (first | ((with_reducible refine gate_callee (f := 15) rfl ?_); refine goesL_ (some 6) rfl rfl Tryd.func15 (by kernel_rfl) rfl #[.int .u8 a0] rfl (by (try simp only [List.map_toArray, List.map_cons, List.map_nil]); first | done | rfl | (simp only [List.length_drop, List.length_take]; rfl)) ?_; (with_reducible refine (spec_NameOf.calls k a0 t213 _ A2.out).mono ?_); rintro e w23 ⟨rfl, hb⟩; refine ⟨_, rfl, ?_⟩; have n0_ := Aside0.mk (below_step (by repeat (first | (with_reducible first | exact HB.out | apply below_alloc | apply pw_below_drewN | apply below_drew1) | exact HB.out)) hb); clear HB; have HB := n0_; clear n0_; (try clear hb); (try clear hb2); (try clear hk); (try clear hi)) | ((with_reducible refine gate_callee (f := 17) rfl ?_); refine goesL_ (some 8) rfl rfl Tryd.func17 (by kernel_rfl) rfl #[.int .u8 a0] rfl (by (try simp only [List.map_toArray, List.map_cons, List.map_nil]); first | done | rfl | (simp only [List.length_drop, List.length_take]; rfl)) ?_; (with_reducible refine (spec_ModeOf.calls k a0 t214 _ A3.out).mono ?_); rintro e w24 ⟨rfl, hb⟩; refine ⟨_, rfl, ?_⟩; have n0_ := Aside0.mk (below_step (by repeat (first | (with_reducible first | exact HB.out | apply below_alloc | apply pw_below_drewN | apply below_drew1) | exact HB.out)) hb); clear HB; have HB := n0_; clear n0_; (try clear hb); (try clear hb2); (try clear hk); (try clear hi)))
              (try simp only [Act.put, List.setIfInBounds_toArray, List.set_cons_zero, List.set_cons_succ])
              go_cut [22] (fun v22 wc => ∃ (kq : Nat) (x22_21 : Bool), v22 = .bool x22_21 ∧ Aside0 (spec_KindOf.j0 kq t213 t214 t213 x22_21 = some r) ∧ Aside0 (kq ≤ k) ∧ Aside0 (Below w.heap.size w wc))
              case first =>
                have H := HC22.out
                clear HC22
                by_cases c25 : t213.toList = ([80, 72, 65] : List UInt8)
                · rw [if_pos c25] at H
                  have c25b0 : (t213.toList == ([80, 72, 65] : List UInt8)) = true := beq_iff_eq.mpr c25
                  have c25b1 : (t213.toList != ([80, 72, 65] : List UInt8)) = false := bne_eq_false_iff_eq.mpr c25
                  clear c25
                  (first | rw [c25b0] | (simp only [i64_w, i32_w]; rw [c25b0]) | skip)
                  have H' := Aside0.mk H
                  clear H
                  go_wp2
                  go_meet
                  case rel => exact ⟨_, ((t213.toList == ([80, 72, 65] : List UInt8))), (by first | rfl | (simp; done) | (simp [*]; done)), H', ⟨by first | omega | exact Nat.le_refl _⟩, ⟨by repeat (first | (with_reducible first | exact HB.out | apply below_alloc | apply pw_below_drewN | apply below_drew1) | exact HB.out)⟩⟩
                · rw [if_neg c25] at H
                  have c25b0 : (t213.toList == ([80, 72, 65] : List UInt8)) = false := beq_eq_false_iff_ne.mpr c25
                  have c25b1 : (t213.toList != ([80, 72, 65] : List UInt8)) = true := bne_iff_ne.mpr c25
                  (first | rw [c25b0] | (simp only [i64_w, i32_w]; rw [c25b0]) | skip)
                  have H' := Aside0.mk H
                  clear H
                  go_wp2
                  go_meet
                  case rel => exact ⟨_, ((t213.toList == ([80, 72, 80] : List UInt8))), (by first | rfl | (simp; done) | (simp [*]; done)), H', ⟨by first | omega | exact Nat.le_refl _⟩, ⟨by repeat (first | (with_reducible first | exact HB.out | apply below_alloc | apply pw_below_drewN | apply below_drew1) | exact HB.out)⟩⟩
              case rest =>
                clear HC22
                try clear c1
                try clear c2
                try clear p2
                try clear c4
                try clear c4b0
                try clear c4b1
                try clear c7
                try clear c7b0
                try clear c7b1
                try clear c10
                try clear c10b0
                try clear c10b1
                try clear c13
                try clear c13b0
                try clear c13b1
                try clear c15
                try clear c16
                try clear c16b0
                try clear c16b1
                try clear c17
                try clear c19
                try clear c19b0
                try clear c19b1
                try clear c23
                try clear c25
                try clear c25b0
                try clear c25b1
                obtain ⟨kq, x22_21, rfl, HA, HJ21, HB⟩ := hcut
                cases kq with
                | zero => exact absurd HA.out (by simp [spec_KindOf.j0])
                | succ kj21 =>
                  have H := HA.out
                  clear HA
                  simp only [spec_KindOf.j0] at H
                  by_cases c26 : x22_21 = true
                  · subst c26
                    have H1 : (some 11) = some r := by rw [if_pos rfl] at H; exact H
                    clear H
                    have H := H1
                    clear H1
                    obtain rfl := Option.some.inj H
                    go_wp2
                    go_ret
                    exact ⟨by first | rfl | (simp [errW_none, errW_some] <;> rfl) | (simp [*, errW_none, errW_some] <;> rfl), by repeat (first | (with_reducible first | exact HB.out | apply below_alloc | apply pw_below_drewN | apply below_drew1) | exact HB.out)⟩
                  · replace c26 := Bool.eq_false_iff.mpr c26
                    subst c26
                    have H1 : (if t213.toList = ([80, 76, 65] : List UInt8) then (spec_KindOf.j1 kj21 t213 t214 t213 (t213.toList == ([80, 76, 65] : List UInt8))) else (spec_KindOf.j1 kj21 t213 t214 t213 (t213.toList == ([80, 76, 80] : List UInt8)))) = some r := by rw [if_neg (show ¬ (false = true) by decide)] at H; exact H
                    clear H
                    have H := H1
                    clear H1
                    have HC27 := Aside0.mk H
                    clear H
                    go_upto_if 25 with (fail)
                    go_cut [25] (fun v25 wc => ∃ (kq : Nat) (x25_26 : Bool), v25 = .bool x25_26 ∧ Aside0 (spec_KindOf.j1 kq t213 t214 t213 x25_26 = some r) ∧ Aside0 (kq ≤ kj21) ∧ Aside0 (Below w.heap.size w wc))
                    case first =>
                      have H := HC27.out
                      clear HC27
                      by_cases c28 : t213.toList = ([80, 76, 65] : List UInt8)
                      · rw [if_pos c28] at H
                        have c28b0 : (t213.toList == ([80, 76, 65] : List UInt8)) = true := beq_iff_eq.mpr c28
                        have c28b1 : (t213.toList != ([80, 76, 65] : List UInt8)) = false := bne_eq_false_iff_eq.mpr c28
                        clear c28
                        (first | rw [c28b0] | (simp only [i64_w, i32_w]; rw [c28b0]) | skip)
                        have H' := Aside0.mk H
                        clear H
                        go_wp2
                        go_meet
                        case rel => exact ⟨_, ((t213.toList == ([80, 76, 65] : List UInt8))), (by first | rfl | (simp; done) | (simp [*]; done)), H', ⟨by have := HJ21.out; first | omega | exact Nat.le_refl _⟩, ⟨by repeat (first | (with_reducible first | exact HB.out | apply below_alloc | apply pw_below_drewN | apply below_drew1) | exact HB.out)⟩⟩
                      · rw [if_neg c28] at H
                        have c28b0 : (t213.toList == ([80, 76, 65] : List UInt8)) = false := beq_eq_false_iff_ne.mpr c28
                        have c28b1 : (t213.toList != ([80, 76, 65] : List UInt8)) = true := bne_iff_ne.mpr c28
                        (first | rw [c28b0] | (simp only [i64_w, i32_w]; rw [c28b0]) | skip)
                        have H' := Aside0.mk H
                        clear H
                        go_wp2
                        go_meet
                        case rel => exact ⟨_, ((t213.toList == ([80, 76, 80] : List UInt8))), (by first | rfl | (simp; done) | (simp [*]; done)), H', ⟨by have := HJ21.out; first | omega | exact Nat.le_refl _⟩, ⟨by repeat (first | (with_reducible first | exact HB.out | apply below_alloc | apply pw_below_drewN | apply below_drew1) | exact HB.out)⟩⟩
                    case rest =>
                      clear HC27
                      try clear c1
                      try clear c2
                      try clear p2
                      try clear c4
                      try clear c4b0
                      try clear c4b1
                      try clear c7
                      try clear c7b0
                      try clear c7b1
                      try clear c10
                      try clear c10b0
                      try clear c10b1
                      try clear c13
                      try clear c13b0
                      try clear c13b1
                      try clear c15
                      try clear c16
                      try clear c16b0
                      try clear c16b1
                      try clear c17
                      try clear c19
                      try clear c19b0
                      try clear c19b1
                      try clear c23
                      try clear c25
                      try clear c25b0
                      try clear c25b1
                      try clear c26
                      try clear c28
                      try clear c28b0
                      try clear c28b1
                      try clear p2
                      obtain ⟨kq, x25_26, rfl, HA, HJ26, HB⟩ := hcut
                      cases kq with
                      | zero => exact absurd HA.out (by simp [spec_KindOf.j1])
                      | succ kj26 =>
                        have H := HA.out
                        clear HA
                        simp only [spec_KindOf.j1] at H
                        by_cases c29 : x25_26 = true
                        · subst c29
                          have H1 : (some 12) = some r := by rw [if_pos rfl] at H; exact H
                          clear H
                          have H := H1
                          clear H1
                          obtain rfl := Option.some.inj H
                          go_wp2
                          go_ret
                          exact ⟨by first | rfl | (simp [errW_none, errW_some] <;> rfl) | (simp [*, errW_none, errW_some] <;> rfl), by repeat (first | (with_reducible first | exact HB.out | apply below_alloc | apply pw_below_drewN | apply below_drew1) | exact HB.out)⟩
                        · replace c29 := Bool.eq_false_iff.mpr c29
                          subst c29
                          have H1 : (if t213.toList = ([83, 84, 65] : List UInt8) then (some 3) else (if t213.toList = ([83, 84, 88] : List UInt8) then (some 3) else (if t213.toList = ([83, 84, 89] : List UInt8) then (some 3) else (if t214 = 12 then (some 5) else (if t214 = 0 then (some 1) else (if t214 = 1 then (some 1) else (if t213.toList = ([65, 83, 76] : List UInt8) then (some 4) else (if t213.toList = ([76, 83, 82] : List UInt8) then (some 4) else (if t213.toList = ([82, 79, 76] : List UInt8) then (some 4) else (if t213.toList = ([82, 79, 82] : List UInt8) then (some 4) else (if t213.toList = ([73, 78, 67] : List UInt8) then (some 4) else (if t213.toList = ([68, 69, 67] : List UInt8) then (some 4) else (some 2))))))))))))) = some r := by rw [if_neg (show ¬ (false = true) by decide)] at H; exact H
                          clear H
                          have H := H1
                          clear H1
                          by_cases c30 : t213.toList = ([83, 84, 65] : List UInt8)
                          · rw [if_pos c30] at H
                            have c30b0 : (t213.toList == ([83, 84, 65] : List UInt8)) = true := beq_iff_eq.mpr c30
                            have c30b1 : (t213.toList != ([83, 84, 65] : List UInt8)) = false := bne_eq_false_iff_eq.mpr c30
                            clear c30
                            obtain rfl := Option.some.inj H
                            go_wp2
                            go_ret
                            exact ⟨by first | rfl | (simp [errW_none, errW_some] <;> rfl) | (simp [*, errW_none, errW_some] <;> rfl), by repeat (first | (with_reducible first | exact HB.out | apply below_alloc | apply pw_below_drewN | apply below_drew1) | exact HB.out)⟩
                          · rw [if_neg c30] at H
                            have c30b0 : (t213.toList == ([83, 84, 65] : List UInt8)) = false := beq_eq_false_iff_ne.mpr c30
                            have c30b1 : (t213.toList != ([83, 84, 65] : List UInt8)) = true := bne_iff_ne.mpr c30
                            by_cases c31 : t213.toList = ([83, 84, 88] : List UInt8)
                            · rw [if_pos c31] at H
                              have c31b0 : (t213.toList == ([83, 84, 88] : List UInt8)) = true := beq_iff_eq.mpr c31
                              have c31b1 : (t213.toList != ([83, 84, 88] : List UInt8)) = false := bne_eq_false_iff_eq.mpr c31
                              clear c31
                              obtain rfl := Option.some.inj H
                              go_wp2
                              go_ret
                              exact ⟨by first | rfl | (simp [errW_none, errW_some] <;> rfl) | (simp [*, errW_none, errW_some] <;> rfl), by repeat (first | (with_reducible first | exact HB.out | apply below_alloc | apply pw_below_drewN | apply below_drew1) | exact HB.out)⟩
                            · rw [if_neg c31] at H
                              have c31b0 : (t213.toList == ([83, 84, 88] : List UInt8)) = false := beq_eq_false_iff_ne.mpr c31
                              have c31b1 : (t213.toList != ([83, 84, 88] : List UInt8)) = true := bne_iff_ne.mpr c31
                              by_cases c32 : t213.toList = ([83, 84, 89] : List UInt8)
                              · rw [if_pos c32] at H
                                have c32b0 : (t213.toList == ([83, 84, 89] : List UInt8)) = true := beq_iff_eq.mpr c32
                                have c32b1 : (t213.toList != ([83, 84, 89] : List UInt8)) = false := bne_eq_false_iff_eq.mpr c32
                                clear c32
                                obtain rfl := Option.some.inj H
                                go_wp2
                                go_ret
                                exact ⟨by first | rfl | (simp [errW_none, errW_some] <;> rfl) | (simp [*, errW_none, errW_some] <;> rfl), by repeat (first | (with_reducible first | exact HB.out | apply below_alloc | apply pw_below_drewN | apply below_drew1) | exact HB.out)⟩
                              · rw [if_neg c32] at H
                                have c32b0 : (t213.toList == ([83, 84, 89] : List UInt8)) = false := beq_eq_false_iff_ne.mpr c32
                                have c32b1 : (t213.toList != ([83, 84, 89] : List UInt8)) = true := bne_iff_ne.mpr c32
                                by_cases c33 : t214 = 12
                                · rw [if_pos c33] at H
                                  have c33b0 : (t214 == 12) = true := beq_iff_eq.mpr c33
                                  have c33b1 : (t214 != 12) = false := bne_eq_false_iff_eq.mpr c33
                                  clear c33
                                  obtain rfl := Option.some.inj H
                                  go_wp2
                                  go_ret
                                  exact ⟨by first | rfl | (simp [errW_none, errW_some] <;> rfl) | (simp [*, errW_none, errW_some] <;> rfl), by repeat (first | (with_reducible first | exact HB.out | apply below_alloc | apply pw_below_drewN | apply below_drew1) | exact HB.out)⟩
                                · rw [if_neg c33] at H
                                  have c33b0 : (t214 == 12) = false := beq_eq_false_iff_ne.mpr c33
                                  have c33b1 : (t214 != 12) = true := bne_iff_ne.mpr c33
                                  by_cases c34 : t214 = 0
                                  · rw [if_pos c34] at H
                                    have c34b0 : (t214 == 0) = true := beq_iff_eq.mpr c34
                                    have c34b1 : (t214 != 0) = false := bne_eq_false_iff_eq.mpr c34
                                    clear c34
                                    obtain rfl := Option.some.inj H
                                    go_wp2
                                    go_ret
                                    exact ⟨by first | rfl | (simp [errW_none, errW_some] <;> rfl) | (simp [*, errW_none, errW_some] <;> rfl), by repeat (first | (with_reducible first | exact HB.out | apply below_alloc | apply pw_below_drewN | apply below_drew1) | exact HB.out)⟩
                                  · rw [if_neg c34] at H
                                    have c34b0 : (t214 == 0) = false := beq_eq_false_iff_ne.mpr c34
                                    have c34b1 : (t214 != 0) = true := bne_iff_ne.mpr c34
                                    by_cases c35 : t214 = 1
                                    · rw [if_pos c35] at H
                                      have c35b0 : (t214 == 1) = true := beq_iff_eq.mpr c35
                                      have c35b1 : (t214 != 1) = false := bne_eq_false_iff_eq.mpr c35
                                      clear c35
                                      obtain rfl := Option.some.inj H
                                      go_wp2
                                      go_ret
                                      exact ⟨by first | rfl | (simp [errW_none, errW_some] <;> rfl) | (simp [*, errW_none, errW_some] <;> rfl), by repeat (first | (with_reducible first | exact HB.out | apply below_alloc | apply pw_below_drewN | apply below_drew1) | exact HB.out)⟩
                                    · rw [if_neg c35] at H
                                      have c35b0 : (t214 == 1) = false := beq_eq_false_iff_ne.mpr c35
                                      have c35b1 : (t214 != 1) = true := bne_iff_ne.mpr c35
                                      by_cases c36 : t213.toList = ([65, 83, 76] : List UInt8)
                                      · rw [if_pos c36] at H
                                        have c36b0 : (t213.toList == ([65, 83, 76] : List UInt8)) = true := beq_iff_eq.mpr c36
                                        have c36b1 : (t213.toList != ([65, 83, 76] : List UInt8)) = false := bne_eq_false_iff_eq.mpr c36
                                        clear c36
                                        obtain rfl := Option.some.inj H
                                        go_wp2
                                        go_ret
                                        exact ⟨by first | rfl | (simp [errW_none, errW_some] <;> rfl) | (simp [*, errW_none, errW_some] <;> rfl), by repeat (first | (with_reducible first | exact HB.out | apply below_alloc | apply pw_below_drewN | apply below_drew1) | exact HB.out)⟩
                                      · rw [if_neg c36] at H
                                        have c36b0 : (t213.toList == ([65, 83, 76] : List UInt8)) = false := beq_eq_false_iff_ne.mpr c36
                                        have c36b1 : (t213.toList != ([65, 83, 76] : List UInt8)) = true := bne_iff_ne.mpr c36
                                        by_cases c37 : t213.toList = ([76, 83, 82] : List UInt8)
                                        · rw [if_pos c37] at H
                                          have c37b0 : (t213.toList == ([76, 83, 82] : List UInt8)) = true := beq_iff_eq.mpr c37
                                          have c37b1 : (t213.toList != ([76, 83, 82] : List UInt8)) = false := bne_eq_false_iff_eq.mpr c37
                                          clear c37
                                          obtain rfl := Option.some.inj H
                                          go_wp2
                                          go_ret
                                          exact ⟨by first | rfl | (simp [errW_none, errW_some] <;> rfl) | (simp [*, errW_none, errW_some] <;> rfl), by repeat (first | (with_reducible first | exact HB.out | apply below_alloc | apply pw_below_drewN | apply below_drew1) | exact HB.out)⟩
                                        · rw [if_neg c37] at H
                                          have c37b0 : (t213.toList == ([76, 83, 82] : List UInt8)) = false := beq_eq_false_iff_ne.mpr c37
                                          have c37b1 : (t213.toList != ([76, 83, 82] : List UInt8)) = true := bne_iff_ne.mpr c37
                                          by_cases c38 : t213.toList = ([82, 79, 76] : List UInt8)
                                          · rw [if_pos c38] at H
                                            have c38b0 : (t213.toList == ([82, 79, 76] : List UInt8)) = true := beq_iff_eq.mpr c38
                                            have c38b1 : (t213.toList != ([82, 79, 76] : List UInt8)) = false := bne_eq_false_iff_eq.mpr c38
                                            clear c38
                                            obtain rfl := Option.some.inj H
                                            go_wp2
                                            go_ret
                                            exact ⟨by first | rfl | (simp [errW_none, errW_some] <;> rfl) | (simp [*, errW_none, errW_some] <;> rfl), by repeat (first | (with_reducible first | exact HB.out | apply below_alloc | apply pw_below_drewN | apply below_drew1) | exact HB.out)⟩
                                          · rw [if_neg c38] at H
                                            have c38b0 : (t213.toList == ([82, 79, 76] : List UInt8)) = false := beq_eq_false_iff_ne.mpr c38
                                            have c38b1 : (t213.toList != ([82, 79, 76] : List UInt8)) = true := bne_iff_ne.mpr c38
                                            by_cases c39 : t213.toList = ([82, 79, 82] : List UInt8)
                                            · rw [if_pos c39] at H
                                              have c39b0 : (t213.toList == ([82, 79, 82] : List UInt8)) = true := beq_iff_eq.mpr c39
                                              have c39b1 : (t213.toList != ([82, 79, 82] : List UInt8)) = false := bne_eq_false_iff_eq.mpr c39
                                              clear c39
                                              obtain rfl := Option.some.inj H
                                              go_wp2
                                              go_ret
                                              exact ⟨by first | rfl | (simp [errW_none, errW_some] <;> rfl) | (simp [*, errW_none, errW_some] <;> rfl), by repeat (first | (with_reducible first | exact HB.out | apply below_alloc | apply pw_below_drewN | apply below_drew1) | exact HB.out)⟩
                                            · rw [if_neg c39] at H
                                              have c39b0 : (t213.toList == ([82, 79, 82] : List UInt8)) = false := beq_eq_false_iff_ne.mpr c39
                                              have c39b1 : (t213.toList != ([82, 79, 82] : List UInt8)) = true := bne_iff_ne.mpr c39
                                              by_cases c40 : t213.toList = ([73, 78, 67] : List UInt8)
                                              · rw [if_pos c40] at H
                                                have c40b0 : (t213.toList == ([73, 78, 67] : List UInt8)) = true := beq_iff_eq.mpr c40
                                                have c40b1 : (t213.toList != ([73, 78, 67] : List UInt8)) = false := bne_eq_false_iff_eq.mpr c40
                                                clear c40
                                                obtain rfl := Option.some.inj H
                                                go_wp2
                                                go_ret
                                                exact ⟨by first | rfl | (simp [errW_none, errW_some] <;> rfl) | (simp [*, errW_none, errW_some] <;> rfl), by repeat (first | (with_reducible first | exact HB.out | apply below_alloc | apply pw_below_drewN | apply below_drew1) | exact HB.out)⟩
                                              · rw [if_neg c40] at H
                                                have c40b0 : (t213.toList == ([73, 78, 67] : List UInt8)) = false := beq_eq_false_iff_ne.mpr c40
                                                have c40b1 : (t213.toList != ([73, 78, 67] : List UInt8)) = true := bne_iff_ne.mpr c40
                                                by_cases c41 : t213.toList = ([68, 69, 67] : List UInt8)
                                                · rw [if_pos c41] at H
                                                  have c41b0 : (t213.toList == ([68, 69, 67] : List UInt8)) = true := beq_iff_eq.mpr c41
                                                  have c41b1 : (t213.toList != ([68, 69, 67] : List UInt8)) = false := bne_eq_false_iff_eq.mpr c41
                                                  clear c41
                                                  obtain rfl := Option.some.inj H
                                                  go_wp2
                                                  go_ret
                                                  exact ⟨by first | rfl | (simp [errW_none, errW_some] <;> rfl) | (simp [*, errW_none, errW_some] <;> rfl), by repeat (first | (with_reducible first | exact HB.out | apply below_alloc | apply pw_below_drewN | apply below_drew1) | exact HB.out)⟩
                                                · rw [if_neg c41] at H
                                                  have c41b0 : (t213.toList == ([68, 69, 67] : List UInt8)) = false := beq_eq_false_iff_ne.mpr c41
                                                  have c41b1 : (t213.toList != ([68, 69, 67] : List UInt8)) = true := bne_iff_ne.mpr c41
                                                  obtain rfl := Option.some.inj H
                                                  go_wp2
                                                  go_ret
                                                  exact ⟨by first | rfl | (simp [errW_none, errW_some] <;> rfl) | (simp [*, errW_none, errW_some] <;> rfl), by repeat (first | (with_reducible first | exact HB.out | apply below_alloc | apply pw_below_drewN | apply below_drew1) | exact HB.out)⟩

/-! ### strings_Contains: function 48 -/
def strings_Contains.f (a0 : ByteArray) (a1 : ByteArray) : Option (Bool) := Giv.contains a0 a1
theorem strings_Contains.calls (a0 : ByteArray) (a1 : ByteArray) (r : Bool) (w : World) (h : strings_Contains.f a0 a1 = some r) (HT : Aside0 (Giv.TabW w)) :
    Calls Tryd.prog 48 #[.string a0, .string a1] w fun e w' => e = .returned (.bool r) ∧ Below w.heap.size w w' :=
  Giv.contains_calls a0 a1 r w h HT

end Go.Proofs.YtfbhgmpgkhmikaaDoor.MA
