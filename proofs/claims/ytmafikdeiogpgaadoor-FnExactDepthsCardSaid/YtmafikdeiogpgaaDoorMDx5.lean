-- Written by this session's own program (wip/myprint.py) over the kit's print of the translation. Lean checks it.
import Derived.Test.YtmafikdeiogpgaaDoorMDx0
import Derived.Test.YtmafikdeiogpgaaDoorMDx4
namespace Go.Proofs.YtmafikdeiogpgaaDoor.MD
open Go.RowKit Go.Proofs.YtmafikdeiogpgaaDoorW.PrintWords Go.Proofs.YtmafikdeiogpgaaDoorW.PrintLast Go.Proofs.YtmafikdeiogpgaaDoorW.PrintMore
attribute [local go_sem] max2_int min2_int max_two min_two max_three min_three max_four min_four   -- for this text's walks alone
set_option linter.unusedVariables false
set_option linter.unusedSimpArgs false

/-! ### impl_sideTwo: function 34 -/
def impl_sideTwo.j0 : Nat → Int → Int → ByteArray → Bool → Option (ByteArray × Int)
 | 0, _, _, _, _ => none
 | k + 1, x0, x1, x6, x7 => if x1 = 0 then ((impl_word.f (⟨#[46, 32, 46, 32, 46, 32, 46, 32, 46, 32, 76, 68, 88, 32, 46, 32, 46]⟩ : ByteArray) x0).bind fun t223 => (some (t223, 2))) else (if x1 = 1 then (some (x6, 3)) else (if x1 = 2 then (if x0 < 4 then (some (x6, 1)) else ((impl_word.f (⟨#[46, 32, 46, 32, 46, 32, 46, 32, 84, 88, 65, 32, 84, 65, 88, 32, 68, 69, 88, 32, 78, 79, 80]⟩ : ByteArray) x0).bind fun t224 => (some (t224, 0)))) else (if x1 = 3 then (some (x6, 6)) else (if x1 = 5 then (if x7 = true then (some (x6, 4)) else (some (x6, 5))) else (if x1 = 6 then ((impl_word.f (⟨#[46, 32, 46, 32, 46, 32, 46, 32, 84, 88, 83, 32, 84, 83, 88, 32, 46, 32, 46]⟩ : ByteArray) x0).bind fun t225 => (some (t225, 0))) else (if x1 = 7 then (if x7 = true then (some (x6, 7)) else ((impl_word.f (⟨#[46, 32, 46, 32, 46, 32, 46, 32, 46, 32, 76, 68, 88, 32, 46, 32, 46]⟩ : ByteArray) x0).bind fun t226 => (some (t226, 8)))) else (some ((⟨#[]⟩ : ByteArray), (-1)))))))))
def impl_sideTwo.f (k : Nat) (a0 : Int) (a1 : Int) : Option (ByteArray × Int) := (impl_word.f (⟨#[65, 83, 76, 32, 82, 79, 76, 32, 76, 83, 82, 32, 82, 79, 82, 32, 83, 84, 88, 32, 76, 68, 88, 32, 68, 69, 67, 32, 73, 78, 67]⟩ : ByteArray) a0).bind fun t222 => (if t222.toList = ([83, 84, 88] : List UInt8) then (impl_sideTwo.j0 k a0 a1 t222 false) else (impl_sideTwo.j0 k a0 a1 t222 (t222.toList != ([76, 68, 88] : List UInt8))))
theorem impl_sideTwo.mono_l : ∀ k, (∀ y0 y1 y2 y3, LeO (impl_sideTwo.j0 k y0 y1 y2 y3) (impl_sideTwo.j0 (k + 1) y0 y1 y2 y3))
 | 0 => fun _ _ _ _ r h => by simp [impl_sideTwo.j0] at h
 | k + 1 => by
  have ih0 := impl_sideTwo.mono_l k
  ·intro y0 y1 y2 y3
   unfold impl_sideTwo.j0
   repeat' first
   | (with_reducible exact ih0 _ _ _ _)
   | (with_reducible exact LeO.refl _)
   | (with_reducible exact LeO.none _)
   | (with_reducible refine LeO.ite ?_ ?_)
   | (with_reducible refine LeO.bind ?_ (fun _ => ?_))
   | exact ih0 _ _ _ _
   | exact LeO.none _
   | refine LeO.ite ?_ ?_
   | refine LeO.bind ?_ (fun _ => ?_)
theorem impl_sideTwo.mono : ∀ a0 a1 k, LeO (impl_sideTwo.f k a0 a1) (impl_sideTwo.f (k + 1) a0 a1) := by
 intro a0 a1 k
 have ih0 := impl_sideTwo.mono_l k
 unfold impl_sideTwo.f
 repeat' first
   | (with_reducible exact ih0 _ _ _ _)
   | (with_reducible exact LeO.refl _)
   | (with_reducible exact LeO.none _)
   | (with_reducible refine LeO.ite ?_ ?_)
   | (with_reducible refine LeO.bind ?_ (fun _ => ?_))
   | exact ih0 _ _ _ _
   | exact LeO.none _
   | refine LeO.ite ?_ ?_
   | refine LeO.bind ?_ (fun _ => ?_)
set_option maxHeartbeats 8000000 in
set_option maxRecDepth 100000 in
theorem impl_sideTwo.calls (k : Nat) (a0 : Int) (a1 : Int) (r1 : ByteArray) (r2 : Int) (w : World) (h : impl_sideTwo.f k a0 a1 = some (r1, r2)) (HT : Aside0 (Giv.TabW w)) :
  Calls Tryd.prog 34 #[.int .i64 a0, .int .i64 a1] w fun e w' => e = .returned (.tuple #[.string r1, .int .i64 r2]) ∧ Below w.heap.size w w' := by
 have HB := Aside0.mk (Below.refl w.heap.size w)
 have H : ((impl_word.f (⟨#[65, 83, 76, 32, 82, 79, 76, 32, 76, 83, 82, 32, 82, 79, 82, 32, 83, 84, 88, 32, 76, 68, 88, 32, 68, 69, 67, 32, 73, 78, 67]⟩ : ByteArray) a0).bind fun t222 => (if t222.toList = ([83, 84, 88] : List UInt8) then (impl_sideTwo.j0 k a0 a1 t222 false) else (impl_sideTwo.j0 k a0 a1 t222 (t222.toList != ([76, 68, 88] : List UInt8))))) = some (r1, r2) := h
 clear h
 replace H := Option.bind_eq_some_iff.mp H
 obtain ⟨t222, A30, H⟩ := H
 replace H : (if t222.toList = ([83, 84, 88] : List UInt8) then (impl_sideTwo.j0 k a0 a1 t222 false) else (impl_sideTwo.j0 k a0 a1 t222 (t222.toList != ([76, 68, 88] : List UInt8)))) = some (r1, r2) := H
 have A3 := Aside0.mk A30
 clear A30
 have HC4 := Aside0.mk H
 clear H
 go_enter Tryd.func34, Tryd.ntmps34
 go_upto_region 2 with (first | ((with_reducible refine gate_callee (f := 33) rfl ?_); refine goesL_ (some 9) rfl rfl Tryd.func33 (by kernel_rfl) rfl #[.string (⟨#[65, 83, 76, 32, 82, 79, 76, 32, 76, 83, 82, 32, 82, 79, 82, 32, 83, 84, 88, 32, 76, 68, 88, 32, 68, 69, 67, 32, 73, 78, 67]⟩ : ByteArray), .int .i64 a0] rfl (by (try simp only [List.map_toArray, List.map_cons, List.map_nil]); first | done | rfl | (simp only [List.length_drop, List.length_take]; rfl)) ?_; (with_reducible refine (impl_word.calls (⟨#[65, 83, 76, 32, 82, 79, 76, 32, 76, 83, 82, 32, 82, 79, 82, 32, 83, 84, 88, 32, 76, 68, 88, 32, 68, 69, 67, 32, 73, 78, 67]⟩ : ByteArray) a0 t222 _ A3.out (Giv.at_ HT (by repeat (first | (with_reducible first | exact HB.out | apply below_alloc | apply pw_below_drewN | apply below_drew1) | exact HB.out)))).mono ?_); rintro e w5 ⟨rfl, hb⟩; refine ⟨_, rfl, ?_⟩; have n0_ := Aside0.mk (below_step (by repeat (first | (with_reducible first | exact HB.out | apply below_alloc | apply pw_below_drewN | apply below_drew1) | exact HB.out)) hb); clear HB; have HB := n0_; clear n0_; (try clear hb); (try clear hb2); (try clear hk); (try clear hi)))
 (try simp only [Act.put, List.setIfInBounds_toArray, List.set_cons_zero, List.set_cons_succ])
 go_cut [7] (fun v7 wc => ∃ (kq : Nat) (x7_3 : Bool), v7 = .bool x7_3 ∧ Aside0 (impl_sideTwo.j0 kq a0 a1 t222 x7_3 = some (r1, r2)) ∧ Aside0 (kq ≤ k) ∧ Aside0 (Below w.heap.size w wc))
 case first =>
  have H := HC4.out
  clear HC4
  by_cases c6 : t222.toList = ([83, 84, 88] : List UInt8)
  ·rw [if_pos c6] at H
   have c6b0 : (t222.toList == ([83, 84, 88] : List UInt8)) = true := beq_iff_eq.mpr c6
   have c6b1 : (t222.toList != ([83, 84, 88] : List UInt8)) = false := bne_eq_false_iff_eq.mpr c6
   clear c6
   (first | rw [c6b0] | (simp only [i64_w, i32_w]; rw [c6b0]) | skip)
   have H' := Aside0.mk H
   clear H
   go_wp2
   go_meet
   case rel => exact ⟨_, (false), (by first | rfl | (simp; done) | (simp [*]; done)), H', ⟨by first | omega | exact Nat.le_refl _⟩, ⟨by repeat (first | (with_reducible first | exact HB.out | apply below_alloc | apply pw_below_drewN | apply below_drew1) | exact HB.out)⟩⟩
  ·rw [if_neg c6] at H
   have c6b0 : (t222.toList == ([83, 84, 88] : List UInt8)) = false := beq_eq_false_iff_ne.mpr c6
   have c6b1 : (t222.toList != ([83, 84, 88] : List UInt8)) = true := bne_iff_ne.mpr c6
   (first | rw [c6b0] | (simp only [i64_w, i32_w]; rw [c6b0]) | skip)
   have H' := Aside0.mk H
   clear H
   go_wp2
   go_meet
   case rel => exact ⟨_, ((t222.toList != ([76, 68, 88] : List UInt8))), (by first | rfl | (simp; done) | (simp [*]; done)), H', ⟨by first | omega | exact Nat.le_refl _⟩, ⟨by repeat (first | (with_reducible first | exact HB.out | apply below_alloc | apply pw_below_drewN | apply below_drew1) | exact HB.out)⟩⟩
 case rest =>
  clear HC4
  try clear p2
  try clear c3
  try clear c6
  try clear c6b0
  try clear c6b1
  obtain ⟨kq, x7_3, rfl, HA, HJ3, HB⟩ := hcut
  cases kq with
  | zero => exact absurd HA.out (by simp [impl_sideTwo.j0])
  | succ kj3 =>
   have H := HA.out
   clear HA
   simp only [impl_sideTwo.j0] at H
   by_cases c7 : a1 = 0
   ·rw [if_pos c7] at H
    have c7b0 : (a1 == 0) = true := beq_iff_eq.mpr c7
    have c7b1 : (a1 != 0) = false := bne_eq_false_iff_eq.mpr c7
    clear c7
    replace H := Option.bind_eq_some_iff.mp H
    obtain ⟨t223, A80, H⟩ := H
    replace H : (some (t223, 2)) = some (r1, r2) := H
    have A8 := Aside0.mk A80
    clear A80
    simp only [Option.some.injEq, Prod.mk.injEq] at H
    obtain ⟨rfl, rfl⟩ := H
    go_wp2_with (first | ((with_reducible refine gate_callee (f := 33) rfl ?_); refine goesL_ (some 20) rfl rfl Tryd.func33 (by kernel_rfl) rfl #[.string (⟨#[46, 32, 46, 32, 46, 32, 46, 32, 46, 32, 76, 68, 88, 32, 46, 32, 46]⟩ : ByteArray), .int .i64 a0] rfl (by (try simp only [List.map_toArray, List.map_cons, List.map_nil]); first | done | rfl | (simp only [List.length_drop, List.length_take]; rfl)) ?_; (with_reducible refine (impl_word.calls (⟨#[46, 32, 46, 32, 46, 32, 46, 32, 46, 32, 76, 68, 88, 32, 46, 32, 46]⟩ : ByteArray) a0 t223 _ A8.out (Giv.at_ HT (by repeat (first | (with_reducible first | exact HB.out | apply below_alloc | apply pw_below_drewN | apply below_drew1) | exact HB.out)))).mono ?_); rintro e w9 ⟨rfl, hb⟩; refine ⟨_, rfl, ?_⟩; have n0_ := Aside0.mk (below_step (by repeat (first | (with_reducible first | exact HB.out | apply below_alloc | apply pw_below_drewN | apply below_drew1) | exact HB.out)) hb); clear HB; have HB := n0_; clear n0_; (try clear hb); (try clear hb2); (try clear hk); (try clear hi)))
    go_ret2
    exact ⟨by first | rfl | (simp [errW_none, errW_some] <;> rfl) | (simp [*, errW_none, errW_some] <;> rfl), by repeat (first | (with_reducible first | exact HB.out | apply below_alloc | apply pw_below_drewN | apply below_drew1) | exact HB.out)⟩
   ·rw [if_neg c7] at H
    have c7b0 : (a1 == 0) = false := beq_eq_false_iff_ne.mpr c7
    have c7b1 : (a1 != 0) = true := bne_iff_ne.mpr c7
    by_cases c10 : a1 = 1
    ·rw [if_pos c10] at H
     have c10b0 : (a1 == 1) = true := beq_iff_eq.mpr c10
     have c10b1 : (a1 != 1) = false := bne_eq_false_iff_eq.mpr c10
     clear c10
     simp only [Option.some.injEq, Prod.mk.injEq] at H
     obtain ⟨rfl, rfl⟩ := H
     go_wp2
     go_ret2
     exact ⟨by first | rfl | (simp [errW_none, errW_some] <;> rfl) | (simp [*, errW_none, errW_some] <;> rfl), by repeat (first | (with_reducible first | exact HB.out | apply below_alloc | apply pw_below_drewN | apply below_drew1) | exact HB.out)⟩
    ·rw [if_neg c10] at H
     have c10b0 : (a1 == 1) = false := beq_eq_false_iff_ne.mpr c10
     have c10b1 : (a1 != 1) = true := bne_iff_ne.mpr c10
     by_cases c11 : a1 = 2
     ·rw [if_pos c11] at H
      have c11b0 : (a1 == 2) = true := beq_iff_eq.mpr c11
      have c11b1 : (a1 != 2) = false := bne_eq_false_iff_eq.mpr c11
      clear c11
      by_cases c12 : a0 < 4
      ·rw [if_pos c12] at H
       have c12b0 : decide (a0 < 4) = true := decide_eq_true c12
       clear c12
       simp only [Option.some.injEq, Prod.mk.injEq] at H
       obtain ⟨rfl, rfl⟩ := H
       go_wp2
       go_ret2
       exact ⟨by first | rfl | (simp [errW_none, errW_some] <;> rfl) | (simp [*, errW_none, errW_some] <;> rfl), by repeat (first | (with_reducible first | exact HB.out | apply below_alloc | apply pw_below_drewN | apply below_drew1) | exact HB.out)⟩
      ·rw [if_neg c12] at H
       have c12b0 : decide (a0 < 4) = false := decide_eq_false c12
       clear c12
       replace H := Option.bind_eq_some_iff.mp H
       obtain ⟨t224, A130, H⟩ := H
       replace H : (some (t224, 0)) = some (r1, r2) := H
       have A13 := Aside0.mk A130
       clear A130
       simp only [Option.some.injEq, Prod.mk.injEq] at H
       obtain ⟨rfl, rfl⟩ := H
       go_wp2_with (first | ((with_reducible refine gate_callee (f := 33) rfl ?_); refine goesL_ (some 30) rfl rfl Tryd.func33 (by kernel_rfl) rfl #[.string (⟨#[46, 32, 46, 32, 46, 32, 46, 32, 84, 88, 65, 32, 84, 65, 88, 32, 68, 69, 88, 32, 78, 79, 80]⟩ : ByteArray), .int .i64 a0] rfl (by (try simp only [List.map_toArray, List.map_cons, List.map_nil]); first | done | rfl | (simp only [List.length_drop, List.length_take]; rfl)) ?_; (with_reducible refine (impl_word.calls (⟨#[46, 32, 46, 32, 46, 32, 46, 32, 84, 88, 65, 32, 84, 65, 88, 32, 68, 69, 88, 32, 78, 79, 80]⟩ : ByteArray) a0 t224 _ A13.out (Giv.at_ HT (by repeat (first | (with_reducible first | exact HB.out | apply below_alloc | apply pw_below_drewN | apply below_drew1) | exact HB.out)))).mono ?_); rintro e w14 ⟨rfl, hb⟩; refine ⟨_, rfl, ?_⟩; have n0_ := Aside0.mk (below_step (by repeat (first | (with_reducible first | exact HB.out | apply below_alloc | apply pw_below_drewN | apply below_drew1) | exact HB.out)) hb); clear HB; have HB := n0_; clear n0_; (try clear hb); (try clear hb2); (try clear hk); (try clear hi)))
       go_ret2
       exact ⟨by first | rfl | (simp [errW_none, errW_some] <;> rfl) | (simp [*, errW_none, errW_some] <;> rfl), by repeat (first | (with_reducible first | exact HB.out | apply below_alloc | apply pw_below_drewN | apply below_drew1) | exact HB.out)⟩
     ·rw [if_neg c11] at H
      have c11b0 : (a1 == 2) = false := beq_eq_false_iff_ne.mpr c11
      have c11b1 : (a1 != 2) = true := bne_iff_ne.mpr c11
      by_cases c15 : a1 = 3
      ·rw [if_pos c15] at H
       have c15b0 : (a1 == 3) = true := beq_iff_eq.mpr c15
       have c15b1 : (a1 != 3) = false := bne_eq_false_iff_eq.mpr c15
       clear c15
       simp only [Option.some.injEq, Prod.mk.injEq] at H
       obtain ⟨rfl, rfl⟩ := H
       go_wp2
       go_ret2
       exact ⟨by first | rfl | (simp [errW_none, errW_some] <;> rfl) | (simp [*, errW_none, errW_some] <;> rfl), by repeat (first | (with_reducible first | exact HB.out | apply below_alloc | apply pw_below_drewN | apply below_drew1) | exact HB.out)⟩
      ·rw [if_neg c15] at H
       have c15b0 : (a1 == 3) = false := beq_eq_false_iff_ne.mpr c15
       have c15b1 : (a1 != 3) = true := bne_iff_ne.mpr c15
       by_cases c16 : a1 = 5
       ·rw [if_pos c16] at H
        have c16b0 : (a1 == 5) = true := beq_iff_eq.mpr c16
        have c16b1 : (a1 != 5) = false := bne_eq_false_iff_eq.mpr c16
        clear c16
        by_cases c17 : x7_3 = true
        ·subst c17
         have H1 : (some (t222, 4)) = some (r1, r2) := by rw [if_pos rfl] at H; exact H
         clear H
         have H := H1
         clear H1
         simp only [Option.some.injEq, Prod.mk.injEq] at H
         obtain ⟨rfl, rfl⟩ := H
         go_wp2
         go_ret2
         exact ⟨by first | rfl | (simp [errW_none, errW_some] <;> rfl) | (simp [*, errW_none, errW_some] <;> rfl), by repeat (first | (with_reducible first | exact HB.out | apply below_alloc | apply pw_below_drewN | apply below_drew1) | exact HB.out)⟩
        ·replace c17 := Bool.eq_false_iff.mpr c17
         subst c17
         have H1 : (some (t222, 5)) = some (r1, r2) := by rw [if_neg (show ¬ (false = true) by decide)] at H; exact H
         clear H
         have H := H1
         clear H1
         simp only [Option.some.injEq, Prod.mk.injEq] at H
         obtain ⟨rfl, rfl⟩ := H
         go_wp2
         go_ret2
         exact ⟨by first | rfl | (simp [errW_none, errW_some] <;> rfl) | (simp [*, errW_none, errW_some] <;> rfl), by repeat (first | (with_reducible first | exact HB.out | apply below_alloc | apply pw_below_drewN | apply below_drew1) | exact HB.out)⟩
       ·rw [if_neg c16] at H
        have c16b0 : (a1 == 5) = false := beq_eq_false_iff_ne.mpr c16
        have c16b1 : (a1 != 5) = true := bne_iff_ne.mpr c16
        by_cases c18 : a1 = 6
        ·rw [if_pos c18] at H
         have c18b0 : (a1 == 6) = true := beq_iff_eq.mpr c18
         have c18b1 : (a1 != 6) = false := bne_eq_false_iff_eq.mpr c18
         clear c18
         replace H := Option.bind_eq_some_iff.mp H
         obtain ⟨t225, A190, H⟩ := H
         replace H : (some (t225, 0)) = some (r1, r2) := H
         have A19 := Aside0.mk A190
         clear A190
         simp only [Option.some.injEq, Prod.mk.injEq] at H
         obtain ⟨rfl, rfl⟩ := H
         go_wp2_with (first | ((with_reducible refine gate_callee (f := 33) rfl ?_); refine goesL_ (some 42) rfl rfl Tryd.func33 (by kernel_rfl) rfl #[.string (⟨#[46, 32, 46, 32, 46, 32, 46, 32, 84, 88, 83, 32, 84, 83, 88, 32, 46, 32, 46]⟩ : ByteArray), .int .i64 a0] rfl (by (try simp only [List.map_toArray, List.map_cons, List.map_nil]); first | done | rfl | (simp only [List.length_drop, List.length_take]; rfl)) ?_; (with_reducible refine (impl_word.calls (⟨#[46, 32, 46, 32, 46, 32, 46, 32, 84, 88, 83, 32, 84, 83, 88, 32, 46, 32, 46]⟩ : ByteArray) a0 t225 _ A19.out (Giv.at_ HT (by repeat (first | (with_reducible first | exact HB.out | apply below_alloc | apply pw_below_drewN | apply below_drew1) | exact HB.out)))).mono ?_); rintro e w20 ⟨rfl, hb⟩; refine ⟨_, rfl, ?_⟩; have n0_ := Aside0.mk (below_step (by repeat (first | (with_reducible first | exact HB.out | apply below_alloc | apply pw_below_drewN | apply below_drew1) | exact HB.out)) hb); clear HB; have HB := n0_; clear n0_; (try clear hb); (try clear hb2); (try clear hk); (try clear hi)))
         go_ret2
         exact ⟨by first | rfl | (simp [errW_none, errW_some] <;> rfl) | (simp [*, errW_none, errW_some] <;> rfl), by repeat (first | (with_reducible first | exact HB.out | apply below_alloc | apply pw_below_drewN | apply below_drew1) | exact HB.out)⟩
        ·rw [if_neg c18] at H
         have c18b0 : (a1 == 6) = false := beq_eq_false_iff_ne.mpr c18
         have c18b1 : (a1 != 6) = true := bne_iff_ne.mpr c18
         by_cases c21 : a1 = 7
         ·rw [if_pos c21] at H
          have c21b0 : (a1 == 7) = true := beq_iff_eq.mpr c21
          have c21b1 : (a1 != 7) = false := bne_eq_false_iff_eq.mpr c21
          clear c21
          by_cases c22 : x7_3 = true
          ·subst c22
           have H1 : (some (t222, 7)) = some (r1, r2) := by rw [if_pos rfl] at H; exact H
           clear H
           have H := H1
           clear H1
           simp only [Option.some.injEq, Prod.mk.injEq] at H
           obtain ⟨rfl, rfl⟩ := H
           go_wp2
           go_ret2
           exact ⟨by first | rfl | (simp [errW_none, errW_some] <;> rfl) | (simp [*, errW_none, errW_some] <;> rfl), by repeat (first | (with_reducible first | exact HB.out | apply below_alloc | apply pw_below_drewN | apply below_drew1) | exact HB.out)⟩
          ·replace c22 := Bool.eq_false_iff.mpr c22
           subst c22
           have H1 : ((impl_word.f (⟨#[46, 32, 46, 32, 46, 32, 46, 32, 46, 32, 76, 68, 88, 32, 46, 32, 46]⟩ : ByteArray) a0).bind fun t226 => (some (t226, 8))) = some (r1, r2) := by rw [if_neg (show ¬ (false = true) by decide)] at H; exact H
           clear H
           have H := H1
           clear H1
           replace H := Option.bind_eq_some_iff.mp H
           obtain ⟨t226, A230, H⟩ := H
           replace H : (some (t226, 8)) = some (r1, r2) := H
           have A23 := Aside0.mk A230
           clear A230
           simp only [Option.some.injEq, Prod.mk.injEq] at H
           obtain ⟨rfl, rfl⟩ := H
           go_wp2_with (first | ((with_reducible refine gate_callee (f := 33) rfl ?_); refine goesL_ (some 48) rfl rfl Tryd.func33 (by kernel_rfl) rfl #[.string (⟨#[46, 32, 46, 32, 46, 32, 46, 32, 46, 32, 76, 68, 88, 32, 46, 32, 46]⟩ : ByteArray), .int .i64 a0] rfl (by (try simp only [List.map_toArray, List.map_cons, List.map_nil]); first | done | rfl | (simp only [List.length_drop, List.length_take]; rfl)) ?_; (with_reducible refine (impl_word.calls (⟨#[46, 32, 46, 32, 46, 32, 46, 32, 46, 32, 76, 68, 88, 32, 46, 32, 46]⟩ : ByteArray) a0 t226 _ A23.out (Giv.at_ HT (by repeat (first | (with_reducible first | exact HB.out | apply below_alloc | apply pw_below_drewN | apply below_drew1) | exact HB.out)))).mono ?_); rintro e w24 ⟨rfl, hb⟩; refine ⟨_, rfl, ?_⟩; have n0_ := Aside0.mk (below_step (by repeat (first | (with_reducible first | exact HB.out | apply below_alloc | apply pw_below_drewN | apply below_drew1) | exact HB.out)) hb); clear HB; have HB := n0_; clear n0_; (try clear hb); (try clear hb2); (try clear hk); (try clear hi)))
           go_ret2
           exact ⟨by first | rfl | (simp [errW_none, errW_some] <;> rfl) | (simp [*, errW_none, errW_some] <;> rfl), by repeat (first | (with_reducible first | exact HB.out | apply below_alloc | apply pw_below_drewN | apply below_drew1) | exact HB.out)⟩
         ·rw [if_neg c21] at H
          have c21b0 : (a1 == 7) = false := beq_eq_false_iff_ne.mpr c21
          have c21b1 : (a1 != 7) = true := bne_iff_ne.mpr c21
          simp only [Option.some.injEq, Prod.mk.injEq] at H
          obtain ⟨rfl, rfl⟩ := H
          go_wp2
          go_ret2
          exact ⟨by first | rfl | (simp [errW_none, errW_some] <;> rfl) | (simp [*, errW_none, errW_some] <;> rfl), by repeat (first | (with_reducible first | exact HB.out | apply below_alloc | apply pw_below_drewN | apply below_drew1) | exact HB.out)⟩

/-! ### impl_operation: function 30 -/
def impl_operation.j0 : Nat → ByteArray → Int → Bool → Option (ByteArray × Int)
 | 0, _, _, _ => none
 | k + 1, x6, x7, x38 => if x38 = true then (if ([] : List UInt8) = ([] : List UInt8) then (some ((⟨#[]⟩ : ByteArray), (-1))) else (some ((⟨#[]⟩ : ByteArray), x7))) else (if x6.toList = ([] : List UInt8) then (some ((⟨#[]⟩ : ByteArray), (-1))) else (some (x6, x7)))
def impl_operation.f (k : Nat) (a0 : Int) : Option (ByteArray × Int) := if (Go.bits .and .u8 a0 3) = 0 then ((impl_sideZero.f k (wrap64 (a0 / 32)) (wrap64 (Go.bits .and .u8 (a0 / 4) 7))).bind fun bt227 => (if bt227.1.toList = ([] : List UInt8) then (some ((⟨#[]⟩ : ByteArray), (-1))) else (some (bt227.1, bt227.2)))) else (if (Go.bits .and .u8 a0 3) = 1 then ((impl_word.f (⟨#[79, 82, 65, 32, 65, 78, 68, 32, 69, 79, 82, 32, 65, 68, 67, 32, 83, 84, 65, 32, 76, 68, 65, 32, 67, 77, 80, 32, 83, 66, 67]⟩ : ByteArray) (wrap64 (a0 / 32))).bind fun t229 => ((some (([10, 3, 2, 6, 11, 4, 8, 7] : List Int) : List Int)).bind fun y230 => (if 0 ≤ (wrap64 (Go.bits .and .u8 (a0 / 4) 7)) then (if (wrap64 (Go.bits .and .u8 (a0 / 4) 7)) < (y230.length : Int) then (if t229.toList = ([83, 84, 65] : List UInt8) then (impl_operation.j0 k t229 (rd y230 (wrap64 (Go.bits .and .u8 (a0 / 4) 7))) ((rd y230 (wrap64 (Go.bits .and .u8 (a0 / 4) 7))) == 2)) else (impl_operation.j0 k t229 (rd y230 (wrap64 (Go.bits .and .u8 (a0 / 4) 7))) false)) else (none)) else (none)))) else (if (Go.bits .and .u8 a0 3) = 2 then ((impl_sideTwo.f k (wrap64 (a0 / 32)) (wrap64 (Go.bits .and .u8 (a0 / 4) 7))).bind fun bt234 => (if bt234.1.toList = ([] : List UInt8) then (some ((⟨#[]⟩ : ByteArray), (-1))) else (some (bt234.1, bt234.2)))) else (if ([] : List UInt8) = ([] : List UInt8) then (some ((⟨#[]⟩ : ByteArray), (-1))) else (some ((⟨#[]⟩ : ByteArray), (-1))))))
theorem impl_operation.mono_l : ∀ k, (∀ y0 y1 y2, LeO (impl_operation.j0 k y0 y1 y2) (impl_operation.j0 (k + 1) y0 y1 y2))
 | 0 => fun _ _ _ r h => by simp [impl_operation.j0] at h
 | k + 1 => by
  have ih0 := impl_operation.mono_l k
  ·intro y0 y1 y2
   unfold impl_operation.j0
   repeat' first
   | (with_reducible exact ih0 _ _ _)
   | (with_reducible exact impl_sideTwo.mono _ _ _)
   | (with_reducible exact impl_sideZero.mono _ _ _)
   | (with_reducible exact LeO.refl _)
   | (with_reducible exact LeO.none _)
   | (with_reducible refine LeO.ite ?_ ?_)
   | (with_reducible refine LeO.bind ?_ (fun _ => ?_))
   | exact ih0 _ _ _
   | exact impl_sideTwo.mono _ _ _
   | exact impl_sideZero.mono _ _ _
   | exact LeO.none _
   | refine LeO.ite ?_ ?_
   | refine LeO.bind ?_ (fun _ => ?_)
theorem impl_operation.mono : ∀ a0 k, LeO (impl_operation.f k a0) (impl_operation.f (k + 1) a0) := by
 intro a0 k
 have ih0 := impl_operation.mono_l k
 unfold impl_operation.f
 repeat' first
   | (with_reducible exact ih0 _ _ _)
   | (with_reducible exact impl_sideTwo.mono _ _ _)
   | (with_reducible exact impl_sideZero.mono _ _ _)
   | (with_reducible exact LeO.refl _)
   | (with_reducible exact LeO.none _)
   | (with_reducible refine LeO.ite ?_ ?_)
   | (with_reducible refine LeO.bind ?_ (fun _ => ?_))
   | exact ih0 _ _ _
   | exact impl_sideTwo.mono _ _ _
   | exact impl_sideZero.mono _ _ _
   | exact LeO.none _
   | refine LeO.ite ?_ ?_
   | refine LeO.bind ?_ (fun _ => ?_)
set_option maxHeartbeats 8000000 in
set_option maxRecDepth 100000 in
theorem impl_operation.calls (k : Nat) (a0 : Int) (r1 : ByteArray) (r2 : Int) (w : World) (h : impl_operation.f k a0 = some (r1, r2)) (HT : Aside0 (Giv.TabW w)) :
  Calls Tryd.prog 30 #[.int .u8 a0] w fun e w' => e = .returned (.tuple #[.string r1, .int .i64 r2]) ∧ Below w.heap.size w w' := by
 have HB := Aside0.mk (Below.refl w.heap.size w)
 have H : (if (Go.bits .and .u8 a0 3) = 0 then ((impl_sideZero.f k (wrap64 (a0 / 32)) (wrap64 (Go.bits .and .u8 (a0 / 4) 7))).bind fun bt227 => (if bt227.1.toList = ([] : List UInt8) then (some ((⟨#[]⟩ : ByteArray), (-1))) else (some (bt227.1, bt227.2)))) else (if (Go.bits .and .u8 a0 3) = 1 then ((impl_word.f (⟨#[79, 82, 65, 32, 65, 78, 68, 32, 69, 79, 82, 32, 65, 68, 67, 32, 83, 84, 65, 32, 76, 68, 65, 32, 67, 77, 80, 32, 83, 66, 67]⟩ : ByteArray) (wrap64 (a0 / 32))).bind fun t229 => ((some (([10, 3, 2, 6, 11, 4, 8, 7] : List Int) : List Int)).bind fun y230 => (if 0 ≤ (wrap64 (Go.bits .and .u8 (a0 / 4) 7)) then (if (wrap64 (Go.bits .and .u8 (a0 / 4) 7)) < (y230.length : Int) then (if t229.toList = ([83, 84, 65] : List UInt8) then (impl_operation.j0 k t229 (rd y230 (wrap64 (Go.bits .and .u8 (a0 / 4) 7))) ((rd y230 (wrap64 (Go.bits .and .u8 (a0 / 4) 7))) == 2)) else (impl_operation.j0 k t229 (rd y230 (wrap64 (Go.bits .and .u8 (a0 / 4) 7))) false)) else (none)) else (none)))) else (if (Go.bits .and .u8 a0 3) = 2 then ((impl_sideTwo.f k (wrap64 (a0 / 32)) (wrap64 (Go.bits .and .u8 (a0 / 4) 7))).bind fun bt234 => (if bt234.1.toList = ([] : List UInt8) then (some ((⟨#[]⟩ : ByteArray), (-1))) else (some (bt234.1, bt234.2)))) else (if ([] : List UInt8) = ([] : List UInt8) then (some ((⟨#[]⟩ : ByteArray), (-1))) else (some ((⟨#[]⟩ : ByteArray), (-1))))))) = some (r1, r2) := h
 clear h
 by_cases c2 : (Go.bits .and .u8 a0 3) = 0
 ·rw [if_pos c2] at H
  have c2b0 : ((Go.bits .and .u8 a0 3) == 0) = true := beq_iff_eq.mpr c2
  have c2b1 : ((Go.bits .and .u8 a0 3) != 0) = false := bne_eq_false_iff_eq.mpr c2
  clear c2
  replace H := Option.bind_eq_some_iff.mp H
  obtain ⟨⟨t227, t228⟩, A30, H⟩ := H
  replace H : (if t227.toList = ([] : List UInt8) then (some ((⟨#[]⟩ : ByteArray), (-1))) else (some (t227, t228))) = some (r1, r2) := H
  have A3 := Aside0.mk A30
  clear A30
  by_cases c4 : t227.toList = ([] : List UInt8)
  ·rw [if_pos c4] at H
   have c4b0 : (t227.toList == ([] : List UInt8)) = true := beq_iff_eq.mpr c4
   have c4bE : t227.toList.isEmpty = true := List.isEmpty_iff.mpr c4
   have c4b1 : (t227.toList != ([] : List UInt8)) = false := bne_eq_false_iff_eq.mpr c4
   clear c4
   simp only [Option.some.injEq, Prod.mk.injEq] at H
   obtain ⟨rfl, rfl⟩ := H
   go_enter Tryd.func30, Tryd.ntmps30
   go_wp2_with (first | ((with_reducible refine gate_callee (f := 32) rfl ?_); refine goesL_ (some 22) rfl rfl Tryd.func32 (by kernel_rfl) rfl #[.int .i64 (wrap64 (a0 / 32)), .int .i64 (wrap64 (Go.bits .and .u8 (a0 / 4) 7))] rfl (by (try simp only [List.map_toArray, List.map_cons, List.map_nil]); first | done | rfl | (simp only [List.length_drop, List.length_take]; rfl)) ?_; (with_reducible refine (impl_sideZero.calls k (wrap64 (a0 / 32)) (wrap64 (Go.bits .and .u8 (a0 / 4) 7)) t227 t228 _ A3.out (Giv.at_ HT (by repeat (first | (with_reducible first | exact HB.out | apply below_alloc | apply pw_below_drewN | apply below_drew1) | exact HB.out)))).mono ?_); rintro e w5 ⟨rfl, hb⟩; refine ⟨_, rfl, ?_⟩; have n0_ := Aside0.mk (below_step (by repeat (first | (with_reducible first | exact HB.out | apply below_alloc | apply pw_below_drewN | apply below_drew1) | exact HB.out)) hb); clear HB; have HB := n0_; clear n0_; (try clear hb); (try clear hb2); (try clear hk); (try clear hi)))
   go_ret2
   exact ⟨by first | rfl | (simp [errW_none, errW_some] <;> rfl) | (simp [*, errW_none, errW_some] <;> rfl), by repeat (first | (with_reducible first | exact HB.out | apply below_alloc | apply pw_below_drewN | apply below_drew1) | exact HB.out)⟩
  ·rw [if_neg c4] at H
   have c4b0 : (t227.toList == ([] : List UInt8)) = false := beq_eq_false_iff_ne.mpr c4
   have c4bE : t227.toList.isEmpty = false := List.isEmpty_eq_false_iff.mpr c4
   have c4b1 : (t227.toList != ([] : List UInt8)) = true := bne_iff_ne.mpr c4
   simp only [Option.some.injEq, Prod.mk.injEq] at H
   obtain ⟨rfl, rfl⟩ := H
   go_enter Tryd.func30, Tryd.ntmps30
   go_wp2_with (first | ((with_reducible refine gate_callee (f := 32) rfl ?_); refine goesL_ (some 22) rfl rfl Tryd.func32 (by kernel_rfl) rfl #[.int .i64 (wrap64 (a0 / 32)), .int .i64 (wrap64 (Go.bits .and .u8 (a0 / 4) 7))] rfl (by (try simp only [List.map_toArray, List.map_cons, List.map_nil]); first | done | rfl | (simp only [List.length_drop, List.length_take]; rfl)) ?_; (with_reducible refine (impl_sideZero.calls k (wrap64 (a0 / 32)) (wrap64 (Go.bits .and .u8 (a0 / 4) 7)) t227 t228 _ A3.out (Giv.at_ HT (by repeat (first | (with_reducible first | exact HB.out | apply below_alloc | apply pw_below_drewN | apply below_drew1) | exact HB.out)))).mono ?_); rintro e w6 ⟨rfl, hb⟩; refine ⟨_, rfl, ?_⟩; have n0_ := Aside0.mk (below_step (by repeat (first | (with_reducible first | exact HB.out | apply below_alloc | apply pw_below_drewN | apply below_drew1) | exact HB.out)) hb); clear HB; have HB := n0_; clear n0_; (try clear hb); (try clear hb2); (try clear hk); (try clear hi)))
   go_ret2
   exact ⟨by first | rfl | (simp [errW_none, errW_some] <;> rfl) | (simp [*, errW_none, errW_some] <;> rfl), by repeat (first | (with_reducible first | exact HB.out | apply below_alloc | apply pw_below_drewN | apply below_drew1) | exact HB.out)⟩
 ·rw [if_neg c2] at H
  have c2b0 : ((Go.bits .and .u8 a0 3) == 0) = false := beq_eq_false_iff_ne.mpr c2
  have c2b1 : ((Go.bits .and .u8 a0 3) != 0) = true := bne_iff_ne.mpr c2
  by_cases c7 : (Go.bits .and .u8 a0 3) = 1
  ·rw [if_pos c7] at H
   have c7b0 : ((Go.bits .and .u8 a0 3) == 1) = true := beq_iff_eq.mpr c7
   have c7b1 : ((Go.bits .and .u8 a0 3) != 1) = false := bne_eq_false_iff_eq.mpr c7
   clear c7
   replace H := Option.bind_eq_some_iff.mp H
   obtain ⟨t229, A80, H⟩ := H
   replace H : ((some (([10, 3, 2, 6, 11, 4, 8, 7] : List Int) : List Int)).bind fun y230 => (if 0 ≤ (wrap64 (Go.bits .and .u8 (a0 / 4) 7)) then (if (wrap64 (Go.bits .and .u8 (a0 / 4) 7)) < (y230.length : Int) then (if t229.toList = ([83, 84, 65] : List UInt8) then (impl_operation.j0 k t229 (rd y230 (wrap64 (Go.bits .and .u8 (a0 / 4) 7))) ((rd y230 (wrap64 (Go.bits .and .u8 (a0 / 4) 7))) == 2)) else (impl_operation.j0 k t229 (rd y230 (wrap64 (Go.bits .and .u8 (a0 / 4) 7))) false)) else (none)) else (none))) = some (r1, r2) := H
   have A8 := Aside0.mk A80
   clear A80
   obtain ⟨y230, hy230⟩ : ∃ y_ : List Int, y_ = (([10, 3, 2, 6, 11, 4, 8, 7] : List Int)) := ⟨_, rfl⟩
   replace H : (if 0 ≤ (wrap64 (Go.bits .and .u8 (a0 / 4) 7)) then (if (wrap64 (Go.bits .and .u8 (a0 / 4) 7)) < (y230.length : Int) then (if t229.toList = ([83, 84, 65] : List UInt8) then (impl_operation.j0 k t229 (rd y230 (wrap64 (Go.bits .and .u8 (a0 / 4) 7))) ((rd y230 (wrap64 (Go.bits .and .u8 (a0 / 4) 7))) == 2)) else (impl_operation.j0 k t229 (rd y230 (wrap64 (Go.bits .and .u8 (a0 / 4) 7))) false)) else (none)) else (none)) = some (r1, r2) := by first | (rw [hy230]; with_reducible exact H) | (have H2_ := (Option.bind_some _ _).symm.trans H; rw [hy230]; with_reducible exact H2_) | (have H2_ := (Option.bind_some _ _).symm.trans H; with_reducible exact H2_) | with_reducible exact H | (rw [hy230]; exact H) | exact H
   have Ny230 := Aside0.mk hy230
   clear hy230
   obtain ⟨ji9, hji9⟩ : ∃ j_ : Int, (wrap64 (Go.bits .and .u8 (a0 / 4) 7)) = j_ := ⟨_, rfl⟩
   replace H : (if 0 ≤ (ji9) then (if (ji9) < (y230.length : Int) then (if t229.toList = ([83, 84, 65] : List UInt8) then (impl_operation.j0 k t229 (rd y230 (ji9)) ((rd y230 (ji9)) == 2)) else (impl_operation.j0 k t229 (rd y230 (ji9)) false)) else (none)) else (none)) = some (r1, r2) := by first | (rw [hji9] at H; exact H) | (simp only [hji9] at H ⊢; exact H)
   (try rw [hji9] at A8)
   have hji9w : (IntKind.i64.wrap (Go.bits .and .u8 (a0 / 4) 7)) = ji9 := (i64_w _).trans hji9
   by_cases c10 : 0 ≤ (ji9)
   ·rw [if_pos c10] at H
    have c10b0 : decide (0 ≤ (ji9)) = true := decide_eq_true c10
    clear c10
    by_cases c11 : (ji9) < (y230.length : Int)
    ·rw [if_pos c11] at H
     have c11b0 : decide ((ji9) < (y230.length : Int)) = true := decide_eq_true c11
     clear c11
     have HC12 := Aside0.mk H
     clear H
     go_enter Tryd.func30, Tryd.ntmps30
     go_upto_region 9 with (first | ((with_reducible refine gate_callee (f := 33) rfl ?_); refine goesL_ (some 28) rfl rfl Tryd.func33 (by kernel_rfl) rfl #[.string (⟨#[79, 82, 65, 32, 65, 78, 68, 32, 69, 79, 82, 32, 65, 68, 67, 32, 83, 84, 65, 32, 76, 68, 65, 32, 67, 77, 80, 32, 83, 66, 67]⟩ : ByteArray), .int .i64 (wrap64 (a0 / 32))] rfl (by (try simp only [List.map_toArray, List.map_cons, List.map_nil]); first | done | rfl | (simp only [List.length_drop, List.length_take]; rfl)) ?_; (with_reducible refine (impl_word.calls (⟨#[79, 82, 65, 32, 65, 78, 68, 32, 69, 79, 82, 32, 65, 68, 67, 32, 83, 84, 65, 32, 76, 68, 65, 32, 67, 77, 80, 32, 83, 66, 67]⟩ : ByteArray) (wrap64 (a0 / 32)) t229 _ A8.out (Giv.at_ HT (by repeat (first | (with_reducible first | exact HB.out | apply below_alloc | apply pw_below_drewN | apply below_drew1) | exact HB.out)))).mono ?_); rintro e w13 ⟨rfl, hb⟩; refine ⟨_, rfl, ?_⟩; have n0_ := Aside0.mk (below_step (by repeat (first | (with_reducible first | exact HB.out | apply below_alloc | apply pw_below_drewN | apply below_drew1) | exact HB.out)) hb); clear HB; have HB := n0_; clear n0_; (try clear hb); (try clear hb2); (try clear hk); (try clear hi)) | ((with_reducible refine gate_dst (N := 29) rfl ?_); refine Kd.R_lit (Kd.int .i64) _ 3 ?hg (N := 29) ?hd (xs := ([10, 3, 2, 6, 11, 4, 8, 7] : List Int)) (inner := [.int .i64 10, .int .i64 3, .int .i64 2, .int .i64 6, .int .i64 11, .int .i64 4, .int .i64 8, .int .i64 7]) (ok := fun _ => True) (okp := fun _ => True) ?hr ?hp (fun _ hk => hk) trivial (Below.refl _ _) (Nat.le_refl _) (by simp) ?_; (case hd => rfl); (case hg => rfl); (case hr => first | (go_simp; done) | (go_simp; rfl)); (case hp => exact (Reps.one (show Kd.M (Kd.int .i64) _ _ _ 10 [.int .i64 10] from rfl) (Reps.one (show Kd.M (Kd.int .i64) _ _ _ 3 [.int .i64 3] from rfl) (Reps.one (show Kd.M (Kd.int .i64) _ _ _ 2 [.int .i64 2] from rfl) (Reps.one (show Kd.M (Kd.int .i64) _ _ _ 6 [.int .i64 6] from rfl) (Reps.one (show Kd.M (Kd.int .i64) _ _ _ 11 [.int .i64 11] from rfl) (Reps.one (show Kd.M (Kd.int .i64) _ _ _ 4 [.int .i64 4] from rfl) (Reps.one (show Kd.M (Kd.int .i64) _ _ _ 8 [.int .i64 8] from rfl) (Reps.one (show Kd.M (Kd.int .i64) _ _ _ 7 [.int .i64 7] from rfl) (Reps.none _ _)))))))))); intro v231 w14 ho15 hb hg_ hnew_; clear hg_ hnew_; (first | rw [← Ny230.out] at ho15 | (simp only [Int.reduceToNat] at ho15; rw [← Ny230.out] at ho15)); have n0_ := Aside0.mk (Kd.R_lower ho15 (below_size (by repeat (first | (with_reducible first | exact HB.out | apply below_alloc | apply pw_below_drewN | apply below_drew1) | exact HB.out)))); have n1_ := Aside0.mk (below_step (by repeat (first | (with_reducible first | exact HB.out | apply below_alloc | apply pw_below_drewN | apply below_drew1) | exact HB.out)) hb); clear HB; have HO232 := n0_; have HB := n1_; clear n0_ n1_; clear hb ho15; obtain ⟨Ao16, co16, eo16⟩ := Kd.R_slice HO232.out; subst eo16; have p233 : 0 ≤ ((ji9) : Int) := of_decide_eq_true (by first | (with_reducible assumption) | assumption); have q233 : (ji9) < (y230.length : Int) := of_decide_eq_true (by first | (with_reducible assumption) | assumption); obtain ⟨ad233, e233, hx233_0⟩ := Kd.at_int (Kd.R_reads' HO232.out).2.2 (ji9) p233 q233; cases e233; replace p233 := eq_true p233; replace q233 := eq_true q233))
     (try simp only [Act.put, List.setIfInBounds_toArray, List.set_cons_zero, List.set_cons_succ])
     go_cut [38] (fun v38 wc => ∃ (kq : Nat) (x38_11 : Bool), v38 = .bool x38_11 ∧ Aside0 (impl_operation.j0 kq t229 (rd y230 (ji9)) x38_11 = some (r1, r2)) ∧ Aside0 (kq ≤ k) ∧ Aside0 (Below w.heap.size w wc))
     case first =>
      have H := HC12.out
      clear HC12
      by_cases c17 : t229.toList = ([83, 84, 65] : List UInt8)
      ·rw [if_pos c17] at H
       have c17b0 : (t229.toList == ([83, 84, 65] : List UInt8)) = true := beq_iff_eq.mpr c17
       have c17b1 : (t229.toList != ([83, 84, 65] : List UInt8)) = false := bne_eq_false_iff_eq.mpr c17
       clear c17
       (first | rw [c17b0] | (simp only [i64_w, i32_w]; rw [c17b0]) | skip)
       have H' := Aside0.mk H
       clear H
       go_wp2
       go_meet
       case rel => exact ⟨_, (((rd y230 (ji9)) == 2)), (by first | rfl | (simp; done) | (simp only [← hji9] <;> (first | rfl | simp)) | (simp [*]; done)), H', ⟨by first | omega | exact Nat.le_refl _⟩, ⟨by repeat (first | (with_reducible first | exact HB.out | apply below_alloc | apply pw_below_drewN | apply below_drew1) | exact HB.out)⟩⟩
      ·rw [if_neg c17] at H
       have c17b0 : (t229.toList == ([83, 84, 65] : List UInt8)) = false := beq_eq_false_iff_ne.mpr c17
       have c17b1 : (t229.toList != ([83, 84, 65] : List UInt8)) = true := bne_iff_ne.mpr c17
       (first | rw [c17b0] | (simp only [i64_w, i32_w]; rw [c17b0]) | skip)
       have H' := Aside0.mk H
       clear H
       go_wp2
       go_meet
       case rel => exact ⟨_, (false), (by first | rfl | (simp; done) | (simp [*]; done)), H', ⟨by first | omega | exact Nat.le_refl _⟩, ⟨by repeat (first | (with_reducible first | exact HB.out | apply below_alloc | apply pw_below_drewN | apply below_drew1) | exact HB.out)⟩⟩
     case rest =>
      clear HC12
      try clear c1
      try clear c2
      try clear c2b0
      try clear c2b1
      try clear p2
      try clear q2
      try clear hx2
      try clear c3
      try clear c4
      try clear c4b0
      try clear c4b1
      try clear p6
      try clear c7
      try clear c7b0
      try clear c7b1
      try clear c10
      try clear c10b0
      try clear c11
      try clear c11b0
      try clear c17
      try clear c17b0
      try clear c17b1
      try clear hx233_0
      try clear p233
      try clear q233
      obtain ⟨kq, x38_11, rfl, HA, HJ11, HB⟩ := hcut
      cases kq with
      | zero => exact absurd HA.out (by simp [impl_operation.j0])
      | succ kj11 =>
       have H := HA.out
       clear HA
       simp only [impl_operation.j0] at H
       by_cases c18 : x38_11 = true
       ·subst c18
        have H1 : (if ([] : List UInt8) = ([] : List UInt8) then (some ((⟨#[]⟩ : ByteArray), (-1))) else (some ((⟨#[]⟩ : ByteArray), (rd y230 (ji9))))) = some (r1, r2) := by rw [if_pos rfl] at H; exact H
        clear H
        have H := H1
        clear H1
        by_cases c19 : ([] : List UInt8) = ([] : List UInt8)
        ·rw [if_pos c19] at H
         have c19b0 : (([] : List UInt8) == ([] : List UInt8)) = true := beq_iff_eq.mpr c19
         have c19b1 : (([] : List UInt8) != ([] : List UInt8)) = false := bne_eq_false_iff_eq.mpr c19
         clear c19
         simp only [Option.some.injEq, Prod.mk.injEq] at H
         obtain ⟨rfl, rfl⟩ := H
         go_wp2
         go_ret2
         exact ⟨by first | rfl | (simp [errW_none, errW_some] <;> rfl) | (simp only [← hji9]; first | rfl | (simp [errW_none, errW_some] <;> rfl)) | (simp [*, errW_none, errW_some] <;> rfl), by repeat (first | (with_reducible first | exact HB.out | apply below_alloc | apply pw_below_drewN | apply below_drew1) | exact HB.out)⟩
        ·exact absurd rfl c19
       ·replace c18 := Bool.eq_false_iff.mpr c18
        subst c18
        have H1 : (if t229.toList = ([] : List UInt8) then (some ((⟨#[]⟩ : ByteArray), (-1))) else (some (t229, (rd y230 (ji9))))) = some (r1, r2) := by rw [if_neg (show ¬ (false = true) by decide)] at H; exact H
        clear H
        have H := H1
        clear H1
        by_cases c20 : t229.toList = ([] : List UInt8)
        ·rw [if_pos c20] at H
         have c20b0 : (t229.toList == ([] : List UInt8)) = true := beq_iff_eq.mpr c20
         have c20bE : t229.toList.isEmpty = true := List.isEmpty_iff.mpr c20
         have c20b1 : (t229.toList != ([] : List UInt8)) = false := bne_eq_false_iff_eq.mpr c20
         clear c20
         simp only [Option.some.injEq, Prod.mk.injEq] at H
         obtain ⟨rfl, rfl⟩ := H
         go_wp2
         go_ret2
         exact ⟨by first | rfl | (simp [errW_none, errW_some] <;> rfl) | (simp only [← hji9]; first | rfl | (simp [errW_none, errW_some] <;> rfl)) | (simp [*, errW_none, errW_some] <;> rfl), by repeat (first | (with_reducible first | exact HB.out | apply below_alloc | apply pw_below_drewN | apply below_drew1) | exact HB.out)⟩
        ·rw [if_neg c20] at H
         have c20b0 : (t229.toList == ([] : List UInt8)) = false := beq_eq_false_iff_ne.mpr c20
         have c20bE : t229.toList.isEmpty = false := List.isEmpty_eq_false_iff.mpr c20
         have c20b1 : (t229.toList != ([] : List UInt8)) = true := bne_iff_ne.mpr c20
         simp only [Option.some.injEq, Prod.mk.injEq] at H
         obtain ⟨rfl, rfl⟩ := H
         go_wp2
         go_ret2
         exact ⟨by first | rfl | (simp [errW_none, errW_some] <;> rfl) | (simp only [← hji9]; first | rfl | (simp [errW_none, errW_some] <;> rfl)) | (simp [*, errW_none, errW_some] <;> rfl), by repeat (first | (with_reducible first | exact HB.out | apply below_alloc | apply pw_below_drewN | apply below_drew1) | exact HB.out)⟩
    ·rw [if_neg c11] at H
     exact absurd H (by simp)
   ·rw [if_neg c10] at H
    exact absurd H (by simp)
  ·rw [if_neg c7] at H
   have c7b0 : ((Go.bits .and .u8 a0 3) == 1) = false := beq_eq_false_iff_ne.mpr c7
   have c7b1 : ((Go.bits .and .u8 a0 3) != 1) = true := bne_iff_ne.mpr c7
   by_cases c21 : (Go.bits .and .u8 a0 3) = 2
   ·rw [if_pos c21] at H
    have c21b0 : ((Go.bits .and .u8 a0 3) == 2) = true := beq_iff_eq.mpr c21
    have c21b1 : ((Go.bits .and .u8 a0 3) != 2) = false := bne_eq_false_iff_eq.mpr c21
    clear c21
    replace H := Option.bind_eq_some_iff.mp H
    obtain ⟨⟨t234, t235⟩, A220, H⟩ := H
    replace H : (if t234.toList = ([] : List UInt8) then (some ((⟨#[]⟩ : ByteArray), (-1))) else (some (t234, t235))) = some (r1, r2) := H
    have A22 := Aside0.mk A220
    clear A220
    by_cases c23 : t234.toList = ([] : List UInt8)
    ·rw [if_pos c23] at H
     have c23b0 : (t234.toList == ([] : List UInt8)) = true := beq_iff_eq.mpr c23
     have c23bE : t234.toList.isEmpty = true := List.isEmpty_iff.mpr c23
     have c23b1 : (t234.toList != ([] : List UInt8)) = false := bne_eq_false_iff_eq.mpr c23
     clear c23
     simp only [Option.some.injEq, Prod.mk.injEq] at H
     obtain ⟨rfl, rfl⟩ := H
     go_enter Tryd.func30, Tryd.ntmps30
     go_wp2_with (first | ((with_reducible refine gate_callee (f := 34) rfl ?_); refine goesL_ (some 44) rfl rfl Tryd.func34 (by kernel_rfl) rfl #[.int .i64 (wrap64 (a0 / 32)), .int .i64 (wrap64 (Go.bits .and .u8 (a0 / 4) 7))] rfl (by (try simp only [List.map_toArray, List.map_cons, List.map_nil]); first | done | rfl | (simp only [List.length_drop, List.length_take]; rfl)) ?_; (with_reducible refine (impl_sideTwo.calls k (wrap64 (a0 / 32)) (wrap64 (Go.bits .and .u8 (a0 / 4) 7)) t234 t235 _ A22.out (Giv.at_ HT (by repeat (first | (with_reducible first | exact HB.out | apply below_alloc | apply pw_below_drewN | apply below_drew1) | exact HB.out)))).mono ?_); rintro e w24 ⟨rfl, hb⟩; refine ⟨_, rfl, ?_⟩; have n0_ := Aside0.mk (below_step (by repeat (first | (with_reducible first | exact HB.out | apply below_alloc | apply pw_below_drewN | apply below_drew1) | exact HB.out)) hb); clear HB; have HB := n0_; clear n0_; (try clear hb); (try clear hb2); (try clear hk); (try clear hi)))
     go_ret2
     exact ⟨by first | rfl | (simp [errW_none, errW_some] <;> rfl) | (simp [*, errW_none, errW_some] <;> rfl), by repeat (first | (with_reducible first | exact HB.out | apply below_alloc | apply pw_below_drewN | apply below_drew1) | exact HB.out)⟩
    ·rw [if_neg c23] at H
     have c23b0 : (t234.toList == ([] : List UInt8)) = false := beq_eq_false_iff_ne.mpr c23
     have c23bE : t234.toList.isEmpty = false := List.isEmpty_eq_false_iff.mpr c23
     have c23b1 : (t234.toList != ([] : List UInt8)) = true := bne_iff_ne.mpr c23
     simp only [Option.some.injEq, Prod.mk.injEq] at H
     obtain ⟨rfl, rfl⟩ := H
     go_enter Tryd.func30, Tryd.ntmps30
     go_wp2_with (first | ((with_reducible refine gate_callee (f := 34) rfl ?_); refine goesL_ (some 44) rfl rfl Tryd.func34 (by kernel_rfl) rfl #[.int .i64 (wrap64 (a0 / 32)), .int .i64 (wrap64 (Go.bits .and .u8 (a0 / 4) 7))] rfl (by (try simp only [List.map_toArray, List.map_cons, List.map_nil]); first | done | rfl | (simp only [List.length_drop, List.length_take]; rfl)) ?_; (with_reducible refine (impl_sideTwo.calls k (wrap64 (a0 / 32)) (wrap64 (Go.bits .and .u8 (a0 / 4) 7)) t234 t235 _ A22.out (Giv.at_ HT (by repeat (first | (with_reducible first | exact HB.out | apply below_alloc | apply pw_below_drewN | apply below_drew1) | exact HB.out)))).mono ?_); rintro e w25 ⟨rfl, hb⟩; refine ⟨_, rfl, ?_⟩; have n0_ := Aside0.mk (below_step (by repeat (first | (with_reducible first | exact HB.out | apply below_alloc | apply pw_below_drewN | apply below_drew1) | exact HB.out)) hb); clear HB; have HB := n0_; clear n0_; (try clear hb); (try clear hb2); (try clear hk); (try clear hi)))
     go_ret2
     exact ⟨by first | rfl | (simp [errW_none, errW_some] <;> rfl) | (simp [*, errW_none, errW_some] <;> rfl), by repeat (first | (with_reducible first | exact HB.out | apply below_alloc | apply pw_below_drewN | apply below_drew1) | exact HB.out)⟩
   ·rw [if_neg c21] at H
    have c21b0 : ((Go.bits .and .u8 a0 3) == 2) = false := beq_eq_false_iff_ne.mpr c21
    have c21b1 : ((Go.bits .and .u8 a0 3) != 2) = true := bne_iff_ne.mpr c21
    by_cases c26 : ([] : List UInt8) = ([] : List UInt8)
    ·rw [if_pos c26] at H
     have c26b0 : (([] : List UInt8) == ([] : List UInt8)) = true := beq_iff_eq.mpr c26
     have c26b1 : (([] : List UInt8) != ([] : List UInt8)) = false := bne_eq_false_iff_eq.mpr c26
     clear c26
     simp only [Option.some.injEq, Prod.mk.injEq] at H
     obtain ⟨rfl, rfl⟩ := H
     go_enter Tryd.func30, Tryd.ntmps30
     go_wp2
     go_ret2
     exact ⟨by first | rfl | (simp [errW_none, errW_some] <;> rfl) | (simp [*, errW_none, errW_some] <;> rfl), by repeat (first | (with_reducible first | exact HB.out | apply below_alloc | apply pw_below_drewN | apply below_drew1) | exact HB.out)⟩
    ·exact absurd rfl c26
/-! ### strings_Contains: function 31 -/
def strings_Contains.f (a0 : ByteArray) (a1 : ByteArray) : Option (Bool) := Giv.contains a0 a1
theorem strings_Contains.calls (a0 : ByteArray) (a1 : ByteArray) (r : Bool) (w : World) (h : strings_Contains.f a0 a1 = some r) (HT : Aside0 (Giv.TabW w)) :
    Calls Tryd.prog 31 #[.string a0, .string a1] w fun e w' => e = .returned (.bool r) ∧ Below w.heap.size w w' :=
  Giv.contains_calls a0 a1 r w h HT

end Go.Proofs.YtmafikdeiogpgaaDoor.MD
