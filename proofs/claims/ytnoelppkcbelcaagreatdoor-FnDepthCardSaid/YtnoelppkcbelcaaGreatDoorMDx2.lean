-- Written by this session's own program (wip/myprint.py) over the kit's print of the translation. Lean checks it.
import Derived.Test.YtnoelppkcbelcaaGreatDoorMDx0
import Derived.Test.YtnoelppkcbelcaaGreatDoorMDx1
namespace Go.Proofs.YtnoelppkcbelcaaGreatDoor.MD
open Go.RowKit Go.Proofs.YtnoelppkcbelcaaGreatDoorW.PrintWords Go.Proofs.YtnoelppkcbelcaaGreatDoorW.PrintLast Go.Proofs.YtnoelppkcbelcaaGreatDoorW.PrintMore
attribute [local go_sem] max2_int min2_int max_two min_two max_three min_three max_four min_four   -- for this text's walks alone
set_option linter.unusedVariables false
set_option linter.unusedSimpArgs false

/-! ### impl_operation: function 38 -/
def impl_operation.j0 : Nat → ByteArray → Int → Bool → Option (ByteArray × Int)
 | 0, _, _, _ => none
 | k + 1, x6, x7, x38 => if x38 = true then (if ([] : List UInt8) = ([] : List UInt8) then (some ((⟨#[]⟩ : ByteArray), (-1))) else (some ((⟨#[]⟩ : ByteArray), x7))) else (if x6.toList = ([] : List UInt8) then (some ((⟨#[]⟩ : ByteArray), (-1))) else (some (x6, x7)))
def impl_operation.f (k : Nat) (a0 : Int) : Option (ByteArray × Int) := if (Go.bits .and .u8 a0 3) = 0 then ((impl_sideZero.f k (wrap64 (a0 / 32)) (wrap64 (Go.bits .and .u8 (a0 / 4) 7))).bind fun bt124 => (if bt124.1.toList = ([] : List UInt8) then (some ((⟨#[]⟩ : ByteArray), (-1))) else (some (bt124.1, bt124.2)))) else (if (Go.bits .and .u8 a0 3) = 1 then ((impl_word.f (⟨#[79, 82, 65, 32, 65, 78, 68, 32, 69, 79, 82, 32, 65, 68, 67, 32, 83, 84, 65, 32, 76, 68, 65, 32, 67, 77, 80, 32, 83, 66, 67]⟩ : ByteArray) (wrap64 (a0 / 32))).bind fun t126 => ((some (([10, 3, 2, 6, 11, 4, 8, 7] : List Int) : List Int)).bind fun y127 => (if 0 ≤ (wrap64 (Go.bits .and .u8 (a0 / 4) 7)) then (if (wrap64 (Go.bits .and .u8 (a0 / 4) 7)) < (y127.length : Int) then (if t126.toList = ([83, 84, 65] : List UInt8) then (impl_operation.j0 k t126 (rd y127 (wrap64 (Go.bits .and .u8 (a0 / 4) 7))) ((rd y127 (wrap64 (Go.bits .and .u8 (a0 / 4) 7))) == 2)) else (impl_operation.j0 k t126 (rd y127 (wrap64 (Go.bits .and .u8 (a0 / 4) 7))) false)) else (none)) else (none)))) else (if (Go.bits .and .u8 a0 3) = 2 then ((impl_sideTwo.f k (wrap64 (a0 / 32)) (wrap64 (Go.bits .and .u8 (a0 / 4) 7))).bind fun bt131 => (if bt131.1.toList = ([] : List UInt8) then (some ((⟨#[]⟩ : ByteArray), (-1))) else (some (bt131.1, bt131.2)))) else (if ([] : List UInt8) = ([] : List UInt8) then (some ((⟨#[]⟩ : ByteArray), (-1))) else (some ((⟨#[]⟩ : ByteArray), (-1))))))
theorem impl_operation.mono_l : ∀ k, (∀ y0 y1 y2, LeO (impl_operation.j0 k y0 y1 y2) (impl_operation.j0 (k + 1) y0 y1 y2))
 | 0 => fun _ _ _ r h => by simp [impl_operation.j0] at h
 | k + 1 => by
  have ih0 := impl_operation.mono_l k
  ·intro y0 y1 y2
   unfold impl_operation.j0
   repeat' first
   | (with_reducible exact ih0 _ _ _)
   | (with_reducible exact impl_sideTwo.mono _ _ _)
   | (with_reducible exact impl_sideZero.mono _ _ _)
   | (with_reducible exact LeO.refl _)
   | (with_reducible exact LeO.none _)
   | (with_reducible refine LeO.ite ?_ ?_)
   | (with_reducible refine LeO.bind ?_ (fun _ => ?_))
   | exact ih0 _ _ _
   | exact impl_sideTwo.mono _ _ _
   | exact impl_sideZero.mono _ _ _
   | exact LeO.none _
   | refine LeO.ite ?_ ?_
   | refine LeO.bind ?_ (fun _ => ?_)
theorem impl_operation.mono : ∀ a0 k, LeO (impl_operation.f k a0) (impl_operation.f (k + 1) a0) := by
 intro a0 k
 have ih0 := impl_operation.mono_l k
 unfold impl_operation.f
 repeat' first
   | (with_reducible exact ih0 _ _ _)
   | (with_reducible exact impl_sideTwo.mono _ _ _)
   | (with_reducible exact impl_sideZero.mono _ _ _)
   | (with_reducible exact LeO.refl _)
   | (with_reducible exact LeO.none _)
   | (with_reducible refine LeO.ite ?_ ?_)
   | (with_reducible refine LeO.bind ?_ (fun _ => ?_))
   | exact ih0 _ _ _
   | exact impl_sideTwo.mono _ _ _
   | exact impl_sideZero.mono _ _ _
   | exact LeO.none _
   | refine LeO.ite ?_ ?_
   | refine LeO.bind ?_ (fun _ => ?_)
set_option maxHeartbeats 8000000 in
set_option maxRecDepth 100000 in
theorem impl_operation.calls (k : Nat) (a0 : Int) (r1 : ByteArray) (r2 : Int) (w : World) (h : impl_operation.f k a0 = some (r1, r2)) (HT : Aside0 (Giv.TabW w)) :
  Calls Tryz.prog 38 #[.int .u8 a0] w fun e w' => e = .returned (.tuple #[.string r1, .int .i64 r2]) ∧ Below w.heap.size w w' := by
 have HB := Aside0.mk (Below.refl w.heap.size w)
 have H : (if (Go.bits .and .u8 a0 3) = 0 then ((impl_sideZero.f k (wrap64 (a0 / 32)) (wrap64 (Go.bits .and .u8 (a0 / 4) 7))).bind fun bt124 => (if bt124.1.toList = ([] : List UInt8) then (some ((⟨#[]⟩ : ByteArray), (-1))) else (some (bt124.1, bt124.2)))) else (if (Go.bits .and .u8 a0 3) = 1 then ((impl_word.f (⟨#[79, 82, 65, 32, 65, 78, 68, 32, 69, 79, 82, 32, 65, 68, 67, 32, 83, 84, 65, 32, 76, 68, 65, 32, 67, 77, 80, 32, 83, 66, 67]⟩ : ByteArray) (wrap64 (a0 / 32))).bind fun t126 => ((some (([10, 3, 2, 6, 11, 4, 8, 7] : List Int) : List Int)).bind fun y127 => (if 0 ≤ (wrap64 (Go.bits .and .u8 (a0 / 4) 7)) then (if (wrap64 (Go.bits .and .u8 (a0 / 4) 7)) < (y127.length : Int) then (if t126.toList = ([83, 84, 65] : List UInt8) then (impl_operation.j0 k t126 (rd y127 (wrap64 (Go.bits .and .u8 (a0 / 4) 7))) ((rd y127 (wrap64 (Go.bits .and .u8 (a0 / 4) 7))) == 2)) else (impl_operation.j0 k t126 (rd y127 (wrap64 (Go.bits .and .u8 (a0 / 4) 7))) false)) else (none)) else (none)))) else (if (Go.bits .and .u8 a0 3) = 2 then ((impl_sideTwo.f k (wrap64 (a0 / 32)) (wrap64 (Go.bits .and .u8 (a0 / 4) 7))).bind fun bt131 => (if bt131.1.toList = ([] : List UInt8) then (some ((⟨#[]⟩ : ByteArray), (-1))) else (some (bt131.1, bt131.2)))) else (if ([] : List UInt8) = ([] : List UInt8) then (some ((⟨#[]⟩ : ByteArray), (-1))) else (some ((⟨#[]⟩ : ByteArray), (-1))))))) = some (r1, r2) := h
 clear h
 by_cases c2 : (Go.bits .and .u8 a0 3) = 0
 ·rw [if_pos c2] at H
  have c2b0 : ((Go.bits .and .u8 a0 3) == 0) = true := beq_iff_eq.mpr c2
  have c2b1 : ((Go.bits .and .u8 a0 3) != 0) = false := bne_eq_false_iff_eq.mpr c2
  clear c2
  replace H := Option.bind_eq_some_iff.mp H
  obtain ⟨⟨t124, t125⟩, A30, H⟩ := H
  replace H : (if t124.toList = ([] : List UInt8) then (some ((⟨#[]⟩ : ByteArray), (-1))) else (some (t124, t125))) = some (r1, r2) := H
  have A3 := Aside0.mk A30
  clear A30
  by_cases c4 : t124.toList = ([] : List UInt8)
  ·rw [if_pos c4] at H
   have c4b0 : (t124.toList == ([] : List UInt8)) = true := beq_iff_eq.mpr c4
   have c4bE : t124.toList.isEmpty = true := List.isEmpty_iff.mpr c4
   have c4b1 : (t124.toList != ([] : List UInt8)) = false := bne_eq_false_iff_eq.mpr c4
   clear c4
   simp only [Option.some.injEq, Prod.mk.injEq] at H
   obtain ⟨rfl, rfl⟩ := H
   go_enter Tryz.func38, Tryz.ntmps38
   go_wp2_with (first | ((with_reducible refine gate_callee (f := 59) rfl ?_); refine goesL_ (some 22) rfl rfl Tryz.func59 (by kernel_rfl) rfl #[.int .i64 (wrap64 (a0 / 32)), .int .i64 (wrap64 (Go.bits .and .u8 (a0 / 4) 7))] rfl (by (try simp only [List.map_toArray, List.map_cons, List.map_nil]); first | done | rfl | (simp only [List.length_drop, List.length_take]; rfl)) ?_; (with_reducible refine (impl_sideZero.calls k (wrap64 (a0 / 32)) (wrap64 (Go.bits .and .u8 (a0 / 4) 7)) t124 t125 _ A3.out (Giv.at_ HT (by repeat (first | (with_reducible first | exact HB.out | apply below_alloc | apply pw_below_drewN | apply below_drew1) | exact HB.out)))).mono ?_); rintro e w5 ⟨rfl, hb⟩; refine ⟨_, rfl, ?_⟩; have n0_ := Aside0.mk (below_step (by repeat (first | (with_reducible first | exact HB.out | apply below_alloc | apply pw_below_drewN | apply below_drew1) | exact HB.out)) hb); clear HB; have HB := n0_; clear n0_; (try clear hb); (try clear hb2); (try clear hk); (try clear hi)))
   go_ret2
   exact ⟨by first | rfl | (simp [errW_none, errW_some] <;> rfl) | (simp [*, errW_none, errW_some] <;> rfl) | (simp [errW_none, errW_some]; cases t124.toList <;> rfl) | (simp [errW_none, errW_some]; cases t126.toList <;> rfl) | (simp [errW_none, errW_some]; cases t131.toList <;> rfl), by repeat (first | (with_reducible first | exact HB.out | apply below_alloc | apply pw_below_drewN | apply below_drew1) | exact HB.out)⟩
  ·rw [if_neg c4] at H
   have c4b0 : (t124.toList == ([] : List UInt8)) = false := beq_eq_false_iff_ne.mpr c4
   have c4bE : t124.toList.isEmpty = false := List.isEmpty_eq_false_iff.mpr c4
   have c4b1 : (t124.toList != ([] : List UInt8)) = true := bne_iff_ne.mpr c4
   simp only [Option.some.injEq, Prod.mk.injEq] at H
   obtain ⟨rfl, rfl⟩ := H
   go_enter Tryz.func38, Tryz.ntmps38
   go_wp2_with (first | ((with_reducible refine gate_callee (f := 59) rfl ?_); refine goesL_ (some 22) rfl rfl Tryz.func59 (by kernel_rfl) rfl #[.int .i64 (wrap64 (a0 / 32)), .int .i64 (wrap64 (Go.bits .and .u8 (a0 / 4) 7))] rfl (by (try simp only [List.map_toArray, List.map_cons, List.map_nil]); first | done | rfl | (simp only [List.length_drop, List.length_take]; rfl)) ?_; (with_reducible refine (impl_sideZero.calls k (wrap64 (a0 / 32)) (wrap64 (Go.bits .and .u8 (a0 / 4) 7)) t124 t125 _ A3.out (Giv.at_ HT (by repeat (first | (with_reducible first | exact HB.out | apply below_alloc | apply pw_below_drewN | apply below_drew1) | exact HB.out)))).mono ?_); rintro e w6 ⟨rfl, hb⟩; refine ⟨_, rfl, ?_⟩; have n0_ := Aside0.mk (below_step (by repeat (first | (with_reducible first | exact HB.out | apply below_alloc | apply pw_below_drewN | apply below_drew1) | exact HB.out)) hb); clear HB; have HB := n0_; clear n0_; (try clear hb); (try clear hb2); (try clear hk); (try clear hi)))
   go_ret2
   exact ⟨by first | rfl | (simp [errW_none, errW_some] <;> rfl) | (simp [*, errW_none, errW_some] <;> rfl) | (simp [errW_none, errW_some]; cases t124.toList <;> rfl) | (simp [errW_none, errW_some]; cases t126.toList <;> rfl) | (simp [errW_none, errW_some]; cases t131.toList <;> rfl), by repeat (first | (with_reducible first | exact HB.out | apply below_alloc | apply pw_below_drewN | apply below_drew1) | exact HB.out)⟩
 ·rw [if_neg c2] at H
  have c2b0 : ((Go.bits .and .u8 a0 3) == 0) = false := beq_eq_false_iff_ne.mpr c2
  have c2b1 : ((Go.bits .and .u8 a0 3) != 0) = true := bne_iff_ne.mpr c2
  by_cases c7 : (Go.bits .and .u8 a0 3) = 1
  ·rw [if_pos c7] at H
   have c7b0 : ((Go.bits .and .u8 a0 3) == 1) = true := beq_iff_eq.mpr c7
   have c7b1 : ((Go.bits .and .u8 a0 3) != 1) = false := bne_eq_false_iff_eq.mpr c7
   clear c7
   replace H := Option.bind_eq_some_iff.mp H
   obtain ⟨t126, A80, H⟩ := H
   replace H : ((some (([10, 3, 2, 6, 11, 4, 8, 7] : List Int) : List Int)).bind fun y127 => (if 0 ≤ (wrap64 (Go.bits .and .u8 (a0 / 4) 7)) then (if (wrap64 (Go.bits .and .u8 (a0 / 4) 7)) < (y127.length : Int) then (if t126.toList = ([83, 84, 65] : List UInt8) then (impl_operation.j0 k t126 (rd y127 (wrap64 (Go.bits .and .u8 (a0 / 4) 7))) ((rd y127 (wrap64 (Go.bits .and .u8 (a0 / 4) 7))) == 2)) else (impl_operation.j0 k t126 (rd y127 (wrap64 (Go.bits .and .u8 (a0 / 4) 7))) false)) else (none)) else (none))) = some (r1, r2) := H
   have A8 := Aside0.mk A80
   clear A80
   obtain ⟨y127, hy127⟩ : ∃ y_ : List Int, y_ = (([10, 3, 2, 6, 11, 4, 8, 7] : List Int)) := ⟨_, rfl⟩
   replace H : (if 0 ≤ (wrap64 (Go.bits .and .u8 (a0 / 4) 7)) then (if (wrap64 (Go.bits .and .u8 (a0 / 4) 7)) < (y127.length : Int) then (if t126.toList = ([83, 84, 65] : List UInt8) then (impl_operation.j0 k t126 (rd y127 (wrap64 (Go.bits .and .u8 (a0 / 4) 7))) ((rd y127 (wrap64 (Go.bits .and .u8 (a0 / 4) 7))) == 2)) else (impl_operation.j0 k t126 (rd y127 (wrap64 (Go.bits .and .u8 (a0 / 4) 7))) false)) else (none)) else (none)) = some (r1, r2) := by first | (rw [hy127]; with_reducible exact H) | (have H2_ := (Option.bind_some _ _).symm.trans H; rw [hy127]; with_reducible exact H2_) | (have H2_ := (Option.bind_some _ _).symm.trans H; with_reducible exact H2_) | with_reducible exact H | (rw [hy127]; exact H) | exact H
   have Ny127 := Aside0.mk hy127
   clear hy127
   obtain ⟨ji9, hji9⟩ : ∃ j_ : Int, (wrap64 (Go.bits .and .u8 (a0 / 4) 7)) = j_ := ⟨_, rfl⟩
   replace H : (if 0 ≤ (ji9) then (if (ji9) < (y127.length : Int) then (if t126.toList = ([83, 84, 65] : List UInt8) then (impl_operation.j0 k t126 (rd y127 (ji9)) ((rd y127 (ji9)) == 2)) else (impl_operation.j0 k t126 (rd y127 (ji9)) false)) else (none)) else (none)) = some (r1, r2) := by first | (rw [hji9] at H; exact H) | (simp only [hji9] at H ⊢; exact H)
   (try rw [hji9] at A8)
   have hji9w : (IntKind.i64.wrap (Go.bits .and .u8 (a0 / 4) 7)) = ji9 := (i64_w _).trans hji9
   by_cases c10 : 0 ≤ (ji9)
   ·rw [if_pos c10] at H
    have c10b0 : decide (0 ≤ (ji9)) = true := decide_eq_true c10
    clear c10
    by_cases c11 : (ji9) < (y127.length : Int)
    ·rw [if_pos c11] at H
     have c11b0 : decide ((ji9) < (y127.length : Int)) = true := decide_eq_true c11
     clear c11
     have HC12 := Aside0.mk H
     clear H
     go_enter Tryz.func38, Tryz.ntmps38
     go_upto_region 9 with (first | ((with_reducible refine gate_callee (f := 60) rfl ?_); refine goesL_ (some 28) rfl rfl Tryz.func60 (by kernel_rfl) rfl #[.string (⟨#[79, 82, 65, 32, 65, 78, 68, 32, 69, 79, 82, 32, 65, 68, 67, 32, 83, 84, 65, 32, 76, 68, 65, 32, 67, 77, 80, 32, 83, 66, 67]⟩ : ByteArray), .int .i64 (wrap64 (a0 / 32))] rfl (by (try simp only [List.map_toArray, List.map_cons, List.map_nil]); first | done | rfl | (simp only [List.length_drop, List.length_take]; rfl)) ?_; (with_reducible refine (impl_word.calls (⟨#[79, 82, 65, 32, 65, 78, 68, 32, 69, 79, 82, 32, 65, 68, 67, 32, 83, 84, 65, 32, 76, 68, 65, 32, 67, 77, 80, 32, 83, 66, 67]⟩ : ByteArray) (wrap64 (a0 / 32)) t126 _ A8.out (Giv.at_ HT (by repeat (first | (with_reducible first | exact HB.out | apply below_alloc | apply pw_below_drewN | apply below_drew1) | exact HB.out)))).mono ?_); rintro e w13 ⟨rfl, hb⟩; refine ⟨_, rfl, ?_⟩; have n0_ := Aside0.mk (below_step (by repeat (first | (with_reducible first | exact HB.out | apply below_alloc | apply pw_below_drewN | apply below_drew1) | exact HB.out)) hb); clear HB; have HB := n0_; clear n0_; (try clear hb); (try clear hb2); (try clear hk); (try clear hi)) | ((with_reducible refine gate_dst (N := 29) rfl ?_); refine Kd.R_lit (Kd.int .i64) _ 3 ?hg (N := 29) ?hd (xs := ([10, 3, 2, 6, 11, 4, 8, 7] : List Int)) (inner := [.int .i64 10, .int .i64 3, .int .i64 2, .int .i64 6, .int .i64 11, .int .i64 4, .int .i64 8, .int .i64 7]) (ok := fun _ => True) (okp := fun _ => True) ?hr ?hp (fun _ hk => hk) trivial (Below.refl _ _) (Nat.le_refl _) (by simp) ?_; (case hd => rfl); (case hg => rfl); (case hr => first | (go_simp; done) | (go_simp; rfl)); (case hp => exact (Reps.one (show Kd.M (Kd.int .i64) _ _ _ 10 [.int .i64 10] from rfl) (Reps.one (show Kd.M (Kd.int .i64) _ _ _ 3 [.int .i64 3] from rfl) (Reps.one (show Kd.M (Kd.int .i64) _ _ _ 2 [.int .i64 2] from rfl) (Reps.one (show Kd.M (Kd.int .i64) _ _ _ 6 [.int .i64 6] from rfl) (Reps.one (show Kd.M (Kd.int .i64) _ _ _ 11 [.int .i64 11] from rfl) (Reps.one (show Kd.M (Kd.int .i64) _ _ _ 4 [.int .i64 4] from rfl) (Reps.one (show Kd.M (Kd.int .i64) _ _ _ 8 [.int .i64 8] from rfl) (Reps.one (show Kd.M (Kd.int .i64) _ _ _ 7 [.int .i64 7] from rfl) (Reps.none _ _)))))))))); intro v128 w14 ho15 hb hg_ hnew_; clear hg_ hnew_; (first | rw [← Ny127.out] at ho15 | (simp only [Int.reduceToNat] at ho15; rw [← Ny127.out] at ho15)); have n0_ := Aside0.mk (Kd.R_lower ho15 (below_size (by repeat (first | (with_reducible first | exact HB.out | apply below_alloc | apply pw_below_drewN | apply below_drew1) | exact HB.out)))); have n1_ := Aside0.mk (below_step (by repeat (first | (with_reducible first | exact HB.out | apply below_alloc | apply pw_below_drewN | apply below_drew1) | exact HB.out)) hb); clear HB; have HO129 := n0_; have HB := n1_; clear n0_ n1_; clear hb ho15; obtain ⟨Ao16, co16, eo16⟩ := Kd.R_slice HO129.out; subst eo16; have p130 : 0 ≤ ((ji9) : Int) := of_decide_eq_true (by first | (with_reducible assumption) | assumption); have q130 : (ji9) < (y127.length : Int) := of_decide_eq_true (by first | (with_reducible assumption) | assumption); obtain ⟨ad130, e130, hx130_0⟩ := Kd.at_int (Kd.R_reads' HO129.out).2.2 (ji9) p130 q130; cases e130; replace p130 := eq_true p130; replace q130 := eq_true q130))
     (try simp only [Act.put, List.setIfInBounds_toArray, List.set_cons_zero, List.set_cons_succ])
     go_cut [38] (fun v38 wc => ∃ (kq : Nat) (x38_11 : Bool), v38 = .bool x38_11 ∧ Aside0 (impl_operation.j0 kq t126 (rd y127 (ji9)) x38_11 = some (r1, r2)) ∧ Aside0 (kq ≤ k) ∧ Aside0 (Below w.heap.size w wc))
     case first =>
      have H := HC12.out
      clear HC12
      by_cases c17 : t126.toList = ([83, 84, 65] : List UInt8)
      ·rw [if_pos c17] at H
       have c17b0 : (t126.toList == ([83, 84, 65] : List UInt8)) = true := beq_iff_eq.mpr c17
       have c17b1 : (t126.toList != ([83, 84, 65] : List UInt8)) = false := bne_eq_false_iff_eq.mpr c17
       clear c17
       (first | rw [c17b0] | (simp only [i64_w, i32_w]; rw [c17b0]) | skip)
       have H' := Aside0.mk H
       clear H
       go_wp2
       go_meet
       case rel => exact ⟨_, (((rd y127 (ji9)) == 2)), (by first | rfl | (simp; done) | (simp only [← hji9] <;> (first | rfl | simp)) | (simp [*]; done)), H', ⟨by first | omega | exact Nat.le_refl _⟩, ⟨by repeat (first | (with_reducible first | exact HB.out | apply below_alloc | apply pw_below_drewN | apply below_drew1) | exact HB.out)⟩⟩
      ·rw [if_neg c17] at H
       have c17b0 : (t126.toList == ([83, 84, 65] : List UInt8)) = false := beq_eq_false_iff_ne.mpr c17
       have c17b1 : (t126.toList != ([83, 84, 65] : List UInt8)) = true := bne_iff_ne.mpr c17
       (first | rw [c17b0] | (simp only [i64_w, i32_w]; rw [c17b0]) | skip)
       have H' := Aside0.mk H
       clear H
       go_wp2
       go_meet
       case rel => exact ⟨_, (false), (by first | rfl | (simp; done) | (simp [*]; done)), H', ⟨by first | omega | exact Nat.le_refl _⟩, ⟨by repeat (first | (with_reducible first | exact HB.out | apply below_alloc | apply pw_below_drewN | apply below_drew1) | exact HB.out)⟩⟩
     case rest =>
      clear HC12
      try clear c1
      try clear p1
      try clear q1
      try clear hx1
      try clear c2
      try clear c2b0
      try clear c2b1
      try clear p2
      try clear c3
      try clear c4
      try clear c4b0
      try clear c4b1
      try clear c5
      try clear c6
      try clear p6
      try clear c7
      try clear c7b0
      try clear c7b1
      try clear c10
      try clear c10b0
      try clear c11
      try clear c11b0
      try clear p13
      try clear q13
      try clear hx13
      try clear c17
      try clear c17b0
      try clear c17b1
      try clear hx130_0
      try clear p130
      try clear q130
      obtain ⟨kq, x38_11, rfl, HA, HJ11, HB⟩ := hcut
      cases kq with
      | zero => exact absurd HA.out (by simp [impl_operation.j0])
      | succ kj11 =>
       have H := HA.out
       clear HA
       simp only [impl_operation.j0] at H
       by_cases c18 : x38_11 = true
       ·subst c18
        have H1 : (if ([] : List UInt8) = ([] : List UInt8) then (some ((⟨#[]⟩ : ByteArray), (-1))) else (some ((⟨#[]⟩ : ByteArray), (rd y127 (ji9))))) = some (r1, r2) := by rw [if_pos rfl] at H; exact H
        clear H
        have H := H1
        clear H1
        by_cases c19 : ([] : List UInt8) = ([] : List UInt8)
        ·rw [if_pos c19] at H
         have c19b0 : (([] : List UInt8) == ([] : List UInt8)) = true := beq_iff_eq.mpr c19
         have c19b1 : (([] : List UInt8) != ([] : List UInt8)) = false := bne_eq_false_iff_eq.mpr c19
         clear c19
         simp only [Option.some.injEq, Prod.mk.injEq] at H
         obtain ⟨rfl, rfl⟩ := H
         go_wp2
         go_ret2
         exact ⟨by first | rfl | (simp [errW_none, errW_some] <;> rfl) | (simp only [← hji9]; first | rfl | (simp [errW_none, errW_some] <;> rfl)) | (simp [*, errW_none, errW_some] <;> rfl) | (simp [errW_none, errW_some]; cases t124.toList <;> rfl) | (simp [errW_none, errW_some]; cases t126.toList <;> rfl) | (simp [errW_none, errW_some]; cases t131.toList <;> rfl), by repeat (first | (with_reducible first | exact HB.out | apply below_alloc | apply pw_below_drewN | apply below_drew1) | exact HB.out)⟩
        ·exact absurd rfl c19
       ·replace c18 := Bool.eq_false_iff.mpr c18
        subst c18
        have H1 : (if t126.toList = ([] : List UInt8) then (some ((⟨#[]⟩ : ByteArray), (-1))) else (some (t126, (rd y127 (ji9))))) = some (r1, r2) := by rw [if_neg (show ¬ (false = true) by decide)] at H; exact H
        clear H
        have H := H1
        clear H1
        by_cases c20 : t126.toList = ([] : List UInt8)
        ·rw [if_pos c20] at H
         have c20b0 : (t126.toList == ([] : List UInt8)) = true := beq_iff_eq.mpr c20
         have c20bE : t126.toList.isEmpty = true := List.isEmpty_iff.mpr c20
         have c20b1 : (t126.toList != ([] : List UInt8)) = false := bne_eq_false_iff_eq.mpr c20
         clear c20
         simp only [Option.some.injEq, Prod.mk.injEq] at H
         obtain ⟨rfl, rfl⟩ := H
         go_wp2
         go_ret2
         exact ⟨by first | rfl | (simp [errW_none, errW_some] <;> rfl) | (simp only [← hji9]; first | rfl | (simp [errW_none, errW_some] <;> rfl)) | (simp [*, errW_none, errW_some] <;> rfl) | (simp [errW_none, errW_some]; cases t124.toList <;> rfl) | (simp [errW_none, errW_some]; cases t126.toList <;> rfl) | (simp [errW_none, errW_some]; cases t131.toList <;> rfl), by repeat (first | (with_reducible first | exact HB.out | apply below_alloc | apply pw_below_drewN | apply below_drew1) | exact HB.out)⟩
        ·rw [if_neg c20] at H
         have c20b0 : (t126.toList == ([] : List UInt8)) = false := beq_eq_false_iff_ne.mpr c20
         have c20bE : t126.toList.isEmpty = false := List.isEmpty_eq_false_iff.mpr c20
         have c20b1 : (t126.toList != ([] : List UInt8)) = true := bne_iff_ne.mpr c20
         simp only [Option.some.injEq, Prod.mk.injEq] at H
         obtain ⟨rfl, rfl⟩ := H
         go_wp2
         go_ret2
         exact ⟨by first | rfl | (simp [errW_none, errW_some] <;> rfl) | (simp only [← hji9]; first | rfl | (simp [errW_none, errW_some] <;> rfl)) | (simp [*, errW_none, errW_some] <;> rfl) | (simp [errW_none, errW_some]; cases t124.toList <;> rfl) | (simp [errW_none, errW_some]; cases t126.toList <;> rfl) | (simp [errW_none, errW_some]; cases t131.toList <;> rfl), by repeat (first | (with_reducible first | exact HB.out | apply below_alloc | apply pw_below_drewN | apply below_drew1) | exact HB.out)⟩
    ·rw [if_neg c11] at H
     exact absurd H (by simp)
   ·rw [if_neg c10] at H
    exact absurd H (by simp)
  ·rw [if_neg c7] at H
   have c7b0 : ((Go.bits .and .u8 a0 3) == 1) = false := beq_eq_false_iff_ne.mpr c7
   have c7b1 : ((Go.bits .and .u8 a0 3) != 1) = true := bne_iff_ne.mpr c7
   by_cases c21 : (Go.bits .and .u8 a0 3) = 2
   ·rw [if_pos c21] at H
    have c21b0 : ((Go.bits .and .u8 a0 3) == 2) = true := beq_iff_eq.mpr c21
    have c21b1 : ((Go.bits .and .u8 a0 3) != 2) = false := bne_eq_false_iff_eq.mpr c21
    clear c21
    replace H := Option.bind_eq_some_iff.mp H
    obtain ⟨⟨t131, t132⟩, A220, H⟩ := H
    replace H : (if t131.toList = ([] : List UInt8) then (some ((⟨#[]⟩ : ByteArray), (-1))) else (some (t131, t132))) = some (r1, r2) := H
    have A22 := Aside0.mk A220
    clear A220
    by_cases c23 : t131.toList = ([] : List UInt8)
    ·rw [if_pos c23] at H
     have c23b0 : (t131.toList == ([] : List UInt8)) = true := beq_iff_eq.mpr c23
     have c23bE : t131.toList.isEmpty = true := List.isEmpty_iff.mpr c23
     have c23b1 : (t131.toList != ([] : List UInt8)) = false := bne_eq_false_iff_eq.mpr c23
     clear c23
     simp only [Option.some.injEq, Prod.mk.injEq] at H
     obtain ⟨rfl, rfl⟩ := H
     go_enter Tryz.func38, Tryz.ntmps38
     go_wp2_with (first | ((with_reducible refine gate_callee (f := 61) rfl ?_); refine goesL_ (some 44) rfl rfl Tryz.func61 (by kernel_rfl) rfl #[.int .i64 (wrap64 (a0 / 32)), .int .i64 (wrap64 (Go.bits .and .u8 (a0 / 4) 7))] rfl (by (try simp only [List.map_toArray, List.map_cons, List.map_nil]); first | done | rfl | (simp only [List.length_drop, List.length_take]; rfl)) ?_; (with_reducible refine (impl_sideTwo.calls k (wrap64 (a0 / 32)) (wrap64 (Go.bits .and .u8 (a0 / 4) 7)) t131 t132 _ A22.out (Giv.at_ HT (by repeat (first | (with_reducible first | exact HB.out | apply below_alloc | apply pw_below_drewN | apply below_drew1) | exact HB.out)))).mono ?_); rintro e w24 ⟨rfl, hb⟩; refine ⟨_, rfl, ?_⟩; have n0_ := Aside0.mk (below_step (by repeat (first | (with_reducible first | exact HB.out | apply below_alloc | apply pw_below_drewN | apply below_drew1) | exact HB.out)) hb); clear HB; have HB := n0_; clear n0_; (try clear hb); (try clear hb2); (try clear hk); (try clear hi)))
     go_ret2
     exact ⟨by first | rfl | (simp [errW_none, errW_some] <;> rfl) | (simp [*, errW_none, errW_some] <;> rfl) | (simp [errW_none, errW_some]; cases t124.toList <;> rfl) | (simp [errW_none, errW_some]; cases t126.toList <;> rfl) | (simp [errW_none, errW_some]; cases t131.toList <;> rfl), by repeat (first | (with_reducible first | exact HB.out | apply below_alloc | apply pw_below_drewN | apply below_drew1) | exact HB.out)⟩
    ·rw [if_neg c23] at H
     have c23b0 : (t131.toList == ([] : List UInt8)) = false := beq_eq_false_iff_ne.mpr c23
     have c23bE : t131.toList.isEmpty = false := List.isEmpty_eq_false_iff.mpr c23
     have c23b1 : (t131.toList != ([] : List UInt8)) = true := bne_iff_ne.mpr c23
     simp only [Option.some.injEq, Prod.mk.injEq] at H
     obtain ⟨rfl, rfl⟩ := H
     go_enter Tryz.func38, Tryz.ntmps38
     go_wp2_with (first | ((with_reducible refine gate_callee (f := 61) rfl ?_); refine goesL_ (some 44) rfl rfl Tryz.func61 (by kernel_rfl) rfl #[.int .i64 (wrap64 (a0 / 32)), .int .i64 (wrap64 (Go.bits .and .u8 (a0 / 4) 7))] rfl (by (try simp only [List.map_toArray, List.map_cons, List.map_nil]); first | done | rfl | (simp only [List.length_drop, List.length_take]; rfl)) ?_; (with_reducible refine (impl_sideTwo.calls k (wrap64 (a0 / 32)) (wrap64 (Go.bits .and .u8 (a0 / 4) 7)) t131 t132 _ A22.out (Giv.at_ HT (by repeat (first | (with_reducible first | exact HB.out | apply below_alloc | apply pw_below_drewN | apply below_drew1) | exact HB.out)))).mono ?_); rintro e w25 ⟨rfl, hb⟩; refine ⟨_, rfl, ?_⟩; have n0_ := Aside0.mk (below_step (by repeat (first | (with_reducible first | exact HB.out | apply below_alloc | apply pw_below_drewN | apply below_drew1) | exact HB.out)) hb); clear HB; have HB := n0_; clear n0_; (try clear hb); (try clear hb2); (try clear hk); (try clear hi)))
     go_ret2
     exact ⟨by first | rfl | (simp [errW_none, errW_some] <;> rfl) | (simp [*, errW_none, errW_some] <;> rfl) | (simp [errW_none, errW_some]; cases t124.toList <;> rfl) | (simp [errW_none, errW_some]; cases t126.toList <;> rfl) | (simp [errW_none, errW_some]; cases t131.toList <;> rfl), by repeat (first | (with_reducible first | exact HB.out | apply below_alloc | apply pw_below_drewN | apply below_drew1) | exact HB.out)⟩
   ·rw [if_neg c21] at H
    have c21b0 : ((Go.bits .and .u8 a0 3) == 2) = false := beq_eq_false_iff_ne.mpr c21
    have c21b1 : ((Go.bits .and .u8 a0 3) != 2) = true := bne_iff_ne.mpr c21
    by_cases c26 : ([] : List UInt8) = ([] : List UInt8)
    ·rw [if_pos c26] at H
     have c26b0 : (([] : List UInt8) == ([] : List UInt8)) = true := beq_iff_eq.mpr c26
     have c26b1 : (([] : List UInt8) != ([] : List UInt8)) = false := bne_eq_false_iff_eq.mpr c26
     clear c26
     simp only [Option.some.injEq, Prod.mk.injEq] at H
     obtain ⟨rfl, rfl⟩ := H
     go_enter Tryz.func38, Tryz.ntmps38
     go_wp2
     go_ret2
     exact ⟨by first | rfl | (simp [errW_none, errW_some] <;> rfl) | (simp [*, errW_none, errW_some] <;> rfl) | (simp [errW_none, errW_some]; cases t124.toList <;> rfl) | (simp [errW_none, errW_some]; cases t126.toList <;> rfl) | (simp [errW_none, errW_some]; cases t131.toList <;> rfl), by repeat (first | (with_reducible first | exact HB.out | apply below_alloc | apply pw_below_drewN | apply below_drew1) | exact HB.out)⟩
    ·exact absurd rfl c26
/-! ### strings_Contains: function 39 -/
def strings_Contains.f (a0 : ByteArray) (a1 : ByteArray) : Option (Bool) := Giv.contains a0 a1
theorem strings_Contains.calls (a0 : ByteArray) (a1 : ByteArray) (r : Bool) (w : World) (h : strings_Contains.f a0 a1 = some r) (HT : Aside0 (Giv.TabW w)) :
    Calls Tryz.prog 39 #[.string a0, .string a1] w fun e w' => e = .returned (.bool r) ∧ Below w.heap.size w w' :=
  Giv.contains_calls a0 a1 r w h HT

/-! ### impl_KindOf: function 24 -/
mutual
def impl_KindOf.j0 : Nat → ByteArray → Int → ByteArray → Bool → Option (Int)
 | 0, _, _, _, _ => none
 | k + 1, x3, x4, x16, x27 => if x27 = true then (some 11) else (if x16.toList = ([80, 76, 65] : List UInt8) then (impl_KindOf.j1 k x3 x4 x16 (x16.toList == ([80, 76, 65] : List UInt8))) else (impl_KindOf.j1 k x3 x4 x16 (x16.toList == ([80, 76, 80] : List UInt8))))
def impl_KindOf.j1 : Nat → ByteArray → Int → ByteArray → Bool → Option (Int)
 | 0, _, _, _, _ => none
 | k + 1, x3, x4, x16, x30 => if x30 = true then (some 12) else (if x16.toList = ([83, 84, 65] : List UInt8) then (some 3) else (if x16.toList = ([83, 84, 88] : List UInt8) then (some 3) else (if x16.toList = ([83, 84, 89] : List UInt8) then (some 3) else (if x4 = 0 then (impl_KindOf.j2 k x3 true) else (impl_KindOf.j2 k x3 (x4 == 1))))))
def impl_KindOf.j2 : Nat → ByteArray → Bool → Option (Int)
 | 0, _, _ => none
 | k + 1, x3, x37 => if x37 = true then (some 1) else ((strings_Contains.f (⟨#[65, 83, 76, 32, 76, 83, 82, 32, 82, 79, 76, 32, 82, 79, 82, 32, 73, 78, 67, 32, 68, 69, 67]⟩ : ByteArray) x3).bind fun t135 => (if t135 = true then (some 4) else (some 2)))
end
def impl_KindOf.f (k : Nat) (a0 : Int) : Option (Int) := (impl_operation.f k a0).bind fun bt133 => (if bt133.1.toList = ([] : List UInt8) then (some 0) else (if bt133.2 = 12 then (some 5) else (if bt133.1.toList = ([74, 77, 80] : List UInt8) then (some 6) else (if bt133.1.toList = ([74, 83, 82] : List UInt8) then (some 7) else (if bt133.1.toList = ([82, 84, 83] : List UInt8) then (some 8) else (if bt133.1.toList = ([82, 84, 73] : List UInt8) then (some 9) else (if bt133.1.toList = ([66, 82, 75] : List UInt8) then (some 10) else (if bt133.1.toList = ([80, 72, 65] : List UInt8) then (impl_KindOf.j0 k bt133.1 bt133.2 bt133.1 (bt133.1.toList == ([80, 72, 65] : List UInt8))) else (impl_KindOf.j0 k bt133.1 bt133.2 bt133.1 (bt133.1.toList == ([80, 72, 80] : List UInt8)))))))))))
theorem impl_KindOf.mono_l : ∀ k, (∀ y0 y1 y2 y3, LeO (impl_KindOf.j0 k y0 y1 y2 y3) (impl_KindOf.j0 (k + 1) y0 y1 y2 y3)) ∧ (∀ y0 y1 y2 y3, LeO (impl_KindOf.j1 k y0 y1 y2 y3) (impl_KindOf.j1 (k + 1) y0 y1 y2 y3)) ∧ (∀ y0 y1, LeO (impl_KindOf.j2 k y0 y1) (impl_KindOf.j2 (k + 1) y0 y1))
 | 0 => ⟨fun _ _ _ _ r h => by simp [impl_KindOf.j0] at h, fun _ _ _ _ r h => by simp [impl_KindOf.j1] at h, fun _ _ r h => by simp [impl_KindOf.j2] at h⟩
 | k + 1 => by
  obtain ⟨ih0, ih1, ih2⟩ := impl_KindOf.mono_l k
  refine ⟨?_, ?_, ?_⟩
  ·intro y0 y1 y2 y3
   unfold impl_KindOf.j0
   repeat' first
   | (with_reducible exact ih0 _ _ _ _)
   | (with_reducible exact ih1 _ _ _ _)
   | (with_reducible exact ih2 _ _)
   | (with_reducible exact impl_operation.mono _ _)
   | (with_reducible exact LeO.refl _)
   | (with_reducible exact LeO.none _)
   | (with_reducible refine LeO.ite ?_ ?_)
   | (with_reducible refine LeO.bind ?_ (fun _ => ?_))
   | exact ih0 _ _ _ _
   | exact ih1 _ _ _ _
   | exact ih2 _ _
   | exact impl_operation.mono _ _
   | exact LeO.none _
   | refine LeO.ite ?_ ?_
   | refine LeO.bind ?_ (fun _ => ?_)
  ·intro y0 y1 y2 y3
   unfold impl_KindOf.j1
   repeat' first
   | (with_reducible exact ih0 _ _ _ _)
   | (with_reducible exact ih1 _ _ _ _)
   | (with_reducible exact ih2 _ _)
   | (with_reducible exact impl_operation.mono _ _)
   | (with_reducible exact LeO.refl _)
   | (with_reducible exact LeO.none _)
   | (with_reducible refine LeO.ite ?_ ?_)
   | (with_reducible refine LeO.bind ?_ (fun _ => ?_))
   | exact ih0 _ _ _ _
   | exact ih1 _ _ _ _
   | exact ih2 _ _
   | exact impl_operation.mono _ _
   | exact LeO.none _
   | refine LeO.ite ?_ ?_
   | refine LeO.bind ?_ (fun _ => ?_)
  ·intro y0 y1
   unfold impl_KindOf.j2
   repeat' first
   | (with_reducible exact ih0 _ _ _ _)
   | (with_reducible exact ih1 _ _ _ _)
   | (with_reducible exact ih2 _ _)
   | (with_reducible exact impl_operation.mono _ _)
   | (with_reducible exact LeO.refl _)
   | (with_reducible exact LeO.none _)
   | (with_reducible refine LeO.ite ?_ ?_)
   | (with_reducible refine LeO.bind ?_ (fun _ => ?_))
   | exact ih0 _ _ _ _
   | exact ih1 _ _ _ _
   | exact ih2 _ _
   | exact impl_operation.mono _ _
   | exact LeO.none _
   | refine LeO.ite ?_ ?_
   | refine LeO.bind ?_ (fun _ => ?_)
theorem impl_KindOf.mono : ∀ a0 k, LeO (impl_KindOf.f k a0) (impl_KindOf.f (k + 1) a0) := by
 intro a0 k
 obtain ⟨ih0, ih1, ih2⟩ := impl_KindOf.mono_l k
 unfold impl_KindOf.f
 repeat' first
   | (with_reducible exact ih0 _ _ _ _)
   | (with_reducible exact ih1 _ _ _ _)
   | (with_reducible exact ih2 _ _)
   | (with_reducible exact impl_operation.mono _ _)
   | (with_reducible exact LeO.refl _)
   | (with_reducible exact LeO.none _)
   | (with_reducible refine LeO.ite ?_ ?_)
   | (with_reducible refine LeO.bind ?_ (fun _ => ?_))
   | exact ih0 _ _ _ _
   | exact ih1 _ _ _ _
   | exact ih2 _ _
   | exact impl_operation.mono _ _
   | exact LeO.none _
   | refine LeO.ite ?_ ?_
   | refine LeO.bind ?_ (fun _ => ?_)
set_option maxHeartbeats 8000000 in
set_option maxRecDepth 100000 in
theorem impl_KindOf.calls (k : Nat) (a0 : Int) (r : Int) (w : World) (h : impl_KindOf.f k a0 = some r) (HT : Aside0 (Giv.TabW w)) :
  Calls Tryz.prog 24 #[.int .u8 a0] w fun e w' => e = .returned (.int .i64 r) ∧ Below w.heap.size w w' := by
 have HB := Aside0.mk (Below.refl w.heap.size w)
 have H : ((impl_operation.f k a0).bind fun bt133 => (if bt133.1.toList = ([] : List UInt8) then (some 0) else (if bt133.2 = 12 then (some 5) else (if bt133.1.toList = ([74, 77, 80] : List UInt8) then (some 6) else (if bt133.1.toList = ([74, 83, 82] : List UInt8) then (some 7) else (if bt133.1.toList = ([82, 84, 83] : List UInt8) then (some 8) else (if bt133.1.toList = ([82, 84, 73] : List UInt8) then (some 9) else (if bt133.1.toList = ([66, 82, 75] : List UInt8) then (some 10) else (if bt133.1.toList = ([80, 72, 65] : List UInt8) then (impl_KindOf.j0 k bt133.1 bt133.2 bt133.1 (bt133.1.toList == ([80, 72, 65] : List UInt8))) else (impl_KindOf.j0 k bt133.1 bt133.2 bt133.1 (bt133.1.toList == ([80, 72, 80] : List UInt8)))))))))))) = some r := h
 clear h
 replace H := Option.bind_eq_some_iff.mp H
 obtain ⟨⟨t133, t134⟩, A20, H⟩ := H
 replace H : (if t133.toList = ([] : List UInt8) then (some 0) else (if t134 = 12 then (some 5) else (if t133.toList = ([74, 77, 80] : List UInt8) then (some 6) else (if t133.toList = ([74, 83, 82] : List UInt8) then (some 7) else (if t133.toList = ([82, 84, 83] : List UInt8) then (some 8) else (if t133.toList = ([82, 84, 73] : List UInt8) then (some 9) else (if t133.toList = ([66, 82, 75] : List UInt8) then (some 10) else (if t133.toList = ([80, 72, 65] : List UInt8) then (impl_KindOf.j0 k t133 t134 t133 (t133.toList == ([80, 72, 65] : List UInt8))) else (impl_KindOf.j0 k t133 t134 t133 (t133.toList == ([80, 72, 80] : List UInt8))))))))))) = some r := H
 have A2 := Aside0.mk A20
 clear A20
 by_cases c3 : t133.toList = ([] : List UInt8)
 ·rw [if_pos c3] at H
  have c3b0 : (t133.toList == ([] : List UInt8)) = true := beq_iff_eq.mpr c3
  have c3bE : t133.toList.isEmpty = true := List.isEmpty_iff.mpr c3
  have c3b1 : (t133.toList != ([] : List UInt8)) = false := bne_eq_false_iff_eq.mpr c3
  clear c3
  obtain rfl := Option.some.inj H
  go_enter Tryz.func24, Tryz.ntmps24
  go_wp2_with (first | ((with_reducible refine gate_callee (f := 38) rfl ?_); refine goesL_ (some 7) rfl rfl Tryz.func38 (by kernel_rfl) rfl #[.int .u8 a0] rfl (by (try simp only [List.map_toArray, List.map_cons, List.map_nil]); first | done | rfl | (simp only [List.length_drop, List.length_take]; rfl)) ?_; (with_reducible refine (impl_operation.calls k a0 t133 t134 _ A2.out (Giv.at_ HT (by repeat (first | (with_reducible first | exact HB.out | apply below_alloc | apply pw_below_drewN | apply below_drew1) | exact HB.out)))).mono ?_); rintro e w4 ⟨rfl, hb⟩; refine ⟨_, rfl, ?_⟩; have n0_ := Aside0.mk (below_step (by repeat (first | (with_reducible first | exact HB.out | apply below_alloc | apply pw_below_drewN | apply below_drew1) | exact HB.out)) hb); clear HB; have HB := n0_; clear n0_; (try clear hb); (try clear hb2); (try clear hk); (try clear hi)))
  go_ret
  exact ⟨by first | rfl | (simp [errW_none, errW_some] <;> rfl) | (simp [*, errW_none, errW_some] <;> rfl) | (simp [errW_none, errW_some]; cases t133.toList <;> rfl), by repeat (first | (with_reducible first | exact HB.out | apply below_alloc | apply pw_below_drewN | apply below_drew1) | exact HB.out)⟩
 ·rw [if_neg c3] at H
  have c3b0 : (t133.toList == ([] : List UInt8)) = false := beq_eq_false_iff_ne.mpr c3
  have c3bE : t133.toList.isEmpty = false := List.isEmpty_eq_false_iff.mpr c3
  have c3b1 : (t133.toList != ([] : List UInt8)) = true := bne_iff_ne.mpr c3
  by_cases c5 : t134 = 12
  ·rw [if_pos c5] at H
   have c5b0 : (t134 == 12) = true := beq_iff_eq.mpr c5
   have c5b1 : (t134 != 12) = false := bne_eq_false_iff_eq.mpr c5
   clear c5
   obtain rfl := Option.some.inj H
   go_enter Tryz.func24, Tryz.ntmps24
   go_wp2_with (first | ((with_reducible refine gate_callee (f := 38) rfl ?_); refine goesL_ (some 7) rfl rfl Tryz.func38 (by kernel_rfl) rfl #[.int .u8 a0] rfl (by (try simp only [List.map_toArray, List.map_cons, List.map_nil]); first | done | rfl | (simp only [List.length_drop, List.length_take]; rfl)) ?_; (with_reducible refine (impl_operation.calls k a0 t133 t134 _ A2.out (Giv.at_ HT (by repeat (first | (with_reducible first | exact HB.out | apply below_alloc | apply pw_below_drewN | apply below_drew1) | exact HB.out)))).mono ?_); rintro e w6 ⟨rfl, hb⟩; refine ⟨_, rfl, ?_⟩; have n0_ := Aside0.mk (below_step (by repeat (first | (with_reducible first | exact HB.out | apply below_alloc | apply pw_below_drewN | apply below_drew1) | exact HB.out)) hb); clear HB; have HB := n0_; clear n0_; (try clear hb); (try clear hb2); (try clear hk); (try clear hi)))
   go_ret
   exact ⟨by first | rfl | (simp [errW_none, errW_some] <;> rfl) | (simp [*, errW_none, errW_some] <;> rfl) | (simp [errW_none, errW_some]; cases t133.toList <;> rfl), by repeat (first | (with_reducible first | exact HB.out | apply below_alloc | apply pw_below_drewN | apply below_drew1) | exact HB.out)⟩
  ·rw [if_neg c5] at H
   have c5b0 : (t134 == 12) = false := beq_eq_false_iff_ne.mpr c5
   have c5b1 : (t134 != 12) = true := bne_iff_ne.mpr c5
   by_cases c7 : t133.toList = ([74, 77, 80] : List UInt8)
   ·rw [if_pos c7] at H
    have c7b0 : (t133.toList == ([74, 77, 80] : List UInt8)) = true := beq_iff_eq.mpr c7
    have c7b1 : (t133.toList != ([74, 77, 80] : List UInt8)) = false := bne_eq_false_iff_eq.mpr c7
    clear c7
    obtain rfl := Option.some.inj H
    go_enter Tryz.func24, Tryz.ntmps24
    go_wp2_with (first | ((with_reducible refine gate_callee (f := 38) rfl ?_); refine goesL_ (some 7) rfl rfl Tryz.func38 (by kernel_rfl) rfl #[.int .u8 a0] rfl (by (try simp only [List.map_toArray, List.map_cons, List.map_nil]); first | done | rfl | (simp only [List.length_drop, List.length_take]; rfl)) ?_; (with_reducible refine (impl_operation.calls k a0 t133 t134 _ A2.out (Giv.at_ HT (by repeat (first | (with_reducible first | exact HB.out | apply below_alloc | apply pw_below_drewN | apply below_drew1) | exact HB.out)))).mono ?_); rintro e w8 ⟨rfl, hb⟩; refine ⟨_, rfl, ?_⟩; have n0_ := Aside0.mk (below_step (by repeat (first | (with_reducible first | exact HB.out | apply below_alloc | apply pw_below_drewN | apply below_drew1) | exact HB.out)) hb); clear HB; have HB := n0_; clear n0_; (try clear hb); (try clear hb2); (try clear hk); (try clear hi)))
    go_ret
    exact ⟨by first | rfl | (simp [errW_none, errW_some] <;> rfl) | (simp [*, errW_none, errW_some] <;> rfl) | (simp [errW_none, errW_some]; cases t133.toList <;> rfl), by repeat (first | (with_reducible first | exact HB.out | apply below_alloc | apply pw_below_drewN | apply below_drew1) | exact HB.out)⟩
   ·rw [if_neg c7] at H
    have c7b0 : (t133.toList == ([74, 77, 80] : List UInt8)) = false := beq_eq_false_iff_ne.mpr c7
    have c7b1 : (t133.toList != ([74, 77, 80] : List UInt8)) = true := bne_iff_ne.mpr c7
    by_cases c9 : t133.toList = ([74, 83, 82] : List UInt8)
    ·rw [if_pos c9] at H
     have c9b0 : (t133.toList == ([74, 83, 82] : List UInt8)) = true := beq_iff_eq.mpr c9
     have c9b1 : (t133.toList != ([74, 83, 82] : List UInt8)) = false := bne_eq_false_iff_eq.mpr c9
     clear c9
     obtain rfl := Option.some.inj H
     go_enter Tryz.func24, Tryz.ntmps24
     go_wp2_with (first | ((with_reducible refine gate_callee (f := 38) rfl ?_); refine goesL_ (some 7) rfl rfl Tryz.func38 (by kernel_rfl) rfl #[.int .u8 a0] rfl (by (try simp only [List.map_toArray, List.map_cons, List.map_nil]); first | done | rfl | (simp only [List.length_drop, List.length_take]; rfl)) ?_; (with_reducible refine (impl_operation.calls k a0 t133 t134 _ A2.out (Giv.at_ HT (by repeat (first | (with_reducible first | exact HB.out | apply below_alloc | apply pw_below_drewN | apply below_drew1) | exact HB.out)))).mono ?_); rintro e w10 ⟨rfl, hb⟩; refine ⟨_, rfl, ?_⟩; have n0_ := Aside0.mk (below_step (by repeat (first | (with_reducible first | exact HB.out | apply below_alloc | apply pw_below_drewN | apply below_drew1) | exact HB.out)) hb); clear HB; have HB := n0_; clear n0_; (try clear hb); (try clear hb2); (try clear hk); (try clear hi)))
     go_ret
     exact ⟨by first | rfl | (simp [errW_none, errW_some] <;> rfl) | (simp [*, errW_none, errW_some] <;> rfl) | (simp [errW_none, errW_some]; cases t133.toList <;> rfl), by repeat (first | (with_reducible first | exact HB.out | apply below_alloc | apply pw_below_drewN | apply below_drew1) | exact HB.out)⟩
    ·rw [if_neg c9] at H
     have c9b0 : (t133.toList == ([74, 83, 82] : List UInt8)) = false := beq_eq_false_iff_ne.mpr c9
     have c9b1 : (t133.toList != ([74, 83, 82] : List UInt8)) = true := bne_iff_ne.mpr c9
     by_cases c11 : t133.toList = ([82, 84, 83] : List UInt8)
     ·rw [if_pos c11] at H
      have c11b0 : (t133.toList == ([82, 84, 83] : List UInt8)) = true := beq_iff_eq.mpr c11
      have c11b1 : (t133.toList != ([82, 84, 83] : List UInt8)) = false := bne_eq_false_iff_eq.mpr c11
      clear c11
      obtain rfl := Option.some.inj H
      go_enter Tryz.func24, Tryz.ntmps24
      go_wp2_with (first | ((with_reducible refine gate_callee (f := 38) rfl ?_); refine goesL_ (some 7) rfl rfl Tryz.func38 (by kernel_rfl) rfl #[.int .u8 a0] rfl (by (try simp only [List.map_toArray, List.map_cons, List.map_nil]); first | done | rfl | (simp only [List.length_drop, List.length_take]; rfl)) ?_; (with_reducible refine (impl_operation.calls k a0 t133 t134 _ A2.out (Giv.at_ HT (by repeat (first | (with_reducible first | exact HB.out | apply below_alloc | apply pw_below_drewN | apply below_drew1) | exact HB.out)))).mono ?_); rintro e w12 ⟨rfl, hb⟩; refine ⟨_, rfl, ?_⟩; have n0_ := Aside0.mk (below_step (by repeat (first | (with_reducible first | exact HB.out | apply below_alloc | apply pw_below_drewN | apply below_drew1) | exact HB.out)) hb); clear HB; have HB := n0_; clear n0_; (try clear hb); (try clear hb2); (try clear hk); (try clear hi)))
      go_ret
      exact ⟨by first | rfl | (simp [errW_none, errW_some] <;> rfl) | (simp [*, errW_none, errW_some] <;> rfl) | (simp [errW_none, errW_some]; cases t133.toList <;> rfl), by repeat (first | (with_reducible first | exact HB.out | apply below_alloc | apply pw_below_drewN | apply below_drew1) | exact HB.out)⟩
     ·rw [if_neg c11] at H
      have c11b0 : (t133.toList == ([82, 84, 83] : List UInt8)) = false := beq_eq_false_iff_ne.mpr c11
      have c11b1 : (t133.toList != ([82, 84, 83] : List UInt8)) = true := bne_iff_ne.mpr c11
      by_cases c13 : t133.toList = ([82, 84, 73] : List UInt8)
      ·rw [if_pos c13] at H
       have c13b0 : (t133.toList == ([82, 84, 73] : List UInt8)) = true := beq_iff_eq.mpr c13
       have c13b1 : (t133.toList != ([82, 84, 73] : List UInt8)) = false := bne_eq_false_iff_eq.mpr c13
       clear c13
       obtain rfl := Option.some.inj H
       go_enter Tryz.func24, Tryz.ntmps24
       go_wp2_with (first | ((with_reducible refine gate_callee (f := 38) rfl ?_); refine goesL_ (some 7) rfl rfl Tryz.func38 (by kernel_rfl) rfl #[.int .u8 a0] rfl (by (try simp only [List.map_toArray, List.map_cons, List.map_nil]); first | done | rfl | (simp only [List.length_drop, List.length_take]; rfl)) ?_; (with_reducible refine (impl_operation.calls k a0 t133 t134 _ A2.out (Giv.at_ HT (by repeat (first | (with_reducible first | exact HB.out | apply below_alloc | apply pw_below_drewN | apply below_drew1) | exact HB.out)))).mono ?_); rintro e w14 ⟨rfl, hb⟩; refine ⟨_, rfl, ?_⟩; have n0_ := Aside0.mk (below_step (by repeat (first | (with_reducible first | exact HB.out | apply below_alloc | apply pw_below_drewN | apply below_drew1) | exact HB.out)) hb); clear HB; have HB := n0_; clear n0_; (try clear hb); (try clear hb2); (try clear hk); (try clear hi)))
       go_ret
       exact ⟨by first | rfl | (simp [errW_none, errW_some] <;> rfl) | (simp [*, errW_none, errW_some] <;> rfl) | (simp [errW_none, errW_some]; cases t133.toList <;> rfl), by repeat (first | (with_reducible first | exact HB.out | apply below_alloc | apply pw_below_drewN | apply below_drew1) | exact HB.out)⟩
      ·rw [if_neg c13] at H
       have c13b0 : (t133.toList == ([82, 84, 73] : List UInt8)) = false := beq_eq_false_iff_ne.mpr c13
       have c13b1 : (t133.toList != ([82, 84, 73] : List UInt8)) = true := bne_iff_ne.mpr c13
       by_cases c15 : t133.toList = ([66, 82, 75] : List UInt8)
       ·rw [if_pos c15] at H
        have c15b0 : (t133.toList == ([66, 82, 75] : List UInt8)) = true := beq_iff_eq.mpr c15
        have c15b1 : (t133.toList != ([66, 82, 75] : List UInt8)) = false := bne_eq_false_iff_eq.mpr c15
        clear c15
        obtain rfl := Option.some.inj H
        go_enter Tryz.func24, Tryz.ntmps24
        go_wp2_with (first | ((with_reducible refine gate_callee (f := 38) rfl ?_); refine goesL_ (some 7) rfl rfl Tryz.func38 (by kernel_rfl) rfl #[.int .u8 a0] rfl (by (try simp only [List.map_toArray, List.map_cons, List.map_nil]); first | done | rfl | (simp only [List.length_drop, List.length_take]; rfl)) ?_; (with_reducible refine (impl_operation.calls k a0 t133 t134 _ A2.out (Giv.at_ HT (by repeat (first | (with_reducible first | exact HB.out | apply below_alloc | apply pw_below_drewN | apply below_drew1) | exact HB.out)))).mono ?_); rintro e w16 ⟨rfl, hb⟩; refine ⟨_, rfl, ?_⟩; have n0_ := Aside0.mk (below_step (by repeat (first | (with_reducible first | exact HB.out | apply below_alloc | apply pw_below_drewN | apply below_drew1) | exact HB.out)) hb); clear HB; have HB := n0_; clear n0_; (try clear hb); (try clear hb2); (try clear hk); (try clear hi)))
        go_ret
        exact ⟨by first | rfl | (simp [errW_none, errW_some] <;> rfl) | (simp [*, errW_none, errW_some] <;> rfl) | (simp [errW_none, errW_some]; cases t133.toList <;> rfl), by repeat (first | (with_reducible first | exact HB.out | apply below_alloc | apply pw_below_drewN | apply below_drew1) | exact HB.out)⟩
       ·rw [if_neg c15] at H
        have c15b0 : (t133.toList == ([66, 82, 75] : List UInt8)) = false := beq_eq_false_iff_ne.mpr c15
        have c15b1 : (t133.toList != ([66, 82, 75] : List UInt8)) = true := bne_iff_ne.mpr c15
        have HC17 := Aside0.mk H
        clear H
        go_enter Tryz.func24, Tryz.ntmps24
        go_upto_if 27 with (first | ((with_reducible refine gate_callee (f := 38) rfl ?_); refine goesL_ (some 7) rfl rfl Tryz.func38 (by kernel_rfl) rfl #[.int .u8 a0] rfl (by (try simp only [List.map_toArray, List.map_cons, List.map_nil]); first | done | rfl | (simp only [List.length_drop, List.length_take]; rfl)) ?_; (with_reducible refine (impl_operation.calls k a0 t133 t134 _ A2.out (Giv.at_ HT (by repeat (first | (with_reducible first | exact HB.out | apply below_alloc | apply pw_below_drewN | apply below_drew1) | exact HB.out)))).mono ?_); rintro e w18 ⟨rfl, hb⟩; refine ⟨_, rfl, ?_⟩; have n0_ := Aside0.mk (below_step (by repeat (first | (with_reducible first | exact HB.out | apply below_alloc | apply pw_below_drewN | apply below_drew1) | exact HB.out)) hb); clear HB; have HB := n0_; clear n0_; (try clear hb); (try clear hb2); (try clear hk); (try clear hi)))
        (try simp only [Act.put, List.setIfInBounds_toArray, List.set_cons_zero, List.set_cons_succ])
        go_cut [27] (fun v27 wc => ∃ (kq : Nat) (x27_16 : Bool), v27 = .bool x27_16 ∧ Aside0 (impl_KindOf.j0 kq t133 t134 t133 x27_16 = some r) ∧ Aside0 (kq ≤ k) ∧ Aside0 (Below w.heap.size w wc))
        case first =>
         have H := HC17.out
         clear HC17
         by_cases c19 : t133.toList = ([80, 72, 65] : List UInt8)
         ·rw [if_pos c19] at H
          have c19b0 : (t133.toList == ([80, 72, 65] : List UInt8)) = true := beq_iff_eq.mpr c19
          have c19b1 : (t133.toList != ([80, 72, 65] : List UInt8)) = false := bne_eq_false_iff_eq.mpr c19
          clear c19
          (first | rw [c19b0] | (simp only [i64_w, i32_w]; rw [c19b0]) | skip)
          have H' := Aside0.mk H
          clear H
          go_wp2
          go_meet
          case rel => exact ⟨_, ((t133.toList == ([80, 72, 65] : List UInt8))), (by first | rfl | (simp; done) | (simp [*]; done)), H', ⟨by first | omega | exact Nat.le_refl _⟩, ⟨by repeat (first | (with_reducible first | exact HB.out | apply below_alloc | apply pw_below_drewN | apply below_drew1) | exact HB.out)⟩⟩
         ·rw [if_neg c19] at H
          have c19b0 : (t133.toList == ([80, 72, 65] : List UInt8)) = false := beq_eq_false_iff_ne.mpr c19
          have c19b1 : (t133.toList != ([80, 72, 65] : List UInt8)) = true := bne_iff_ne.mpr c19
          (first | rw [c19b0] | (simp only [i64_w, i32_w]; rw [c19b0]) | skip)
          have H' := Aside0.mk H
          clear H
          go_wp2
          go_meet
          case rel => exact ⟨_, ((t133.toList == ([80, 72, 80] : List UInt8))), (by first | rfl | (simp; done) | (simp [*]; done)), H', ⟨by first | omega | exact Nat.le_refl _⟩, ⟨by repeat (first | (with_reducible first | exact HB.out | apply below_alloc | apply pw_below_drewN | apply below_drew1) | exact HB.out)⟩⟩
        case rest =>
         clear HC17
         try clear c1
         try clear c2
         try clear p2
         try clear c3
         try clear c3b0
         try clear c3b1
         try clear c5
         try clear c5b0
         try clear c5b1
         try clear c7
         try clear c7b0
         try clear c7b1
         try clear c9
         try clear c9b0
         try clear c9b1
         try clear c11
         try clear c11b0
         try clear c11b1
         try clear c13
         try clear c13b0
         try clear c13b1
         try clear c15
         try clear c15b0
         try clear c15b1
         try clear c19
         try clear c19b0
         try clear c19b1
         obtain ⟨kq, x27_16, rfl, HA, HJ16, HB⟩ := hcut
         cases kq with
         | zero => exact absurd HA.out (by simp [impl_KindOf.j0])
         | succ kj16 =>
          have H := HA.out
          clear HA
          simp only [impl_KindOf.j0] at H
          by_cases c20 : x27_16 = true
          ·subst c20
           have H1 : (some 11) = some r := by rw [if_pos rfl] at H; exact H
           clear H
           have H := H1
           clear H1
           obtain rfl := Option.some.inj H
           go_wp2
           go_ret
           exact ⟨by first | rfl | (simp [errW_none, errW_some] <;> rfl) | (simp [*, errW_none, errW_some] <;> rfl) | (simp [errW_none, errW_some]; cases t133.toList <;> rfl), by repeat (first | (with_reducible first | exact HB.out | apply below_alloc | apply pw_below_drewN | apply below_drew1) | exact HB.out)⟩
          ·replace c20 := Bool.eq_false_iff.mpr c20
           subst c20
           have H1 : (if t133.toList = ([80, 76, 65] : List UInt8) then (impl_KindOf.j1 kj16 t133 t134 t133 (t133.toList == ([80, 76, 65] : List UInt8))) else (impl_KindOf.j1 kj16 t133 t134 t133 (t133.toList == ([80, 76, 80] : List UInt8)))) = some r := by rw [if_neg (show ¬ (false = true) by decide)] at H; exact H
           clear H
           have H := H1
           clear H1
           have HC21 := Aside0.mk H
           clear H
           go_upto_if 30 with (fail)
           go_cut [30] (fun v30 wc => ∃ (kq : Nat) (x30_20 : Bool), v30 = .bool x30_20 ∧ Aside0 (impl_KindOf.j1 kq t133 t134 t133 x30_20 = some r) ∧ Aside0 (kq ≤ kj16) ∧ Aside0 (Below w.heap.size w wc))
           case first =>
            have H := HC21.out
            clear HC21
            by_cases c22 : t133.toList = ([80, 76, 65] : List UInt8)
            ·rw [if_pos c22] at H
             have c22b0 : (t133.toList == ([80, 76, 65] : List UInt8)) = true := beq_iff_eq.mpr c22
             have c22b1 : (t133.toList != ([80, 76, 65] : List UInt8)) = false := bne_eq_false_iff_eq.mpr c22
             clear c22
             (first | rw [c22b0] | (simp only [i64_w, i32_w]; rw [c22b0]) | skip)
             have H' := Aside0.mk H
             clear H
             go_wp2
             go_meet
             case rel => exact ⟨_, ((t133.toList == ([80, 76, 65] : List UInt8))), (by first | rfl | (simp; done) | (simp [*]; done)), H', ⟨by have := HJ16.out; first | omega | exact Nat.le_refl _⟩, ⟨by repeat (first | (with_reducible first | exact HB.out | apply below_alloc | apply pw_below_drewN | apply below_drew1) | exact HB.out)⟩⟩
            ·rw [if_neg c22] at H
             have c22b0 : (t133.toList == ([80, 76, 65] : List UInt8)) = false := beq_eq_false_iff_ne.mpr c22
             have c22b1 : (t133.toList != ([80, 76, 65] : List UInt8)) = true := bne_iff_ne.mpr c22
             (first | rw [c22b0] | (simp only [i64_w, i32_w]; rw [c22b0]) | skip)
             have H' := Aside0.mk H
             clear H
             go_wp2
             go_meet
             case rel => exact ⟨_, ((t133.toList == ([80, 76, 80] : List UInt8))), (by first | rfl | (simp; done) | (simp [*]; done)), H', ⟨by have := HJ16.out; first | omega | exact Nat.le_refl _⟩, ⟨by repeat (first | (with_reducible first | exact HB.out | apply below_alloc | apply pw_below_drewN | apply below_drew1) | exact HB.out)⟩⟩
           case rest =>
            clear HC21
            try clear c1
            try clear c2
            try clear p2
            try clear c3
            try clear c3b0
            try clear c3b1
            try clear c5
            try clear c5b0
            try clear c5b1
            try clear c7
            try clear c7b0
            try clear c7b1
            try clear c9
            try clear c9b0
            try clear c9b1
            try clear c11
            try clear c11b0
            try clear c11b1
            try clear c13
            try clear c13b0
            try clear c13b1
            try clear c15
            try clear c15b0
            try clear c15b1
            try clear c19
            try clear c19b0
            try clear c19b1
            try clear c20
            try clear c22
            try clear c22b0
            try clear c22b1
            try clear p2
            obtain ⟨kq, x30_20, rfl, HA, HJ20, HB⟩ := hcut
            cases kq with
            | zero => exact absurd HA.out (by simp [impl_KindOf.j1])
            | succ kj20 =>
             have H := HA.out
             clear HA
             simp only [impl_KindOf.j1] at H
             by_cases c23 : x30_20 = true
             ·subst c23
              have H1 : (some 12) = some r := by rw [if_pos rfl] at H; exact H
              clear H
              have H := H1
              clear H1
              obtain rfl := Option.some.inj H
              go_wp2
              go_ret
              exact ⟨by first | rfl | (simp [errW_none, errW_some] <;> rfl) | (simp [*, errW_none, errW_some] <;> rfl) | (simp [errW_none, errW_some]; cases t133.toList <;> rfl), by repeat (first | (with_reducible first | exact HB.out | apply below_alloc | apply pw_below_drewN | apply below_drew1) | exact HB.out)⟩
             ·replace c23 := Bool.eq_false_iff.mpr c23
              subst c23
              have H1 : (if t133.toList = ([83, 84, 65] : List UInt8) then (some 3) else (if t133.toList = ([83, 84, 88] : List UInt8) then (some 3) else (if t133.toList = ([83, 84, 89] : List UInt8) then (some 3) else (if t134 = 0 then (impl_KindOf.j2 kj20 t133 true) else (impl_KindOf.j2 kj20 t133 (t134 == 1)))))) = some r := by rw [if_neg (show ¬ (false = true) by decide)] at H; exact H
              clear H
              have H := H1
              clear H1
              by_cases c24 : t133.toList = ([83, 84, 65] : List UInt8)
              ·rw [if_pos c24] at H
               have c24b0 : (t133.toList == ([83, 84, 65] : List UInt8)) = true := beq_iff_eq.mpr c24
               have c24b1 : (t133.toList != ([83, 84, 65] : List UInt8)) = false := bne_eq_false_iff_eq.mpr c24
               clear c24
               obtain rfl := Option.some.inj H
               go_wp2
               go_ret
               exact ⟨by first | rfl | (simp [errW_none, errW_some] <;> rfl) | (simp [*, errW_none, errW_some] <;> rfl) | (simp [errW_none, errW_some]; cases t133.toList <;> rfl), by repeat (first | (with_reducible first | exact HB.out | apply below_alloc | apply pw_below_drewN | apply below_drew1) | exact HB.out)⟩
              ·rw [if_neg c24] at H
               have c24b0 : (t133.toList == ([83, 84, 65] : List UInt8)) = false := beq_eq_false_iff_ne.mpr c24
               have c24b1 : (t133.toList != ([83, 84, 65] : List UInt8)) = true := bne_iff_ne.mpr c24
               by_cases c25 : t133.toList = ([83, 84, 88] : List UInt8)
               ·rw [if_pos c25] at H
                have c25b0 : (t133.toList == ([83, 84, 88] : List UInt8)) = true := beq_iff_eq.mpr c25
                have c25b1 : (t133.toList != ([83, 84, 88] : List UInt8)) = false := bne_eq_false_iff_eq.mpr c25
                clear c25
                obtain rfl := Option.some.inj H
                go_wp2
                go_ret
                exact ⟨by first | rfl | (simp [errW_none, errW_some] <;> rfl) | (simp [*, errW_none, errW_some] <;> rfl) | (simp [errW_none, errW_some]; cases t133.toList <;> rfl), by repeat (first | (with_reducible first | exact HB.out | apply below_alloc | apply pw_below_drewN | apply below_drew1) | exact HB.out)⟩
               ·rw [if_neg c25] at H
                have c25b0 : (t133.toList == ([83, 84, 88] : List UInt8)) = false := beq_eq_false_iff_ne.mpr c25
                have c25b1 : (t133.toList != ([83, 84, 88] : List UInt8)) = true := bne_iff_ne.mpr c25
                by_cases c26 : t133.toList = ([83, 84, 89] : List UInt8)
                ·rw [if_pos c26] at H
                 have c26b0 : (t133.toList == ([83, 84, 89] : List UInt8)) = true := beq_iff_eq.mpr c26
                 have c26b1 : (t133.toList != ([83, 84, 89] : List UInt8)) = false := bne_eq_false_iff_eq.mpr c26
                 clear c26
                 obtain rfl := Option.some.inj H
                 go_wp2
                 go_ret
                 exact ⟨by first | rfl | (simp [errW_none, errW_some] <;> rfl) | (simp [*, errW_none, errW_some] <;> rfl) | (simp [errW_none, errW_some]; cases t133.toList <;> rfl), by repeat (first | (with_reducible first | exact HB.out | apply below_alloc | apply pw_below_drewN | apply below_drew1) | exact HB.out)⟩
                ·rw [if_neg c26] at H
                 have c26b0 : (t133.toList == ([83, 84, 89] : List UInt8)) = false := beq_eq_false_iff_ne.mpr c26
                 have c26b1 : (t133.toList != ([83, 84, 89] : List UInt8)) = true := bne_iff_ne.mpr c26
                 have HC27 := Aside0.mk H
                 clear H
                 go_upto_region 27 with (fail)
                 go_cut [37] (fun v37 wc => ∃ (kq : Nat) (x37_26 : Bool), v37 = .bool x37_26 ∧ Aside0 (impl_KindOf.j2 kq t133 x37_26 = some r) ∧ Aside0 (kq ≤ kj20) ∧ Aside0 (Below w.heap.size w wc))
                 case first =>
                  have H := HC27.out
                  clear HC27
                  by_cases c28 : t134 = 0
                  ·rw [if_pos c28] at H
                   have c28b0 : (t134 == 0) = true := beq_iff_eq.mpr c28
                   have c28b1 : (t134 != 0) = false := bne_eq_false_iff_eq.mpr c28
                   clear c28
                   (first | rw [c28b0] | (simp only [i64_w, i32_w]; rw [c28b0]) | skip)
                   have H' := Aside0.mk H
                   clear H
                   go_wp2
                   go_meet
                   case rel => exact ⟨_, (true), (by first | rfl | (simp; done) | (simp [*]; done)), H', ⟨by have := HJ16.out; have := HJ20.out; first | omega | exact Nat.le_refl _⟩, ⟨by repeat (first | (with_reducible first | exact HB.out | apply below_alloc | apply pw_below_drewN | apply below_drew1) | exact HB.out)⟩⟩
                  ·rw [if_neg c28] at H
                   have c28b0 : (t134 == 0) = false := beq_eq_false_iff_ne.mpr c28
                   have c28b1 : (t134 != 0) = true := bne_iff_ne.mpr c28
                   (first | rw [c28b0] | (simp only [i64_w, i32_w]; rw [c28b0]) | skip)
                   have H' := Aside0.mk H
                   clear H
                   go_wp2
                   go_meet
                   case rel => exact ⟨_, ((t134 == 1)), (by first | rfl | (simp; done) | (simp [*]; done)), H', ⟨by have := HJ16.out; have := HJ20.out; first | omega | exact Nat.le_refl _⟩, ⟨by repeat (first | (with_reducible first | exact HB.out | apply below_alloc | apply pw_below_drewN | apply below_drew1) | exact HB.out)⟩⟩
                 case rest =>
                  clear HC27
                  try clear c1
                  try clear c2
                  try clear p2
                  try clear c3
                  try clear c3b0
                  try clear c3b1
                  try clear c5
                  try clear c5b0
                  try clear c5b1
                  try clear c7
                  try clear c7b0
                  try clear c7b1
                  try clear c9
                  try clear c9b0
                  try clear c9b1
                  try clear c11
                  try clear c11b0
                  try clear c11b1
                  try clear c13
                  try clear c13b0
                  try clear c13b1
                  try clear c15
                  try clear c15b0
                  try clear c15b1
                  try clear c19
                  try clear c19b0
                  try clear c19b1
                  try clear c20
                  try clear c22
                  try clear c22b0
                  try clear c22b1
                  try clear c23
                  try clear c24
                  try clear c24b0
                  try clear c24b1
                  try clear c25
                  try clear c25b0
                  try clear c25b1
                  try clear c26
                  try clear c26b0
                  try clear c26b1
                  try clear c28
                  try clear c28b0
                  try clear c28b1
                  try clear p2
                  obtain ⟨kq, x37_26, rfl, HA, HJ26, HB⟩ := hcut
                  cases kq with
                  | zero => exact absurd HA.out (by simp [impl_KindOf.j2])
                  | succ kj26 =>
                   have H := HA.out
                   clear HA
                   simp only [impl_KindOf.j2] at H
                   by_cases c29 : x37_26 = true
                   ·subst c29
                    have H1 : (some 1) = some r := by rw [if_pos rfl] at H; exact H
                    clear H
                    have H := H1
                    clear H1
                    obtain rfl := Option.some.inj H
                    go_wp2
                    go_ret
                    exact ⟨by first | rfl | (simp [errW_none, errW_some] <;> rfl) | (simp [*, errW_none, errW_some] <;> rfl) | (simp [errW_none, errW_some]; cases t133.toList <;> rfl), by repeat (first | (with_reducible first | exact HB.out | apply below_alloc | apply pw_below_drewN | apply below_drew1) | exact HB.out)⟩
                   ·replace c29 := Bool.eq_false_iff.mpr c29
                    subst c29
                    have H1 : ((strings_Contains.f (⟨#[65, 83, 76, 32, 76, 83, 82, 32, 82, 79, 76, 32, 82, 79, 82, 32, 73, 78, 67, 32, 68, 69, 67]⟩ : ByteArray) t133).bind fun t135 => (if t135 = true then (some 4) else (some 2))) = some r := by rw [if_neg (show ¬ (false = true) by decide)] at H; exact H
                    clear H
                    have H := H1
                    clear H1
                    replace H := Option.bind_eq_some_iff.mp H
                    obtain ⟨t135, A300, H⟩ := H
                    replace H : (if t135 = true then (some 4) else (some 2)) = some r := H
                    have A30 := Aside0.mk A300
                    clear A300
                    by_cases c31 : t135 = true
                    ·subst c31
                     have H1 : (some 4) = some r := by rw [if_pos rfl] at H; exact H
                     clear H
                     have H := H1
                     clear H1
                     obtain rfl := Option.some.inj H
                     go_wp2_with (first | ((with_reducible refine gate_callee (f := 39) rfl ?_); refine goesL_ (some 46) rfl rfl Tryz.func39 (by kernel_rfl) rfl #[.string (⟨#[65, 83, 76, 32, 76, 83, 82, 32, 82, 79, 76, 32, 82, 79, 82, 32, 73, 78, 67, 32, 68, 69, 67]⟩ : ByteArray), .string t133] rfl (by (try simp only [List.map_toArray, List.map_cons, List.map_nil]); first | done | rfl | (simp only [List.length_drop, List.length_take]; rfl)) ?_; (with_reducible refine (strings_Contains.calls (⟨#[65, 83, 76, 32, 76, 83, 82, 32, 82, 79, 76, 32, 82, 79, 82, 32, 73, 78, 67, 32, 68, 69, 67]⟩ : ByteArray) t133 true _ A30.out (Giv.at_ HT (by repeat (first | (with_reducible first | exact HB.out | apply below_alloc | apply pw_below_drewN | apply below_drew1) | exact HB.out)))).mono ?_); rintro e w32 ⟨rfl, hb⟩; refine ⟨_, rfl, ?_⟩; have n0_ := Aside0.mk (below_step (by repeat (first | (with_reducible first | exact HB.out | apply below_alloc | apply pw_below_drewN | apply below_drew1) | exact HB.out)) hb); clear HB; have HB := n0_; clear n0_; (try clear hb); (try clear hb2); (try clear hk); (try clear hi)))
                     go_ret
                     exact ⟨by first | rfl | (simp [errW_none, errW_some] <;> rfl) | (simp [*, errW_none, errW_some] <;> rfl) | (simp [errW_none, errW_some]; cases t133.toList <;> rfl), by repeat (first | (with_reducible first | exact HB.out | apply below_alloc | apply pw_below_drewN | apply below_drew1) | exact HB.out)⟩
                    ·replace c31 := Bool.eq_false_iff.mpr c31
                     subst c31
                     have H1 : (some 2) = some r := by rw [if_neg (show ¬ (false = true) by decide)] at H; exact H
                     clear H
                     have H := H1
                     clear H1
                     obtain rfl := Option.some.inj H
                     go_wp2_with (first | ((with_reducible refine gate_callee (f := 39) rfl ?_); refine goesL_ (some 46) rfl rfl Tryz.func39 (by kernel_rfl) rfl #[.string (⟨#[65, 83, 76, 32, 76, 83, 82, 32, 82, 79, 76, 32, 82, 79, 82, 32, 73, 78, 67, 32, 68, 69, 67]⟩ : ByteArray), .string t133] rfl (by (try simp only [List.map_toArray, List.map_cons, List.map_nil]); first | done | rfl | (simp only [List.length_drop, List.length_take]; rfl)) ?_; (with_reducible refine (strings_Contains.calls (⟨#[65, 83, 76, 32, 76, 83, 82, 32, 82, 79, 76, 32, 82, 79, 82, 32, 73, 78, 67, 32, 68, 69, 67]⟩ : ByteArray) t133 false _ A30.out (Giv.at_ HT (by repeat (first | (with_reducible first | exact HB.out | apply below_alloc | apply pw_below_drewN | apply below_drew1) | exact HB.out)))).mono ?_); rintro e w33 ⟨rfl, hb⟩; refine ⟨_, rfl, ?_⟩; have n0_ := Aside0.mk (below_step (by repeat (first | (with_reducible first | exact HB.out | apply below_alloc | apply pw_below_drewN | apply below_drew1) | exact HB.out)) hb); clear HB; have HB := n0_; clear n0_; (try clear hb); (try clear hb2); (try clear hk); (try clear hi)))
                     go_ret
                     exact ⟨by first | rfl | (simp [errW_none, errW_some] <;> rfl) | (simp [*, errW_none, errW_some] <;> rfl) | (simp [errW_none, errW_some]; cases t133.toList <;> rfl), by repeat (first | (with_reducible first | exact HB.out | apply below_alloc | apply pw_below_drewN | apply below_drew1) | exact HB.out)⟩

end Go.Proofs.YtnoelppkcbelcaaGreatDoor.MD
