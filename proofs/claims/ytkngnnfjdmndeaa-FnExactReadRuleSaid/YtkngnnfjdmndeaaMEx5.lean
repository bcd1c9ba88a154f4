-- Written by this session's own program (wip/myprint.py) over the kit's print of the translation. Lean checks it.
import Derived.Test.YtkngnnfjdmndeaaMEx0
import Derived.Test.YtkngnnfjdmndeaaMEx4
namespace Go.Proofs.Ytkngnnfjdmndeaa.ME
open Go.RowKit Go.Proofs.YtkngnnfjdmndeaaW.PrintWords Go.Proofs.YtkngnnfjdmndeaaW.PrintLast Go.Proofs.YtkngnnfjdmndeaaW.PrintMore
attribute [local go_sem] max2_int min2_int max_two min_two max_three min_three max_four min_four   -- for this text's walks alone
set_option linter.unusedVariables false
set_option linter.unusedSimpArgs false

/-! ### impl_ReadRule: function 6 -/
def impl_ReadRule.l0 : Nat → ByteArray → List Int → Int → Int → Int → Int → Int → Int → Int → Option (Int × Int × Int × Int × Int × Bool)
  | 0, _, _, _, _, _, _, _, _, _ => none
  | k + 1, x0, x22, x23, x24, x141000, x141001, x141002, x141003, x141004 => if x24 < x23 then (if 0 ≤ x24 then (if x24 < (x22.length : Int) then (if 0 ≤ (wrap64 (10 + x24)) then (if (wrap64 (10 + x24)) < (x0.size : Int) then (if (bt x0 (wrap64 (10 + x24))) = 63 then (impl_ReadRule.l0 k x0 x22 x23 (wrap64 (x24 + 1)) x141000 x141001 x141002 x141003 x141004) else (if 0 ≤ (rd x22 x24) then (if (wrap64 (10 + x24)) ≤ (wrap64 (11 + x24)) then (if (wrap64 (11 + x24)) ≤ (x0.size : Int) then ((impl_ReadHex.f k (x0.extract ((wrap64 (10 + x24)) : Int).toNat ((wrap64 (11 + x24)) : Int).toNat) 1).bind fun t145 => (impl_ReadRule.l0 k x0 x22 x23 (wrap64 (x24 + 1)) x141000 x141001 (Go.bits .or .u8 x141002 (shl .u8 15 (rd x22 x24))) (Go.bits .or .u8 x141003 (shl .u8 ((mx 0 t145) % 256) (rd x22 x24))) x141004)) else (none)) else (none)) else (none))) else (none)) else (none)) else (none)) else (none)) else (if 13 < (x0.size : Int) then (if (bt x0 13) = 114 then ((impl_RuleText.f k x141000 x141001 x141002 x141003 0).bind fun t146 => (if t146.toList = x0.toList then (some (x141000, x141001, x141002, x141003, 0, true)) else (some (0, 0, 0, 0, 0, false)))) else (if (bt x0 13) = 119 then ((impl_RuleText.f k x141000 x141001 x141002 x141003 1).bind fun t147 => (if t147.toList = x0.toList then (some (x141000, x141001, x141002, x141003, 1, true)) else (some (0, 0, 0, 0, 0, false)))) else ((impl_RuleText.f k x141000 x141001 x141002 x141003 x141004).bind fun t148 => (if t148.toList = x0.toList then (some (x141000, x141001, x141002, x141003, x141004, true)) else (some (0, 0, 0, 0, 0, false)))))) else (none))
def impl_ReadRule.f (k : Nat) (a0 : ByteArray) : Option (Int × Int × Int × Int × Int × Bool) := if (a0.size : Int) = 14 then (if 0 ≤ 4 then (if 4 ≤ (a0.size : Int) then ((impl_ReadHex.f k (a0.extract 0 4) 4).bind fun t138 => (if 5 ≤ 9 then (if 9 ≤ (a0.size : Int) then ((impl_ReadHex.f k (a0.extract 5 9) 4).bind fun t139 => ((some (([4, 0] : List Int) : List Int)).bind fun y141 => (impl_ReadRule.l0 k a0 y141 (y141.length : Int) 0 (IntKind.u16.wrap (mx 0 t138)) (IntKind.u16.wrap (mx 0 t139)) 0 0 2))) else (none)) else (none))) else (none)) else (none)) else (some (0, 0, 0, 0, 0, false))
theorem impl_ReadRule.mono_l : ∀ k, (∀ y0 y1 y2 y3 y4 y5 y6 y7 y8, LeO (impl_ReadRule.l0 k y0 y1 y2 y3 y4 y5 y6 y7 y8) (impl_ReadRule.l0 (k + 1) y0 y1 y2 y3 y4 y5 y6 y7 y8))
  | 0 => fun _ _ _ _ _ _ _ _ _ r h => by simp [impl_ReadRule.l0] at h
  | k + 1 => by
    have ih0 := impl_ReadRule.mono_l k
    · intro y0 y1 y2 y3 y4 y5 y6 y7 y8
      unfold impl_ReadRule.l0
      repeat' first
      | (with_reducible exact ih0 _ _ _ _ _ _ _ _ _)
      | (with_reducible exact impl_ReadHex.mono _ _ _)
      | (with_reducible exact impl_RuleText.mono _ _ _ _ _ _)
      | (with_reducible exact LeO.refl _)
      | (with_reducible exact LeO.none _)
      | (with_reducible refine LeO.ite ?_ ?_)
      | (with_reducible refine LeO.bind ?_ (fun _ => ?_))
      | exact ih0 _ _ _ _ _ _ _ _ _
      | exact impl_ReadHex.mono _ _ _
      | exact impl_RuleText.mono _ _ _ _ _ _
      | exact LeO.none _
      | refine LeO.ite ?_ ?_
      | refine LeO.bind ?_ (fun _ => ?_)
theorem impl_ReadRule.mono : ∀ a0 k, LeO (impl_ReadRule.f k a0) (impl_ReadRule.f (k + 1) a0) := by
  intro a0 k
  have ih0 := impl_ReadRule.mono_l k
  unfold impl_ReadRule.f
  repeat' first
      | (with_reducible exact ih0 _ _ _ _ _ _ _ _ _)
      | (with_reducible exact impl_ReadHex.mono _ _ _)
      | (with_reducible exact impl_RuleText.mono _ _ _ _ _ _)
      | (with_reducible exact LeO.refl _)
      | (with_reducible exact LeO.none _)
      | (with_reducible refine LeO.ite ?_ ?_)
      | (with_reducible refine LeO.bind ?_ (fun _ => ?_))
      | exact ih0 _ _ _ _ _ _ _ _ _
      | exact impl_ReadHex.mono _ _ _
      | exact impl_RuleText.mono _ _ _ _ _ _
      | exact LeO.none _
      | refine LeO.ite ?_ ?_
      | refine LeO.bind ?_ (fun _ => ?_)
def impl_ReadRule.T3 : Bool × List (List Nat × List Nat) := (true, [([], []), ([0], [0]), ([1], [1]), ([2], [2]), ([3], [3]), ([], []), ([5], [5]), ([6, 2], [6]), ([7], [7]), ([8], [8]), ([4, 9], [4, 9]), ([], []), ([11, 10, 7, 0, 1, 2, 3, 4, 5, 6, 7, 8, 9, 10, 11], [10, 11])])
def impl_ReadRule.B3 : List Nat := [0, 1, 3, 7, 15, 0, 32, 103, 231, 487, 1023, 0, 4095]
theorem impl_ReadRule.tab3 : rtab .any (opsOf Try.f6 3) = impl_ReadRule.T3 := by kernel_rfl
theorem impl_ReadRule.bits3 : waitsOk impl_ReadRule.T3.2 impl_ReadRule.B3 = true := by kernel_rfl
def impl_ReadRule.T9 : Bool × List (List Nat × List Nat) := (true, [([], []), ([0], [0]), ([], []), ([], []), ([3], [3]), ([], []), ([5], [5]), ([2, 4, 6], [2, 4, 6]), ([7], [7]), ([8], [8]), ([9], [9]), ([], []), ([10, 11], [10, 11]), ([1, 12], [1, 12]), ([0, 1, 2, 3, 4, 5, 6, 7, 8, 9, 10, 11, 12, 13], []), ([14, 13, 8, 0, 1, 2, 3, 4, 5, 6, 7, 8, 9, 10, 11, 12, 13], [13, 14])])
def impl_ReadRule.B9 : List Nat := [0, 1, 0, 0, 8, 0, 32, 124, 252, 508, 1020, 0, 4092, 8191, 16383, 32767]
theorem impl_ReadRule.tab9 : rtab .any (opsOf Try.f6 9) = impl_ReadRule.T9 := by kernel_rfl
theorem impl_ReadRule.bits9 : waitsOk impl_ReadRule.T9.2 impl_ReadRule.B9 = true := by kernel_rfl
set_option maxHeartbeats 8000000 in
set_option maxRecDepth 100000 in
theorem impl_ReadRule.calls (k : Nat) (a0 : ByteArray) (r1 : Int) (r2 : Int) (r3 : Int) (r4 : Int) (r5 : Int) (r6 : Bool) (w : World) (h : impl_ReadRule.f k a0 = some (r1, r2, r3, r4, r5, r6)) :
    Calls Try.prog 6 #[.string a0] w fun e w' => e = .returned (.tuple #[.agg #[.int .u16 r1, .int .u16 r2, .int .u8 r3, .int .u8 r4, .int .i64 r5], .bool r6]) ∧ Below w.heap.size w w' := by
  have hu24 := Try.underlying24
  have HB := Aside0.mk (Below.refl w.heap.size w)
  have H : (if (a0.size : Int) = 14 then (if 0 ≤ 4 then (if 4 ≤ (a0.size : Int) then ((impl_ReadHex.f k (a0.extract 0 4) 4).bind fun t138 => (if 5 ≤ 9 then (if 9 ≤ (a0.size : Int) then ((impl_ReadHex.f k (a0.extract 5 9) 4).bind fun t139 => ((some (([4, 0] : List Int) : List Int)).bind fun y141 => (impl_ReadRule.l0 k a0 y141 (y141.length : Int) 0 (IntKind.u16.wrap (mx 0 t138)) (IntKind.u16.wrap (mx 0 t139)) 0 0 2))) else (none)) else (none))) else (none)) else (none)) else (some (0, 0, 0, 0, 0, false))) = some (r1, r2, r3, r4, r5, r6) := h
  clear h
  by_cases c2 : (a0.size : Int) = 14
  · rw [if_pos c2] at H
    have c2b0 : ((a0.size : Int) == 14) = true := beq_iff_eq.mpr c2
    have c2b1 : ((a0.size : Int) != 14) = false := bne_eq_false_iff_eq.mpr c2
    clear c2
    by_cases c3 : 0 ≤ 4
    · rw [if_pos c3] at H
      have c3b0 := eq_true c3
      have c3b1 : decide (0 ≤ 4) = true := decide_eq_true c3
      clear c3
      by_cases c4 : 4 ≤ (a0.size : Int)
      · rw [if_pos c4] at H
        have c4b0 := eq_true c4
        have c4b1 : decide (4 ≤ (a0.size : Int)) = true := decide_eq_true c4
        clear c4
        replace H := Option.bind_eq_some_iff.mp H
        obtain ⟨t138, A50, H⟩ := H
        replace H : (if 5 ≤ 9 then (if 9 ≤ (a0.size : Int) then ((impl_ReadHex.f k (a0.extract 5 9) 4).bind fun t139 => ((some (([4, 0] : List Int) : List Int)).bind fun y141 => (impl_ReadRule.l0 k a0 y141 (y141.length : Int) 0 (IntKind.u16.wrap (mx 0 t138)) (IntKind.u16.wrap (mx 0 t139)) 0 0 2))) else (none)) else (none)) = some (r1, r2, r3, r4, r5, r6) := H
        have A5 := Aside0.mk A50
        clear A50
        obtain ⟨ji6, hji6⟩ : ∃ j_ : Int, (mx 0 t138) = j_ := ⟨_, rfl⟩
        replace H : (if 5 ≤ 9 then (if 9 ≤ (a0.size : Int) then ((impl_ReadHex.f k (a0.extract 5 9) 4).bind fun t139 => ((some (([4, 0] : List Int) : List Int)).bind fun y141 => (impl_ReadRule.l0 k a0 y141 (y141.length : Int) 0 (IntKind.u16.wrap (ji6)) (IntKind.u16.wrap (mx 0 t139)) 0 0 2))) else (none)) else (none)) = some (r1, r2, r3, r4, r5, r6) := by first | (rw [hji6] at H; exact H) | (simp only [hji6] at H ⊢; exact H)
        (try rw [hji6] at A5)
        (try (have hji6l : 0 ≤ ji6 := by (rw [← hji6]; unfold mx; (repeat' split) <;> omega)))
        (try (have hji6m : 0 ≤ ji6 := by omega))
        have hji6_ : (if 0 < t138 then t138 else 0) = ji6 := hji6
        by_cases c7 : 5 ≤ 9
        · rw [if_pos c7] at H
          have c7b0 := eq_true c7
          have c7b1 : decide (5 ≤ 9) = true := decide_eq_true c7
          clear c7
          by_cases c8 : 9 ≤ (a0.size : Int)
          · rw [if_pos c8] at H
            have c8b0 := eq_true c8
            have c8b1 : decide (9 ≤ (a0.size : Int)) = true := decide_eq_true c8
            clear c8
            replace H := Option.bind_eq_some_iff.mp H
            obtain ⟨t139, A90, H⟩ := H
            replace H : ((some (([4, 0] : List Int) : List Int)).bind fun y141 => (impl_ReadRule.l0 k a0 y141 (y141.length : Int) 0 (IntKind.u16.wrap (ji6)) (IntKind.u16.wrap (mx 0 t139)) 0 0 2)) = some (r1, r2, r3, r4, r5, r6) := H
            have A9 := Aside0.mk A90
            clear A90
            obtain ⟨ji10, hji10⟩ : ∃ j_ : Int, (mx 0 t139) = j_ := ⟨_, rfl⟩
            replace H : ((some (([4, 0] : List Int) : List Int)).bind fun y141 => (impl_ReadRule.l0 k a0 y141 (y141.length : Int) 0 (IntKind.u16.wrap (ji6)) (IntKind.u16.wrap (ji10)) 0 0 2)) = some (r1, r2, r3, r4, r5, r6) := by first | (rw [hji10] at H; exact H) | (simp only [hji10] at H ⊢; exact H)
            (try rw [hji10] at A5)
            (try rw [hji10] at A9)
            (try (have hji10l : 0 ≤ ji10 := by (rw [← hji10]; unfold mx; (repeat' split) <;> omega)))
            (try (have hji10m : 0 ≤ ji10 := by omega))
            have hji10_ : (if 0 < t139 then t139 else 0) = ji10 := hji10
            obtain ⟨y141, hy141⟩ : ∃ y_ : List Int, y_ = (([4, 0] : List Int)) := ⟨_, rfl⟩
            replace H : (impl_ReadRule.l0 k a0 y141 (y141.length : Int) 0 (IntKind.u16.wrap (ji6)) (IntKind.u16.wrap (ji10)) 0 0 2) = some (r1, r2, r3, r4, r5, r6) := by first | (rw [hy141]; with_reducible exact H) | (have H2_ := (Option.bind_some _ _).symm.trans H; rw [hy141]; with_reducible exact H2_) | (have H2_ := (Option.bind_some _ _).symm.trans H; with_reducible exact H2_) | with_reducible exact H | (rw [hy141]; exact H) | exact H
            have Ny141 := Aside0.mk hy141
            clear hy141
            have H' := Aside0.mk H
            clear H
            go_enter Try.func6, Try.ntmps6
            try go_wp2_with (first | ((with_reducible refine gate_dst (N := 2) rfl ?_); refine box_event ?hg (N := 2) ?hd (cs := #[.int .u16 0, .int .u16 0, .int .u8 0, .int .u8 0, .int .i64 0]) (t := 24) ?hr ?_; (case hd => rfl); (case hg => rfl); (case hr => first | (go_simp; done) | (go_simp; rfl)); intro gb137 hg w11 hbox hb; have n0_ := Aside0.mk (below_step (by repeat (first | (with_reducible first | exact HB.out | apply below_alloc | apply pw_below_drewN | apply below_drew1) | exact HB.out)) hb); have n1_ := Aside0.mk (hbox); have n2_ := Aside0.mk ((by rw [hg]; exact (below_size (by repeat (first | (with_reducible first | exact HB.out | apply below_alloc | apply pw_below_drewN | apply below_drew1) | exact HB.out))) : w.heap.size ≤ gb137)); have n3_ := Aside0.mk ((by rw [hg]; exact (below_size (by repeat (first | (with_reducible first | exact HB.out | apply below_alloc | apply pw_below_drewN | apply below_drew1) | exact HB.out))) : w.heap.size ≤ gb137)); clear HB; have HB := n0_; have BK137 := n1_; have GW137 := n2_; have GE137 := n3_; clear n0_ n1_ n2_ n3_; clear hb hbox hg))
            have n0_ := Aside0.mk (blk_drew BK137.out)
            have n1_ := Aside0.mk (below_drew1 HB.out)
            clear BK137
            clear HB
            have BK137 := n0_
            have HB := n1_
            clear n0_ n1_
            refine start_ (n := 13) (S := fun w' => True) (ds := []) #[false, false, false, false, false, false, false, false, false, false, false, false, false] (by kernel_rfl) rfl rfl trivial (fun hHeld => ?_); refine with_tabW impl_ReadRule.tab3 impl_ReadRule.bits3 (fun HT_ HW_ => ?_)
            generalize w11.drew = w12 at BK137 HB hHeld ⊢
            refine pure_ (i := 0) (N := some 11) (v := ?_) (a' := ?_) #[true, false, false, false, false, false, false, false, false, false, false, false, false] rfl rfl (any_of HT_.out (by kernel_rfl)) (fun _ _ _ h => h) (Or.inl ⟨by rfl, ?_⟩) ?_ ?_
            rotate_left
            · intro w'
              go_simp
              with_reducible rfl
            rotate_left
            · simp only [Act.put, List.setIfInBounds_toArray, List.set_cons_zero, List.set_cons_succ, i64_w, i32_w]
              rfl
            refine pure_ (i := 1) (N := some 12) (v := ?_) (a' := ?_) #[true, true, false, false, false, false, false, false, false, false, false, false, false] rfl rfl (any_of HT_.out (by kernel_rfl)) (fun _ _ _ h => h) (Or.inl ⟨by rfl, ?_⟩) ?_ ?_
            rotate_left
            · intro w'
              go_simp
              with_reducible rfl
            rotate_left
            · simp only [Act.put, List.setIfInBounds_toArray, List.set_cons_zero, List.set_cons_succ, i64_w, i32_w]
              rfl
            refine pure_ (i := 5) (N := some 16) (v := ?_) (a' := ?_) #[true, true, false, false, false, true, false, false, false, false, false, false, false] rfl rfl (any_of HT_.out (by kernel_rfl)) (fun _ _ _ h => h) (Or.inl ⟨by rfl, ?_⟩) ?_ ?_
            rotate_left
            · intro w'
              go_simp
              with_reducible rfl
            rotate_left
            · simp only [Act.put, List.setIfInBounds_toArray, List.set_cons_zero, List.set_cons_succ, i64_w, i32_w]
              rfl
            refine pure_ (i := 6) (N := some 17) (v := ?_) (a' := ?_) #[true, true, false, false, false, true, true, false, false, false, false, false, false] rfl rfl (any_of HT_.out (by kernel_rfl)) (fun _ _ _ h => h) (Or.inl ⟨by rfl, ?_⟩) ?_ ?_
            rotate_left
            · intro w'
              go_simp
              with_reducible rfl
            rotate_left
            · simp only [Act.put, List.setIfInBounds_toArray, List.set_cons_zero, List.set_cons_succ, i64_w, i32_w]
              rfl
            refine join_ (σ := Nat) 1 #[true, true, true, true, true, true, true, true, true, true, true, true, false] (fun s_ => [(13, .int .i64 t138), (18, .int .i64 t139), (4, .pointer (some ⟨s_, 0, none⟩)), (14, .int .i64 ji6), (15, .int .u16 (IntKind.u16.wrap (ji6))), (19, .int .i64 ji10), (20, .int .u16 (IntKind.u16.wrap (ji10))), (21, .agg #[.int .u16 (IntKind.u16.wrap (ji6)), .int .u16 (IntKind.u16.wrap (ji10)), .int .u8 0, .int .u8 0, .int .i64 2])]) (fun s_ w' => (w'.heap[gb137]? = some (.cells #[.int .u16 0, .int .u16 0, .int .u8 0, .int .u8 0, .int .i64 0] 24 (0, 0))) ∧ (w'.heap[s_]? = some (.cells #[.int .u16 0, .int .u16 0, .int .u8 0, .int .u8 0, .int .i64 0] 24 (0, 0))) ∧ (w.heap.size ≤ s_) ∧ (w.heap.size ≤ s_) ∧ (gb137 ≠ s_) ∧ (s_ ≠ gb137) ∧ (Below w.heap.size w w')) ?_ ?_
            rotate_left
            · intro hCont
              refine two_ (i := 2) (j := 11) (Ni := some 13) (Nj := some 4) #[true, true, true, false, false, true, true, false, false, false, false, false, false] #[true, true, false, false, false, true, true, false, false, false, false, true, false] rfl rfl rfl rfl (two_of HT_.out (by kernel_rfl)) (by decide) (by decide) (fun K hK => ?_) (fun K hK => ?_)
              · skip
                refine goes_ Try.func17 (by kernel_rfl) rfl #[.string (a0.extract 0 4), .int .i64 4] (by rfl) rfl rfl (by (try simp only [List.map_toArray, List.map_cons, List.map_nil]); first | done | rfl | (simp only [List.length_drop, List.length_take]; rfl)) ?_
                with_reducible refine (impl_ReadHex.calls k (a0.extract 0 4) 4 t138 _ A5.out).mono ?_
                rintro e w13 ⟨rfl, hb⟩
                refine ⟨_, rfl, ?_⟩
                have n0_ := Aside0.mk (blk_below (g := gb137) (o := .cells #[.int .u16 0, .int .u16 0, .int .u8 0, .int .u8 0, .int .i64 0] 24 (0, 0)) (by (with_reducible repeat (first | refine blk_drewN ?_ _ | refine blk_drew ?_ | refine blk_alloc ?_ _)); exact BK137.out) hb)
                have n1_ := Aside0.mk (below_step (by repeat (first | (with_reducible first | exact HB.out | apply below_alloc | apply pw_below_drewN | apply below_drew1 | refine below_set ?_ GE137.out) | exact HB.out)) hb)
                clear BK137
                clear HB
                have BK137 := n0_
                have HB := n1_
                clear n0_ n1_
                (try clear hb)
                (try clear hb2)
                (try clear hk)
                (try clear hi)
                refine hK.out _ _ trivial (fun hHeld => ?_)
                clear hK K
                refine norm_ (a' := ?_) ?_ ?_
                rotate_left
                · show Act.put _ (some 13) _ = _
                  simp only [Act.put, List.setIfInBounds_toArray, List.set_cons_zero, List.set_cons_succ, i64_w, i32_w]
                  rfl
                refine pure_ (i := 3) (N := some 14) (v := ?_) (a' := ?_) #[true, true, true, true, false, true, true, false, false, false, false, false, false] rfl rfl (any_of HT_.out (by kernel_rfl)) (fun _ _ _ h => h) (Or.inl ⟨by rfl, ?_⟩) ?_ ?_
                rotate_left
                · intro w'
                  go_simp
                  with_reducible rfl
                rotate_left
                · simp only [Act.put, List.setIfInBounds_toArray, List.set_cons_zero, List.set_cons_succ, i64_w, i32_w]
                  rfl
                refine pure_ (i := 4) (N := some 15) (v := ?_) (a' := ?_) #[true, true, true, true, true, true, true, false, false, false, false, false, false] rfl rfl (any_of HT_.out (by kernel_rfl)) (fun _ _ _ h => h) (Or.inl ⟨by rfl, ?_⟩) ?_ ?_
                rotate_left
                · intro w'
                  go_simp
                  with_reducible rfl
                rotate_left
                · simp only [Act.put, List.setIfInBounds_toArray, List.set_cons_zero, List.set_cons_succ, i64_w, i32_w]
                  rfl
                refine two_ (i := 7) (j := 11) (Ni := some 18) (Nj := some 4) #[true, true, true, true, true, true, true, true, false, false, false, false, false] #[true, true, true, true, true, true, true, false, false, false, false, true, false] rfl rfl rfl rfl (two_of HT_.out (by kernel_rfl)) (by decide) (by decide) (fun K hK => ?_) (fun K hK => ?_)
                · skip
                  refine goes_ Try.func17 (by kernel_rfl) rfl #[.string (a0.extract 5 9), .int .i64 4] (by rfl) rfl rfl (by (try simp only [List.map_toArray, List.map_cons, List.map_nil]); first | done | rfl | (simp only [List.length_drop, List.length_take]; rfl)) ?_
                  with_reducible refine (impl_ReadHex.calls k (a0.extract 5 9) 4 t139 _ A9.out).mono ?_
                  rintro e w14 ⟨rfl, hb⟩
                  refine ⟨_, rfl, ?_⟩
                  have n0_ := Aside0.mk (blk_below (g := gb137) (o := .cells #[.int .u16 0, .int .u16 0, .int .u8 0, .int .u8 0, .int .i64 0] 24 (0, 0)) (by (with_reducible repeat (first | refine blk_drewN ?_ _ | refine blk_drew ?_ | refine blk_alloc ?_ _)); exact BK137.out) hb)
                  have n1_ := Aside0.mk (below_step (by repeat (first | (with_reducible first | exact HB.out | apply below_alloc | apply pw_below_drewN | apply below_drew1 | refine below_set ?_ GE137.out) | exact HB.out)) hb)
                  clear BK137
                  clear HB
                  have BK137 := n0_
                  have HB := n1_
                  clear n0_ n1_
                  (try clear hb)
                  (try clear hb2)
                  (try clear hk)
                  (try clear hi)
                  refine hK.out _ _ trivial (fun hHeld => ?_)
                  clear hK K
                  refine norm_ (a' := ?_) ?_ ?_
                  rotate_left
                  · show Act.put _ (some 18) _ = _
                    simp only [Act.put, List.setIfInBounds_toArray, List.set_cons_zero, List.set_cons_succ, i64_w, i32_w]
                    rfl
                  refine pure_ (i := 8) (N := some 19) (v := ?_) (a' := ?_) #[true, true, true, true, true, true, true, true, true, false, false, false, false] rfl rfl (any_of HT_.out (by kernel_rfl)) (fun _ _ _ h => h) (Or.inl ⟨by rfl, ?_⟩) ?_ ?_
                  rotate_left
                  · intro w'
                    go_simp
                    with_reducible rfl
                  rotate_left
                  · simp only [Act.put, List.setIfInBounds_toArray, List.set_cons_zero, List.set_cons_succ, i64_w, i32_w]
                    rfl
                  refine pure_ (i := 9) (N := some 20) (v := ?_) (a' := ?_) #[true, true, true, true, true, true, true, true, true, true, false, false, false] rfl rfl (any_of HT_.out (by kernel_rfl)) (fun _ _ _ h => h) (Or.inl ⟨by rfl, ?_⟩) ?_ ?_
                  rotate_left
                  · intro w'
                    go_simp
                    with_reducible rfl
                  rotate_left
                  · simp only [Act.put, List.setIfInBounds_toArray, List.set_cons_zero, List.set_cons_succ, i64_w, i32_w]
                    rfl
                  refine pure_ (i := 10) (N := some 21) (v := ?_) (a' := ?_) #[true, true, true, true, true, true, true, true, true, true, true, false, false] rfl rfl (any_of HT_.out (by kernel_rfl)) (fun _ _ _ h => h) (Or.inl ⟨by rfl, ?_⟩) ?_ ?_
                  rotate_left
                  · intro w'
                    go_simp
                    with_reducible rfl
                  rotate_left
                  · simp only [Act.put, List.setIfInBounds_toArray, List.set_cons_zero, List.set_cons_succ, i64_w, i32_w]
                    rfl
                  refine one_ (i := 11) (N := some 4) #[true, true, true, true, true, true, true, true, true, true, true, true, false] rfl rfl (one_of HT_.out (by kernel_rfl)) (by decide) (fun K hK => ?_)
                  refine box_step ?hg (N := 4) ?hd (cs := #[.int .u16 0, .int .u16 0, .int .u8 0, .int .u8 0, .int .i64 0]) (t := 24) ?hr ?_; (case hd => rfl); (case hg => rfl); (case hr => first | (go_simp; done) | (go_simp; rfl))
                  intro gb140 hg w15 hbox hb
                  have n0_ := Aside0.mk (blk_below (g := gb137) (o := .cells #[.int .u16 0, .int .u16 0, .int .u8 0, .int .u8 0, .int .i64 0] 24 (0, 0)) (by (with_reducible repeat (first | refine blk_drewN ?_ _ | refine blk_drew ?_ | refine blk_alloc ?_ _)); exact BK137.out) hb)
                  have n1_ := Aside0.mk (below_step (by repeat (first | (with_reducible first | exact HB.out | apply below_alloc | apply pw_below_drewN | apply below_drew1 | refine below_set ?_ GE137.out) | exact HB.out)) hb)
                  have n2_ := Aside0.mk (hbox)
                  have n3_ := Aside0.mk ((by rw [hg]; exact (below_size (by repeat (first | (with_reducible first | exact HB.out | apply below_alloc | apply pw_below_drewN | apply below_drew1 | refine below_set ?_ GE137.out) | exact HB.out))) : w.heap.size ≤ gb140))
                  have n4_ := Aside0.mk ((by rw [hg]; exact (below_size (by repeat (first | (with_reducible first | exact HB.out | apply below_alloc | apply pw_below_drewN | apply below_drew1 | refine below_set ?_ GE137.out) | exact HB.out))) : w.heap.size ≤ gb140))
                  have n5_ := Aside0.mk ((by rw [hg]; exact Nat.ne_of_lt (blk_lt (g := gb137) (o := .cells #[.int .u16 0, .int .u16 0, .int .u8 0, .int .u8 0, .int .i64 0] 24 (0, 0)) (by (with_reducible repeat (first | refine blk_drewN ?_ _ | refine blk_drew ?_ | refine blk_alloc ?_ _)); exact BK137.out)) : gb137 ≠ gb140))
                  have n6_ := Aside0.mk ((by rw [hg]; exact Nat.ne_of_gt (blk_lt (g := gb137) (o := .cells #[.int .u16 0, .int .u16 0, .int .u8 0, .int .u8 0, .int .i64 0] 24 (0, 0)) (by (with_reducible repeat (first | refine blk_drewN ?_ _ | refine blk_drew ?_ | refine blk_alloc ?_ _)); exact BK137.out)) : gb140 ≠ gb137))
                  clear BK137
                  clear HB
                  have BK137 := n0_
                  have HB := n1_
                  have BK140 := n2_
                  have GW140 := n3_
                  have GE140 := n4_
                  have NB137_140 := n5_
                  have NB140_137 := n6_
                  clear n0_ n1_ n2_ n3_ n4_ n5_ n6_
                  clear hb hbox hg
                  refine hK.out _ _ trivial (fun hHeld => ?_)
                  clear hK K
                  refine norm_ (a' := ?_) ?_ ?_
                  rotate_left
                  · show Act.put _ (some 4) _ = _
                    simp only [Act.put, List.setIfInBounds_toArray, List.set_cons_zero, List.set_cons_succ, i64_w, i32_w]
                    rfl
                  exact norm_ (by simp only [putAll, Act.put, List.setIfInBounds_toArray, List.set_cons_zero, List.set_cons_succ]) (hCont (gb140) _ ⟨(by (with_reducible repeat (first | refine blk_drewN ?_ _ | refine blk_drew ?_ | refine blk_alloc ?_ _)); exact BK137.out), (by (with_reducible repeat (first | refine blk_drewN ?_ _ | refine blk_drew ?_ | refine blk_alloc ?_ _)); exact BK140.out), GW140.out, GE140.out, NB137_140.out, NB140_137.out, (by repeat (first | (with_reducible first | exact HB.out | apply below_alloc | apply pw_below_drewN | apply below_drew1 | refine below_set ?_ GE137.out | refine below_set ?_ GE140.out) | exact HB.out))⟩)
                · skip
                  refine box_step ?hg (N := 4) ?hd (cs := #[.int .u16 0, .int .u16 0, .int .u8 0, .int .u8 0, .int .i64 0]) (t := 24) ?hr ?_; (case hd => rfl); (case hg => rfl); (case hr => first | (go_simp; done) | (go_simp; rfl))
                  intro gb140 hg w14 hbox hb
                  have n0_ := Aside0.mk (blk_below (g := gb137) (o := .cells #[.int .u16 0, .int .u16 0, .int .u8 0, .int .u8 0, .int .i64 0] 24 (0, 0)) (by (with_reducible repeat (first | refine blk_drewN ?_ _ | refine blk_drew ?_ | refine blk_alloc ?_ _)); exact BK137.out) hb)
                  have n1_ := Aside0.mk (below_step (by repeat (first | (with_reducible first | exact HB.out | apply below_alloc | apply pw_below_drewN | apply below_drew1 | refine below_set ?_ GE137.out) | exact HB.out)) hb)
                  have n2_ := Aside0.mk (hbox)
                  have n3_ := Aside0.mk ((by rw [hg]; exact (below_size (by repeat (first | (with_reducible first | exact HB.out | apply below_alloc | apply pw_below_drewN | apply below_drew1 | refine below_set ?_ GE137.out) | exact HB.out))) : w.heap.size ≤ gb140))
                  have n4_ := Aside0.mk ((by rw [hg]; exact (below_size (by repeat (first | (with_reducible first | exact HB.out | apply below_alloc | apply pw_below_drewN | apply below_drew1 | refine below_set ?_ GE137.out) | exact HB.out))) : w.heap.size ≤ gb140))
                  have n5_ := Aside0.mk ((by rw [hg]; exact Nat.ne_of_lt (blk_lt (g := gb137) (o := .cells #[.int .u16 0, .int .u16 0, .int .u8 0, .int .u8 0, .int .i64 0] 24 (0, 0)) (by (with_reducible repeat (first | refine blk_drewN ?_ _ | refine blk_drew ?_ | refine blk_alloc ?_ _)); exact BK137.out)) : gb137 ≠ gb140))
                  have n6_ := Aside0.mk ((by rw [hg]; exact Nat.ne_of_gt (blk_lt (g := gb137) (o := .cells #[.int .u16 0, .int .u16 0, .int .u8 0, .int .u8 0, .int .i64 0] 24 (0, 0)) (by (with_reducible repeat (first | refine blk_drewN ?_ _ | refine blk_drew ?_ | refine blk_alloc ?_ _)); exact BK137.out)) : gb140 ≠ gb137))
                  clear BK137
                  clear HB
                  have BK137 := n0_
                  have HB := n1_
                  have BK140 := n2_
                  have GW140 := n3_
                  have GE140 := n4_
                  have NB137_140 := n5_
                  have NB140_137 := n6_
                  clear n0_ n1_ n2_ n3_ n4_ n5_ n6_
                  clear hb hbox hg
                  refine hK.out _ _ trivial (fun hHeld => ?_)
                  clear hK K
                  refine norm_ (a' := ?_) ?_ ?_
                  rotate_left
                  · show Act.put _ (some 4) _ = _
                    simp only [Act.put, List.setIfInBounds_toArray, List.set_cons_zero, List.set_cons_succ, i64_w, i32_w]
                    rfl
                  refine one_ (i := 7) (N := some 18) #[true, true, true, true, true, true, true, true, false, false, false, true, false] rfl rfl (one_of HT_.out (by kernel_rfl)) (by decide) (fun K hK => ?_)
                  refine goes_ Try.func17 (by kernel_rfl) rfl #[.string (a0.extract 5 9), .int .i64 4] (by rfl) rfl rfl (by (try simp only [List.map_toArray, List.map_cons, List.map_nil]); first | done | rfl | (simp only [List.length_drop, List.length_take]; rfl)) ?_
                  with_reducible refine (impl_ReadHex.calls k (a0.extract 5 9) 4 t139 _ A9.out).mono ?_
                  rintro e w15 ⟨rfl, hb⟩
                  refine ⟨_, rfl, ?_⟩
                  have n0_ := Aside0.mk (blk_below (g := gb137) (o := .cells #[.int .u16 0, .int .u16 0, .int .u8 0, .int .u8 0, .int .i64 0] 24 (0, 0)) (by (with_reducible repeat (first | refine blk_drewN ?_ _ | refine blk_drew ?_ | refine blk_alloc ?_ _)); exact BK137.out) hb)
                  have n1_ := Aside0.mk (blk_below (g := gb140) (o := .cells #[.int .u16 0, .int .u16 0, .int .u8 0, .int .u8 0, .int .i64 0] 24 (0, 0)) (by (with_reducible repeat (first | refine blk_drewN ?_ _ | refine blk_drew ?_ | refine blk_alloc ?_ _)); exact BK140.out) hb)
                  have n2_ := Aside0.mk (below_step (by repeat (first | (with_reducible first | exact HB.out | apply below_alloc | apply pw_below_drewN | apply below_drew1 | refine below_set ?_ GE137.out | refine below_set ?_ GE140.out) | exact HB.out)) hb)
                  clear BK137
                  clear BK140
                  clear HB
                  have BK137 := n0_
                  have BK140 := n1_
                  have HB := n2_
                  clear n0_ n1_ n2_
                  (try clear hb)
                  (try clear hb2)
                  (try clear hk)
                  (try clear hi)
                  refine hK.out _ _ trivial (fun hHeld => ?_)
                  clear hK K
                  refine norm_ (a' := ?_) ?_ ?_
                  rotate_left
                  · show Act.put _ (some 18) _ = _
                    simp only [Act.put, List.setIfInBounds_toArray, List.set_cons_zero, List.set_cons_succ, i64_w, i32_w]
                    rfl
                  refine pure_ (i := 8) (N := some 19) (v := ?_) (a' := ?_) #[true, true, true, true, true, true, true, true, true, false, false, true, false] rfl rfl (any_of HT_.out (by kernel_rfl)) (fun _ _ _ h => h) (Or.inl ⟨by rfl, ?_⟩) ?_ ?_
                  rotate_left
                  · intro w'
                    go_simp
                    with_reducible rfl
                  rotate_left
                  · simp only [Act.put, List.setIfInBounds_toArray, List.set_cons_zero, List.set_cons_succ, i64_w, i32_w]
                    rfl
                  refine pure_ (i := 9) (N := some 20) (v := ?_) (a' := ?_) #[true, true, true, true, true, true, true, true, true, true, false, true, false] rfl rfl (any_of HT_.out (by kernel_rfl)) (fun _ _ _ h => h) (Or.inl ⟨by rfl, ?_⟩) ?_ ?_
                  rotate_left
                  · intro w'
                    go_simp
                    with_reducible rfl
                  rotate_left
                  · simp only [Act.put, List.setIfInBounds_toArray, List.set_cons_zero, List.set_cons_succ, i64_w, i32_w]
                    rfl
                  refine pure_ (i := 10) (N := some 21) (v := ?_) (a' := ?_) #[true, true, true, true, true, true, true, true, true, true, true, true, false] rfl rfl (any_of HT_.out (by kernel_rfl)) (fun _ _ _ h => h) (Or.inl ⟨by rfl, ?_⟩) ?_ ?_
                  rotate_left
                  · intro w'
                    go_simp
                    with_reducible rfl
                  rotate_left
                  · simp only [Act.put, List.setIfInBounds_toArray, List.set_cons_zero, List.set_cons_succ, i64_w, i32_w]
                    rfl
                  exact norm_ (by simp only [putAll, Act.put, List.setIfInBounds_toArray, List.set_cons_zero, List.set_cons_succ]) (hCont (gb140) _ ⟨(by (with_reducible repeat (first | refine blk_drewN ?_ _ | refine blk_drew ?_ | refine blk_alloc ?_ _)); exact BK137.out), (by (with_reducible repeat (first | refine blk_drewN ?_ _ | refine blk_drew ?_ | refine blk_alloc ?_ _)); exact BK140.out), GW140.out, GE140.out, NB137_140.out, NB140_137.out, (by repeat (first | (with_reducible first | exact HB.out | apply below_alloc | apply pw_below_drewN | apply below_drew1 | refine below_set ?_ GE137.out | refine below_set ?_ GE140.out) | exact HB.out))⟩)
              · skip
                refine box_step ?hg (N := 4) ?hd (cs := #[.int .u16 0, .int .u16 0, .int .u8 0, .int .u8 0, .int .i64 0]) (t := 24) ?hr ?_; (case hd => rfl); (case hg => rfl); (case hr => first | (go_simp; done) | (go_simp; rfl))
                intro gb140 hg w13 hbox hb
                have n0_ := Aside0.mk (blk_below (g := gb137) (o := .cells #[.int .u16 0, .int .u16 0, .int .u8 0, .int .u8 0, .int .i64 0] 24 (0, 0)) (by (with_reducible repeat (first | refine blk_drewN ?_ _ | refine blk_drew ?_ | refine blk_alloc ?_ _)); exact BK137.out) hb)
                have n1_ := Aside0.mk (below_step (by repeat (first | (with_reducible first | exact HB.out | apply below_alloc | apply pw_below_drewN | apply below_drew1 | refine below_set ?_ GE137.out) | exact HB.out)) hb)
                have n2_ := Aside0.mk (hbox)
                have n3_ := Aside0.mk ((by rw [hg]; exact (below_size (by repeat (first | (with_reducible first | exact HB.out | apply below_alloc | apply pw_below_drewN | apply below_drew1 | refine below_set ?_ GE137.out) | exact HB.out))) : w.heap.size ≤ gb140))
                have n4_ := Aside0.mk ((by rw [hg]; exact (below_size (by repeat (first | (with_reducible first | exact HB.out | apply below_alloc | apply pw_below_drewN | apply below_drew1 | refine below_set ?_ GE137.out) | exact HB.out))) : w.heap.size ≤ gb140))
                have n5_ := Aside0.mk ((by rw [hg]; exact Nat.ne_of_lt (blk_lt (g := gb137) (o := .cells #[.int .u16 0, .int .u16 0, .int .u8 0, .int .u8 0, .int .i64 0] 24 (0, 0)) (by (with_reducible repeat (first | refine blk_drewN ?_ _ | refine blk_drew ?_ | refine blk_alloc ?_ _)); exact BK137.out)) : gb137 ≠ gb140))
                have n6_ := Aside0.mk ((by rw [hg]; exact Nat.ne_of_gt (blk_lt (g := gb137) (o := .cells #[.int .u16 0, .int .u16 0, .int .u8 0, .int .u8 0, .int .i64 0] 24 (0, 0)) (by (with_reducible repeat (first | refine blk_drewN ?_ _ | refine blk_drew ?_ | refine blk_alloc ?_ _)); exact BK137.out)) : gb140 ≠ gb137))
                clear BK137
                clear HB
                have BK137 := n0_
                have HB := n1_
                have BK140 := n2_
                have GW140 := n3_
                have GE140 := n4_
                have NB137_140 := n5_
                have NB140_137 := n6_
                clear n0_ n1_ n2_ n3_ n4_ n5_ n6_
                clear hb hbox hg
                refine hK.out _ _ trivial (fun hHeld => ?_)
                clear hK K
                refine norm_ (a' := ?_) ?_ ?_
                rotate_left
                · show Act.put _ (some 4) _ = _
                  simp only [Act.put, List.setIfInBounds_toArray, List.set_cons_zero, List.set_cons_succ, i64_w, i32_w]
                  rfl
                refine one_ (i := 2) (N := some 13) #[true, true, true, false, false, true, true, false, false, false, false, true, false] rfl rfl (one_of HT_.out (by kernel_rfl)) (by decide) (fun K hK => ?_)
                refine goes_ Try.func17 (by kernel_rfl) rfl #[.string (a0.extract 0 4), .int .i64 4] (by rfl) rfl rfl (by (try simp only [List.map_toArray, List.map_cons, List.map_nil]); first | done | rfl | (simp only [List.length_drop, List.length_take]; rfl)) ?_
                with_reducible refine (impl_ReadHex.calls k (a0.extract 0 4) 4 t138 _ A5.out).mono ?_
                rintro e w14 ⟨rfl, hb⟩
                refine ⟨_, rfl, ?_⟩
                have n0_ := Aside0.mk (blk_below (g := gb137) (o := .cells #[.int .u16 0, .int .u16 0, .int .u8 0, .int .u8 0, .int .i64 0] 24 (0, 0)) (by (with_reducible repeat (first | refine blk_drewN ?_ _ | refine blk_drew ?_ | refine blk_alloc ?_ _)); exact BK137.out) hb)
                have n1_ := Aside0.mk (blk_below (g := gb140) (o := .cells #[.int .u16 0, .int .u16 0, .int .u8 0, .int .u8 0, .int .i64 0] 24 (0, 0)) (by (with_reducible repeat (first | refine blk_drewN ?_ _ | refine blk_drew ?_ | refine blk_alloc ?_ _)); exact BK140.out) hb)
                have n2_ := Aside0.mk (below_step (by repeat (first | (with_reducible first | exact HB.out | apply below_alloc | apply pw_below_drewN | apply below_drew1 | refine below_set ?_ GE137.out | refine below_set ?_ GE140.out) | exact HB.out)) hb)
                clear BK137
                clear BK140
                clear HB
                have BK137 := n0_
                have BK140 := n1_
                have HB := n2_
                clear n0_ n1_ n2_
                (try clear hb)
                (try clear hb2)
                (try clear hk)
                (try clear hi)
                refine hK.out _ _ trivial (fun hHeld => ?_)
                clear hK K
                refine norm_ (a' := ?_) ?_ ?_
                rotate_left
                · show Act.put _ (some 13) _ = _
                  simp only [Act.put, List.setIfInBounds_toArray, List.set_cons_zero, List.set_cons_succ, i64_w, i32_w]
                  rfl
                refine pure_ (i := 3) (N := some 14) (v := ?_) (a' := ?_) #[true, true, true, true, false, true, true, false, false, false, false, true, false] rfl rfl (any_of HT_.out (by kernel_rfl)) (fun _ _ _ h => h) (Or.inl ⟨by rfl, ?_⟩) ?_ ?_
                rotate_left
                · intro w'
                  go_simp
                  with_reducible rfl
                rotate_left
                · simp only [Act.put, List.setIfInBounds_toArray, List.set_cons_zero, List.set_cons_succ, i64_w, i32_w]
                  rfl
                refine pure_ (i := 4) (N := some 15) (v := ?_) (a' := ?_) #[true, true, true, true, true, true, true, false, false, false, false, true, false] rfl rfl (any_of HT_.out (by kernel_rfl)) (fun _ _ _ h => h) (Or.inl ⟨by rfl, ?_⟩) ?_ ?_
                rotate_left
                · intro w'
                  go_simp
                  with_reducible rfl
                rotate_left
                · simp only [Act.put, List.setIfInBounds_toArray, List.set_cons_zero, List.set_cons_succ, i64_w, i32_w]
                  rfl
                refine one_ (i := 7) (N := some 18) #[true, true, true, true, true, true, true, true, false, false, false, true, false] rfl rfl (one_of HT_.out (by kernel_rfl)) (by decide) (fun K hK => ?_)
                refine goes_ Try.func17 (by kernel_rfl) rfl #[.string (a0.extract 5 9), .int .i64 4] (by rfl) rfl rfl (by (try simp only [List.map_toArray, List.map_cons, List.map_nil]); first | done | rfl | (simp only [List.length_drop, List.length_take]; rfl)) ?_
                with_reducible refine (impl_ReadHex.calls k (a0.extract 5 9) 4 t139 _ A9.out).mono ?_
                rintro e w15 ⟨rfl, hb⟩
                refine ⟨_, rfl, ?_⟩
                have n0_ := Aside0.mk (blk_below (g := gb137) (o := .cells #[.int .u16 0, .int .u16 0, .int .u8 0, .int .u8 0, .int .i64 0] 24 (0, 0)) (by (with_reducible repeat (first | refine blk_drewN ?_ _ | refine blk_drew ?_ | refine blk_alloc ?_ _)); exact BK137.out) hb)
                have n1_ := Aside0.mk (blk_below (g := gb140) (o := .cells #[.int .u16 0, .int .u16 0, .int .u8 0, .int .u8 0, .int .i64 0] 24 (0, 0)) (by (with_reducible repeat (first | refine blk_drewN ?_ _ | refine blk_drew ?_ | refine blk_alloc ?_ _)); exact BK140.out) hb)
                have n2_ := Aside0.mk (below_step (by repeat (first | (with_reducible first | exact HB.out | apply below_alloc | apply pw_below_drewN | apply below_drew1 | refine below_set ?_ GE137.out | refine below_set ?_ GE140.out) | exact HB.out)) hb)
                clear BK137
                clear BK140
                clear HB
                have BK137 := n0_
                have BK140 := n1_
                have HB := n2_
                clear n0_ n1_ n2_
                (try clear hb)
                (try clear hb2)
                (try clear hk)
                (try clear hi)
                refine hK.out _ _ trivial (fun hHeld => ?_)
                clear hK K
                refine norm_ (a' := ?_) ?_ ?_
                rotate_left
                · show Act.put _ (some 18) _ = _
                  simp only [Act.put, List.setIfInBounds_toArray, List.set_cons_zero, List.set_cons_succ, i64_w, i32_w]
                  rfl
                refine pure_ (i := 8) (N := some 19) (v := ?_) (a' := ?_) #[true, true, true, true, true, true, true, true, true, false, false, true, false] rfl rfl (any_of HT_.out (by kernel_rfl)) (fun _ _ _ h => h) (Or.inl ⟨by rfl, ?_⟩) ?_ ?_
                rotate_left
                · intro w'
                  go_simp
                  with_reducible rfl
                rotate_left
                · simp only [Act.put, List.setIfInBounds_toArray, List.set_cons_zero, List.set_cons_succ, i64_w, i32_w]
                  rfl
                refine pure_ (i := 9) (N := some 20) (v := ?_) (a' := ?_) #[true, true, true, true, true, true, true, true, true, true, false, true, false] rfl rfl (any_of HT_.out (by kernel_rfl)) (fun _ _ _ h => h) (Or.inl ⟨by rfl, ?_⟩) ?_ ?_
                rotate_left
                · intro w'
                  go_simp
                  with_reducible rfl
                rotate_left
                · simp only [Act.put, List.setIfInBounds_toArray, List.set_cons_zero, List.set_cons_succ, i64_w, i32_w]
                  rfl
                refine pure_ (i := 10) (N := some 21) (v := ?_) (a' := ?_) #[true, true, true, true, true, true, true, true, true, true, true, true, false] rfl rfl (any_of HT_.out (by kernel_rfl)) (fun _ _ _ h => h) (Or.inl ⟨by rfl, ?_⟩) ?_ ?_
                rotate_left
                · intro w'
                  go_simp
                  with_reducible rfl
                rotate_left
                · simp only [Act.put, List.setIfInBounds_toArray, List.set_cons_zero, List.set_cons_succ, i64_w, i32_w]
                  rfl
                exact norm_ (by simp only [putAll, Act.put, List.setIfInBounds_toArray, List.set_cons_zero, List.set_cons_succ]) (hCont (gb140) _ ⟨(by (with_reducible repeat (first | refine blk_drewN ?_ _ | refine blk_drew ?_ | refine blk_alloc ?_ _)); exact BK137.out), (by (with_reducible repeat (first | refine blk_drewN ?_ _ | refine blk_drew ?_ | refine blk_alloc ?_ _)); exact BK140.out), GW140.out, GE140.out, NB137_140.out, NB140_137.out, (by repeat (first | (with_reducible first | exact HB.out | apply below_alloc | apply pw_below_drewN | apply below_drew1 | refine below_set ?_ GE137.out | refine below_set ?_ GE140.out) | exact HB.out))⟩)
            rintro gb140 w16 ⟨h0_, h1_, h2_, h3_, h4_, h5_, h6_⟩
            have n0_ : Aside0 (w16.heap[gb137]? = some (.cells #[.int .u16 0, .int .u16 0, .int .u8 0, .int .u8 0, .int .i64 0] 24 (0, 0))) := ⟨h0_⟩
            have n1_ : Aside0 (w16.heap[gb140]? = some (.cells #[.int .u16 0, .int .u16 0, .int .u8 0, .int .u8 0, .int .i64 0] 24 (0, 0))) := ⟨h1_⟩
            have n2_ : Aside0 (w.heap.size ≤ gb140) := ⟨h2_⟩
            have n3_ : Aside0 (w.heap.size ≤ gb140) := ⟨h3_⟩
            have n4_ : Aside0 (gb137 ≠ gb140) := ⟨h4_⟩
            have n5_ : Aside0 (gb140 ≠ gb137) := ⟨h5_⟩
            have n6_ : Aside0 (Below w.heap.size w w16) := ⟨h6_⟩
            clear BK137
            clear HB
            clear h0_ h1_ h2_ h3_ h4_ h5_ h6_
            have BK137 := n0_
            have BK140 := n1_
            have GW140 := n2_
            have GE140 := n3_
            have NB137_140 := n4_
            have NB140_137 := n5_
            have HB := n6_
            clear n0_ n1_ n2_ n3_ n4_ n5_ n6_
            have hHeld := trivial
            refine norm_ (a' := ?_) ?_ ?_
            rotate_left
            · simp only [putAll, Act.put, List.setIfInBounds_toArray, List.set_cons_zero, List.set_cons_succ]
              rfl
            refine one_ (i := 12) (N := none) #[true, true, true, true, true, true, true, true, true, true, true, true, true] rfl rfl (one_of HT_.out (by kernel_rfl)) (by decide) (fun K hK => ?_)
            have hs17 : w16.cell? ⟨gb140, 0, none⟩ = some (.int .u16 0) := (blk_cell BK140.out 0).trans rfl
            have hfs17 := blk_frozen BK140.out 0
            have hns17_0 := NB137_140.out
            have hms17_0 := NB140_137.out
            have hs18 : w16.cell? ⟨gb140, 1, none⟩ = some (.int .u16 0) := (blk_cell BK140.out 1).trans rfl
            have hfs18 := blk_frozen BK140.out 1
            have hns18_0 := NB137_140.out
            have hms18_0 := NB140_137.out
            have hs19 : w16.cell? ⟨gb140, 2, none⟩ = some (.int .u8 0) := (blk_cell BK140.out 2).trans rfl
            have hfs19 := blk_frozen BK140.out 2
            have hns19_0 := NB137_140.out
            have hms19_0 := NB140_137.out
            have hs20 : w16.cell? ⟨gb140, 3, none⟩ = some (.int .u8 0) := (blk_cell BK140.out 3).trans rfl
            have hfs20 := blk_frozen BK140.out 3
            have hns20_0 := NB137_140.out
            have hms20_0 := NB140_137.out
            have hs21 : w16.cell? ⟨gb140, 4, none⟩ = some (.int .i64 0) := (blk_cell BK140.out 4).trans rfl
            have hfs21 := blk_frozen BK140.out 4
            have hns21_0 := NB137_140.out
            have hms21_0 := NB140_137.out
            refine skip_ (w1 := ?_) (by rfl) rfl ?_ ?_
            rotate_left
            · go_simp
              rfl
            refine hK.out _ _ trivial (fun hHeld => ?_)
            clear hK K
            refine done_ (done_of HT_.out (by kernel_rfl)) ?_
            try go_wp2_with (first | ((with_reducible refine gate_dst (N := 22) rfl ?_); refine Kd.R_lit (Kd.int .i64) _ 3 ?hg (N := 22) ?hd (xs := ([4, 0] : List Int)) (inner := [.int .i64 4, .int .i64 0]) (ok := fun _ => True) (okp := fun _ => True) ?hr ?hp (fun _ hk => hk) trivial (Below.refl _ _) (Nat.le_refl _) (by simp) ?_; (case hd => rfl); (case hg => rfl); (case hr => first | (go_simp; done) | (go_simp; rfl)); (case hp => exact (Reps.one (show Kd.M (Kd.int .i64) _ _ _ 4 [.int .i64 4] from rfl) (Reps.one (show Kd.M (Kd.int .i64) _ _ _ 0 [.int .i64 0] from rfl) (Reps.none _ _)))); intro v142 w22 ho23 hb hg_ hnew_; clear hg_ hnew_; (first | rw [← Ny141.out] at ho23 | (simp only [Int.reduceToNat] at ho23; rw [← Ny141.out] at ho23)); have n0_ := Aside0.mk (Kd.R_lower ho23 (below_size (by repeat (first | (with_reducible first | exact HB.out | apply below_alloc | apply pw_below_drewN | apply below_drew1 | refine below_set ?_ GE137.out | refine below_set ?_ GE140.out) | exact HB.out)))); have n1_ := Aside0.mk (blk_below (g := gb137) (o := .cells #[.int .u16 0, .int .u16 0, .int .u8 0, .int .u8 0, .int .i64 0] 24 (0, 0)) (by (with_reducible repeat (first | refine blk_drewN ?_ _ | refine blk_drew ?_ | refine blk_alloc ?_ _)); refine blk_far ?_ NB137_140.out _; (with_reducible repeat (first | refine blk_drewN ?_ _ | refine blk_drew ?_ | refine blk_alloc ?_ _)); refine blk_far ?_ NB137_140.out _; (with_reducible repeat (first | refine blk_drewN ?_ _ | refine blk_drew ?_ | refine blk_alloc ?_ _)); refine blk_far ?_ NB137_140.out _; (with_reducible repeat (first | refine blk_drewN ?_ _ | refine blk_drew ?_ | refine blk_alloc ?_ _)); refine blk_far ?_ NB137_140.out _; (with_reducible repeat (first | refine blk_drewN ?_ _ | refine blk_drew ?_ | refine blk_alloc ?_ _)); refine blk_far ?_ NB137_140.out _; (with_reducible repeat (first | refine blk_drewN ?_ _ | refine blk_drew ?_ | refine blk_alloc ?_ _)); exact BK137.out) hb); have n2_ := Aside0.mk (blk_below (g := gb140) (o := .cells #[.int .u16 (IntKind.u16.wrap (ji6)), .int .u16 (IntKind.u16.wrap (ji10)), .int .u8 0, .int .u8 0, .int .i64 2] 24 (0, 0)) (by (with_reducible repeat (first | refine blk_drewN ?_ _ | refine blk_drew ?_ | refine blk_alloc ?_ _)); refine blk_put (cs := #[.int .u16 (IntKind.u16.wrap (ji6)), .int .u16 (IntKind.u16.wrap (ji10)), .int .u8 0, .int .u8 0, .int .i64 0]) ?_ 4 _ rfl; (with_reducible repeat (first | refine blk_drewN ?_ _ | refine blk_drew ?_ | refine blk_alloc ?_ _)); refine blk_put (cs := #[.int .u16 (IntKind.u16.wrap (ji6)), .int .u16 (IntKind.u16.wrap (ji10)), .int .u8 0, .int .u8 0, .int .i64 0]) ?_ 3 _ rfl; (with_reducible repeat (first | refine blk_drewN ?_ _ | refine blk_drew ?_ | refine blk_alloc ?_ _)); refine blk_put (cs := #[.int .u16 (IntKind.u16.wrap (ji6)), .int .u16 (IntKind.u16.wrap (ji10)), .int .u8 0, .int .u8 0, .int .i64 0]) ?_ 2 _ rfl; (with_reducible repeat (first | refine blk_drewN ?_ _ | refine blk_drew ?_ | refine blk_alloc ?_ _)); refine blk_put (cs := #[.int .u16 (IntKind.u16.wrap (ji6)), .int .u16 0, .int .u8 0, .int .u8 0, .int .i64 0]) ?_ 1 _ rfl; (with_reducible repeat (first | refine blk_drewN ?_ _ | refine blk_drew ?_ | refine blk_alloc ?_ _)); refine blk_put (cs := #[.int .u16 0, .int .u16 0, .int .u8 0, .int .u8 0, .int .i64 0]) ?_ 0 _ rfl; (with_reducible repeat (first | refine blk_drewN ?_ _ | refine blk_drew ?_ | refine blk_alloc ?_ _)); exact BK140.out) hb); have n3_ := Aside0.mk (below_step (by repeat (first | (with_reducible first | exact HB.out | apply below_alloc | apply pw_below_drewN | apply below_drew1 | refine below_set ?_ GE137.out | refine below_set ?_ GE140.out) | exact HB.out)) hb); clear BK137; clear BK140; clear HB; have HO143 := n0_; have BK137 := n1_; have BK140 := n2_; have HB := n3_; clear n0_ n1_ n2_ n3_; clear hb ho23; obtain ⟨Ao24, co24, eo24⟩ := Kd.R_slice HO143.out; subst eo24))
            go_loopg [24] k (fun kq v24 w' => ∃ (x24_1 : Int) (x141002_1 : Int) (x141003_1 : Int), v24 = .int .i64 x24_1 ∧ Aside0 (impl_ReadRule.l0 kq a0 y141 (y141.length : Int) x24_1 (IntKind.u16.wrap (ji6)) (IntKind.u16.wrap (ji10)) x141002_1 x141003_1 2 = some (r1, r2, r3, r4, r5, r6)) ∧ Aside0 (kq ≤ k) ∧ Aside0 (Kd.R (Kd.int .i64) 3 w' w.heap.size (fun _ => True) (.slice Ao24 y141.length co24) y141) ∧ Aside0 (w'.heap[gb137]? = some (.cells #[.int .u16 0, .int .u16 0, .int .u8 0, .int .u8 0, .int .i64 0] 24 (0, 0))) ∧ Aside0 (w'.heap[gb140]? = some (.cells #[.int .u16 (IntKind.u16.wrap (ji6)), .int .u16 (IntKind.u16.wrap (ji10)), .int .u8 x141002_1, .int .u8 x141003_1, .int .i64 2] 24 (0, 0))) ∧ Aside0 (Below w.heap.size w w'))
            case atStart => exact ⟨(0), (0), (0), (by first | rfl | (simp; done) | (simp [*]; done)), H', ⟨Nat.le_refl _⟩, ⟨by (with_reducible repeat (first | apply Kd.R_alloc | apply Kd.R_drewN | apply Kd.R_drew)); exact HO143.out⟩, ⟨by (with_reducible repeat (first | refine blk_drewN ?_ _ | refine blk_drew ?_ | refine blk_alloc ?_ _)); exact BK137.out⟩, ⟨by (with_reducible repeat (first | refine blk_drewN ?_ _ | refine blk_drew ?_ | refine blk_alloc ?_ _)); exact BK140.out⟩, ⟨by repeat (first | (with_reducible first | exact HB.out | apply below_alloc | apply pw_below_drewN | apply below_drew1 | refine below_set ?_ GE137.out | refine below_set ?_ GE140.out) | exact HB.out)⟩⟩
            case round =>
              clear H'
              try clear c1
              try clear c2
              try clear c2b0
              try clear c2b1
              try clear p2
              try clear c3
              try clear c3b0
              try clear c3b1
              try clear c4
              try clear c4b0
              try clear c4b1
              try clear c6
              try clear c7
              try clear c7b0
              try clear c7b1
              try clear c8
              try clear c8b0
              try clear c8b1
              try clear c17
              obtain ⟨x24_1, x141002_1, x141003_1, rfl, HA, HK1, HO_22, BK137, BK140, HB⟩ := hrel
              cases gk with
              | zero => exact absurd HA.out (by simp [impl_ReadRule.l0])
              | succ k1 =>
                have H := HA.out
                clear HA
                simp only [impl_ReadRule.l0] at H
                by_cases c25 : x24_1 < (y141.length : Int)
                · rw [if_pos c25] at H
                  have c25b0 : decide (x24_1 < (y141.length : Int)) = true := decide_eq_true c25
                  clear c25
                  by_cases c26 : 0 ≤ x24_1
                  · rw [if_pos c26] at H
                    have c26b0 : decide (0 ≤ x24_1) = true := decide_eq_true c26
                    clear c26
                    by_cases c27 : x24_1 < (y141.length : Int)
                    · rw [if_pos c27] at H
                      have c27b0 : decide (x24_1 < (y141.length : Int)) = true := decide_eq_true c27
                      clear c27
                      obtain ⟨ji28, hji28⟩ : ∃ j_ : Int, (wrap64 (10 + x24_1)) = j_ := ⟨_, rfl⟩
                      replace H : (if 0 ≤ (ji28) then (if (ji28) < (a0.size : Int) then (if (bt a0 (ji28)) = 63 then (impl_ReadRule.l0 k1 a0 y141 (y141.length : Int) (wrap64 (x24_1 + 1)) (IntKind.u16.wrap (ji6)) (IntKind.u16.wrap (ji10)) x141002_1 x141003_1 2) else (if 0 ≤ (rd y141 x24_1) then (if (ji28) ≤ (wrap64 (11 + x24_1)) then (if (wrap64 (11 + x24_1)) ≤ (a0.size : Int) then ((impl_ReadHex.f k1 (a0.extract ((ji28) : Int).toNat ((wrap64 (11 + x24_1)) : Int).toNat) 1).bind fun t145 => (impl_ReadRule.l0 k1 a0 y141 (y141.length : Int) (wrap64 (x24_1 + 1)) (IntKind.u16.wrap (ji6)) (IntKind.u16.wrap (ji10)) (Go.bits .or .u8 x141002_1 (shl .u8 15 (rd y141 x24_1))) (Go.bits .or .u8 x141003_1 (shl .u8 ((mx 0 t145) % 256) (rd y141 x24_1))) 2)) else (none)) else (none)) else (none))) else (none)) else (none)) = some (r1, r2, r3, r4, r5, r6) := by first | (rw [hji28] at H; exact H) | (simp only [hji28] at H ⊢; exact H)
                      have hji28w : (IntKind.i64.wrap (10 + x24_1)) = ji28 := (i64_w _).trans hji28
                      by_cases c29 : 0 ≤ (ji28)
                      · rw [if_pos c29] at H
                        have c29b0 : decide (0 ≤ (ji28)) = true := decide_eq_true c29
                        clear c29
                        by_cases c30 : (ji28) < (a0.size : Int)
                        · rw [if_pos c30] at H
                          have c30b0 : decide ((ji28) < (a0.size : Int)) = true := decide_eq_true c30
                          clear c30
                          by_cases c32 : (bt a0 (ji28)) = 63
                          · rw [if_pos c32] at H
                            have c32b0 : ((bt a0 (ji28)) == 63) = true := beq_iff_eq.mpr c32
                            have c32b1 : ((bt a0 (ji28)) != 63) = false := bne_eq_false_iff_eq.mpr c32
                            clear c32
                            have H' := Aside0.mk H
                            clear H
                            have p144 : 0 ≤ (x24_1 : Int) := of_decide_eq_true (by first | (with_reducible assumption) | assumption)
                            have q144 : x24_1 < (y141.length : Int) := of_decide_eq_true (by first | (with_reducible assumption) | assumption)
                            obtain ⟨ad144, e144, hx144_0⟩ := Kd.at_int (Kd.R_reads' HO_22.out).2.2 x24_1 p144 q144
                            cases e144
                            replace p144 := eq_true p144
                            replace q144 := eq_true q144
                            have p31 : 0 ≤ ((ji28) : Int) := of_decide_eq_true (by first | (with_reducible assumption) | assumption)
                            have q31 : (ji28) < (a0.size : Int) := of_decide_eq_true (by first | (with_reducible assumption) | assumption)
                            have hx31 := bt_at a0 (ji28)
                            replace p31 := eq_true p31
                            replace q31 := eq_true q31
                            go_wp2
                            go_roundg k1
                            case measure => have := HK1.out; omega
                            case rel => exact ⟨(wrap64 (x24_1 + 1)), (x141002_1), (x141003_1), (by first | rfl | (simp; done) | (simp [*]; done)), H', ⟨by have := HK1.out; omega⟩, ⟨by (with_reducible repeat (first | apply Kd.R_alloc | apply Kd.R_drewN | apply Kd.R_drew)); exact HO_22.out⟩, ⟨by (with_reducible repeat (first | refine blk_drewN ?_ _ | refine blk_drew ?_ | refine blk_alloc ?_ _)); exact BK137.out⟩, ⟨by (with_reducible repeat (first | refine blk_drewN ?_ _ | refine blk_drew ?_ | refine blk_alloc ?_ _)); exact BK140.out⟩, ⟨by repeat (first | (with_reducible first | exact HB.out | apply below_alloc | apply pw_below_drewN | apply below_drew1 | refine below_set ?_ GE137.out | refine below_set ?_ GE140.out) | exact HB.out)⟩⟩
                          · rw [if_neg c32] at H
                            have c32b0 : ((bt a0 (ji28)) == 63) = false := beq_eq_false_iff_ne.mpr c32
                            have c32b1 : ((bt a0 (ji28)) != 63) = true := bne_iff_ne.mpr c32
                            by_cases c33 : 0 ≤ (rd y141 x24_1)
                            · rw [if_pos c33] at H
                              have c33b0 := eq_true c33
                              have c33b1 : decide (0 ≤ (rd y141 x24_1)) = true := decide_eq_true c33
                              clear c33
                              obtain ⟨ji34, hji34⟩ : ∃ j_ : Int, (shl .u8 15 (rd y141 x24_1)) = j_ := ⟨_, rfl⟩
                              replace H : (if (ji28) ≤ (wrap64 (11 + x24_1)) then (if (wrap64 (11 + x24_1)) ≤ (a0.size : Int) then ((impl_ReadHex.f k1 (a0.extract ((ji28) : Int).toNat ((wrap64 (11 + x24_1)) : Int).toNat) 1).bind fun t145 => (impl_ReadRule.l0 k1 a0 y141 (y141.length : Int) (wrap64 (x24_1 + 1)) (IntKind.u16.wrap (ji6)) (IntKind.u16.wrap (ji10)) (Go.bits .or .u8 x141002_1 (ji34)) (Go.bits .or .u8 x141003_1 (shl .u8 ((mx 0 t145) % 256) (rd y141 x24_1))) 2)) else (none)) else (none)) = some (r1, r2, r3, r4, r5, r6) := by first | (rw [hji34] at H; exact H) | (simp only [hji34] at H ⊢; exact H)
                              have hji34_ : (IntKind.u8.wrap (15 * 2 ^ min (rd y141 x24_1).toNat 8)) = ji34 := hji34
                              have hji34z : (rd y141 x24_1) ≤ 8 → (IntKind.u8.wrap (15 * 2 ^ (rd y141 x24_1).toNat)) = ji34 := shl_small hji34
                              have c35b0 := eq_true (of_decide_eq_true (by first | (with_reducible assumption) | assumption) : 0 ≤ (ji28))
                              by_cases c36 : (ji28) ≤ (wrap64 (11 + x24_1))
                              · rw [if_pos c36] at H
                                have c36b0 := eq_true c36
                                have c36b1 : decide ((ji28) ≤ (wrap64 (11 + x24_1))) = true := decide_eq_true c36
                                by_cases c37 : (wrap64 (11 + x24_1)) ≤ (a0.size : Int)
                                · rw [if_pos c37] at H
                                  have c37b0 := eq_true c37
                                  have c37b1 : decide ((wrap64 (11 + x24_1)) ≤ (a0.size : Int)) = true := decide_eq_true c37
                                  replace H := Option.bind_eq_some_iff.mp H
                                  obtain ⟨t145, A380, H⟩ := H
                                  replace H : (impl_ReadRule.l0 k1 a0 y141 (y141.length : Int) (wrap64 (x24_1 + 1)) (IntKind.u16.wrap (ji6)) (IntKind.u16.wrap (ji10)) (Go.bits .or .u8 x141002_1 (ji34)) (Go.bits .or .u8 x141003_1 (shl .u8 ((mx 0 t145) % 256) (rd y141 x24_1))) 2) = some (r1, r2, r3, r4, r5, r6) := H
                                  have A38 := Aside0.mk A380
                                  clear A380
                                  obtain ⟨ji39, hji39⟩ : ∃ j_ : Int, (mx 0 t145) = j_ := ⟨_, rfl⟩
                                  replace H : (impl_ReadRule.l0 k1 a0 y141 (y141.length : Int) (wrap64 (x24_1 + 1)) (IntKind.u16.wrap (ji6)) (IntKind.u16.wrap (ji10)) (Go.bits .or .u8 x141002_1 (ji34)) (Go.bits .or .u8 x141003_1 (shl .u8 ((ji39) % 256) (rd y141 x24_1))) 2) = some (r1, r2, r3, r4, r5, r6) := by first | (rw [hji39] at H; exact H) | (simp only [hji39] at H ⊢; exact H)
                                  (try rw [hji39] at A38)
                                  (try (have hji39l : 0 ≤ ji39 := by (rw [← hji39]; unfold mx; (repeat' split) <;> omega)))
                                  (try (have hji39m : 0 ≤ ji39 := by omega))
                                  have hji39_ : (if 0 < t145 then t145 else 0) = ji39 := hji39
                                  have c40b0 := eq_true (of_decide_eq_true (by first | (with_reducible assumption) | assumption) : 0 ≤ (rd y141 x24_1))
                                  obtain ⟨ji41, hji41⟩ : ∃ j_ : Int, (shl .u8 ((ji39) % 256) (rd y141 x24_1)) = j_ := ⟨_, rfl⟩
                                  replace H : (impl_ReadRule.l0 k1 a0 y141 (y141.length : Int) (wrap64 (x24_1 + 1)) (IntKind.u16.wrap (ji6)) (IntKind.u16.wrap (ji10)) (Go.bits .or .u8 x141002_1 (ji34)) (Go.bits .or .u8 x141003_1 (ji41)) 2) = some (r1, r2, r3, r4, r5, r6) := by first | (rw [hji41] at H; exact H) | (simp only [hji41] at H ⊢; exact H)
                                  (try rw [hji41] at A38)
                                  have hji41_ : (IntKind.u8.wrap (((ji39) % 256) * 2 ^ min (rd y141 x24_1).toNat 8)) = ji41 := hji41
                                  have hji41z : (rd y141 x24_1) ≤ 8 → (IntKind.u8.wrap (((ji39) % 256) * 2 ^ (rd y141 x24_1).toNat)) = ji41 := shl_small hji41
                                  have H' := Aside0.mk H
                                  clear H
                                  have p144 : 0 ≤ (x24_1 : Int) := of_decide_eq_true (by first | (with_reducible assumption) | assumption)
                                  have q144 : x24_1 < (y141.length : Int) := of_decide_eq_true (by first | (with_reducible assumption) | assumption)
                                  obtain ⟨ad144, e144, hx144_0⟩ := Kd.at_int (Kd.R_reads' HO_22.out).2.2 x24_1 p144 q144
                                  cases e144
                                  replace p144 := eq_true p144
                                  replace q144 := eq_true q144
                                  have p31 : 0 ≤ ((ji28) : Int) := of_decide_eq_true (by first | (with_reducible assumption) | assumption)
                                  have q31 : (ji28) < (a0.size : Int) := of_decide_eq_true (by first | (with_reducible assumption) | assumption)
                                  have hx31 := bt_at a0 (ji28)
                                  replace p31 := eq_true p31
                                  replace q31 := eq_true q31
                                  try go_wp2
                                  have n0_ := Aside0.mk (Kd.R_drew HO_22.out)
                                  have n1_ := Aside0.mk (blk_drew BK137.out)
                                  have n2_ := Aside0.mk (blk_drew BK140.out)
                                  have n3_ := Aside0.mk (below_drew1 HB.out)
                                  clear HO_22
                                  clear BK137
                                  clear BK140
                                  clear HB
                                  have HO_22 := n0_
                                  have BK137 := n1_
                                  have BK140 := n2_
                                  have HB := n3_
                                  clear n0_ n1_ n2_ n3_
                                  refine start_ (n := 7) (S := fun w' => w'.cell? ⟨gb140, 0, none⟩ = some (.int .u16 (IntKind.u16.wrap (ji6))) ∧ w'.cell? ⟨gb140, 1, none⟩ = some (.int .u16 (IntKind.u16.wrap (ji10))) ∧ w'.cell? ⟨gb140, 2, none⟩ = some (.int .u8 x141002_1) ∧ w'.cell? ⟨gb140, 3, none⟩ = some (.int .u8 x141003_1) ∧ w'.cell? ⟨gb140, 4, none⟩ = some (.int .i64 2)) (ds := [6]) #[false, false, false, false, false, false, false] (by kernel_rfl) rfl rfl ⟨(blk_cell BK140.out 0).trans rfl, (blk_cell BK140.out 1).trans rfl, (blk_cell BK140.out 2).trans rfl, (blk_cell BK140.out 3).trans rfl, (blk_cell BK140.out 4).trans rfl⟩ (fun hHeld => ?_)
                                  generalize wr.drew = w42 at HO_22 BK137 BK140 HB hHeld ⊢
                                  refine pure_ (i := 0) (N := some 34) (v := ?_) (a' := ?_) #[true, false, false, false, false, false, false] rfl rfl (by kernel_rfl) (fun _ _ _ h => h) (Or.inl ⟨by rfl, ?_⟩) ?_ ?_
                                  rotate_left
                                  · intro w'
                                    go_simp
                                    with_reducible rfl
                                  rotate_left
                                  · simp only [Act.put, List.setIfInBounds_toArray, List.set_cons_zero, List.set_cons_succ, i64_w, i32_w]
                                    rfl
                                  refine pure_ (i := 2) (N := some 36) (v := ?_) (a' := ?_) #[true, false, true, false, false, false, false] rfl rfl (by kernel_rfl) (fun _ _ _ h => h) (Or.inl ⟨by rfl, ?_⟩) ?_ ?_
                                  rotate_left
                                  · intro w'
                                    go_simp
                                    with_reducible rfl
                                  rotate_left
                                  · simp only [Act.put, List.setIfInBounds_toArray, List.set_cons_zero, List.set_cons_succ, i64_w, i32_w]
                                    rfl
                                  refine pure_ (i := 3) (N := some 37) (v := ?_) (a' := ?_) #[true, false, true, true, false, false, false] rfl rfl (by kernel_rfl) (fun _ _ _ h => h) (Or.inl ⟨by rfl, ?_⟩) ?_ ?_
                                  rotate_left
                                  · intro w'
                                    go_simp
                                    with_reducible rfl
                                  rotate_left
                                  · simp only [Act.put, List.setIfInBounds_toArray, List.set_cons_zero, List.set_cons_succ, i64_w, i32_w]
                                    rfl
                                  refine take_ (i := 1) (N := some 35) (v := ?_) (a' := ?_) #[true, true, true, true, false, false, false] rfl rfl (by kernel_rfl) (fun _ _ _ h => h) (Or.inl ⟨by rfl, ?_⟩) hHeld ?_ ?_
                                  rotate_left
                                  · rintro w' ⟨s0, s1, s2, s3, s4⟩
                                    go_simp
                                    with_reducible rfl
                                  rotate_left
                                  · simp only [Act.put, List.setIfInBounds_toArray, List.set_cons_zero, List.set_cons_succ, i64_w, i32_w]
                                    rfl
                                  refine pure_ (i := 4) (N := some 38) (v := ?_) (a' := ?_) #[true, true, true, true, true, false, false] rfl rfl (by kernel_rfl) (fun _ _ _ h => h) (Or.inl ⟨by rfl, ?_⟩) ?_ ?_
                                  rotate_left
                                  · intro w'
                                    go_simp
                                    with_reducible rfl
                                  rotate_left
                                  · simp only [Act.put, List.setIfInBounds_toArray, List.set_cons_zero, List.set_cons_succ, i64_w, i32_w]
                                    rfl
                                  refine pure_ (i := 5) (N := some 39) (v := ?_) (a' := ?_) #[true, true, true, true, true, true, false] rfl rfl (by kernel_rfl) (fun _ _ _ h => h) (Or.inl ⟨by rfl, ?_⟩) ?_ ?_
                                  rotate_left
                                  · intro w'
                                    go_simp
                                    with_reducible rfl
                                  rotate_left
                                  · simp only [Act.put, List.setIfInBounds_toArray, List.set_cons_zero, List.set_cons_succ, i64_w, i32_w]
                                    rfl
                                  refine last_ (i := 6) (N := none) #[true, true, true, true, true, true, true] rfl rfl (by kernel_rfl) (by decide) (fun K hK => ?_)
                                  have hs43 : w42.cell? ⟨gb140, 2, none⟩ = some (.int .u8 x141002_1) := (blk_cell BK140.out 2).trans rfl
                                  have hfs43 := blk_frozen BK140.out 2
                                  have hns43_0 := NB137_140.out
                                  have hms43_0 := NB140_137.out
                                  refine skip_ (w1 := ?_) (by rfl) rfl ?_ ?_
                                  rotate_left
                                  · go_simp
                                    rfl
                                  refine hK.out _ _ ?_
                                  clear hK K
                                  refine done_ (by kernel_rfl) ?_
                                  try go_wp2
                                  have n0_ : Aside0 (Kd.R (Kd.int .i64) 3 (w42.setCell ⟨gb140, 2, none⟩ (.int .u8 (Go.bits .or .u8 x141002_1 (ji34)))) w.heap.size (fun _ => True) (.slice (some ad144) y141.length co24) y141) := ⟨by (with_reducible repeat (first | apply Kd.R_alloc | apply Kd.R_drewN | apply Kd.R_drew)); exact Kd.R_mono (Kd.R_far (p := ⟨gb140, 2, none⟩) (Kd.R_types HO_22.out BK140.out (by decide)) (fun _ hk => hk.2) (.int .u8 (Go.bits .or .u8 x141002_1 (ji34)))) (fun _ hk => trivial)⟩
                                  have n1_ : Aside0 ((w42.setCell ⟨gb140, 2, none⟩ (.int .u8 (Go.bits .or .u8 x141002_1 (ji34)))).heap[gb137]? = some (.cells #[.int .u16 0, .int .u16 0, .int .u8 0, .int .u8 0, .int .i64 0] 24 (0, 0))) := ⟨by (with_reducible repeat (first | refine blk_drewN ?_ _ | refine blk_drew ?_ | refine blk_alloc ?_ _)); refine blk_far ?_ NB137_140.out _; (with_reducible repeat (first | refine blk_drewN ?_ _ | refine blk_drew ?_ | refine blk_alloc ?_ _)); exact BK137.out⟩
                                  have n2_ : Aside0 ((w42.setCell ⟨gb140, 2, none⟩ (.int .u8 (Go.bits .or .u8 x141002_1 (ji34)))).heap[gb140]? = some (.cells #[.int .u16 (IntKind.u16.wrap (ji6)), .int .u16 (IntKind.u16.wrap (ji10)), .int .u8 (Go.bits .or .u8 x141002_1 (ji34)), .int .u8 x141003_1, .int .i64 2] 24 (0, 0))) := ⟨by (with_reducible repeat (first | refine blk_drewN ?_ _ | refine blk_drew ?_ | refine blk_alloc ?_ _)); refine blk_put (cs := #[.int .u16 (IntKind.u16.wrap (ji6)), .int .u16 (IntKind.u16.wrap (ji10)), .int .u8 x141002_1, .int .u8 x141003_1, .int .i64 2]) ?_ 2 _ rfl; (with_reducible repeat (first | refine blk_drewN ?_ _ | refine blk_drew ?_ | refine blk_alloc ?_ _)); exact BK140.out⟩
                                  have n3_ : Aside0 (Below w.heap.size w (w42.setCell ⟨gb140, 2, none⟩ (.int .u8 (Go.bits .or .u8 x141002_1 (ji34))))) := ⟨by repeat (first | (with_reducible first | exact HB.out | apply below_alloc | apply pw_below_drewN | apply below_drew1 | refine below_set ?_ GE137.out | refine below_set ?_ GE140.out) | exact HB.out)⟩
                                  (try clear HO_22)
                                  (try clear BK137)
                                  (try clear BK140)
                                  (try clear HB)
                                  generalize (w42.setCell ⟨gb140, 2, none⟩ (.int .u8 (Go.bits .or .u8 x141002_1 (ji34)))) = w44 at n0_ n1_ n2_ n3_ ⊢
                                  have HO_22 := n0_
                                  have BK137 := n1_
                                  have BK140 := n2_
                                  have HB := n3_
                                  clear n0_ n1_ n2_ n3_
                                  have n0_ := Aside0.mk (Kd.R_drew HO_22.out)
                                  have n1_ := Aside0.mk (blk_drew BK137.out)
                                  have n2_ := Aside0.mk (blk_drew BK140.out)
                                  have n3_ := Aside0.mk (below_drew1 HB.out)
                                  clear HO_22
                                  clear BK137
                                  clear BK140
                                  clear HB
                                  have HO_22 := n0_
                                  have BK137 := n1_
                                  have BK140 := n2_
                                  have HB := n3_
                                  clear n0_ n1_ n2_ n3_
                                  refine start_ (n := 16) (S := fun w' => w'.cell? ⟨gb140, 0, none⟩ = some (.int .u16 (IntKind.u16.wrap (ji6))) ∧ w'.cell? ⟨gb140, 1, none⟩ = some (.int .u16 (IntKind.u16.wrap (ji10))) ∧ w'.cell? ⟨gb140, 2, none⟩ = some (.int .u8 (Go.bits .or .u8 x141002_1 (ji34))) ∧ w'.cell? ⟨gb140, 3, none⟩ = some (.int .u8 x141003_1) ∧ w'.cell? ⟨gb140, 4, none⟩ = some (.int .i64 2)) (ds := [15]) #[false, false, false, false, false, false, false, false, false, false, false, false, false, false, false, false] (by kernel_rfl) rfl rfl ⟨(blk_cell BK140.out 0).trans rfl, (blk_cell BK140.out 1).trans rfl, (blk_cell BK140.out 2).trans rfl, (blk_cell BK140.out 3).trans rfl, (blk_cell BK140.out 4).trans rfl⟩ (fun hHeld => ?_); refine with_tabW impl_ReadRule.tab9 impl_ReadRule.bits9 (fun HT_ HW_ => ?_)
                                  generalize w44.drew = w45 at HO_22 BK137 BK140 HB hHeld ⊢
                                  refine pure_ (i := 0) (N := some 40) (v := ?_) (a' := ?_) #[true, false, false, false, false, false, false, false, false, false, false, false, false, false, false, false] rfl rfl (any_of HT_.out (by kernel_rfl)) (fun _ _ _ h => h) (Or.inl ⟨by rfl, ?_⟩) ?_ ?_
                                  rotate_left
                                  · intro w'
                                    go_simp
                                    with_reducible rfl
                                  rotate_left
                                  · simp only [Act.put, List.setIfInBounds_toArray, List.set_cons_zero, List.set_cons_succ, i64_w, i32_w]
                                    rfl
                                  refine pure_ (i := 2) (N := some 42) (v := ?_) (a' := ?_) #[true, false, true, false, false, false, false, false, false, false, false, false, false, false, false, false] rfl rfl (any_of HT_.out (by kernel_rfl)) (fun _ _ _ h => h) (Or.inl ⟨by rfl, ?_⟩) ?_ ?_
                                  rotate_left
                                  · intro w'
                                    go_simp
                                    with_reducible rfl
                                  rotate_left
                                  · simp only [Act.put, List.setIfInBounds_toArray, List.set_cons_zero, List.set_cons_succ, i64_w, i32_w]
                                    rfl
                                  refine pure_ (i := 3) (N := some 43) (v := ?_) (a' := ?_) #[true, false, true, true, false, false, false, false, false, false, false, false, false, false, false, false] rfl rfl (any_of HT_.out (by kernel_rfl)) (fun _ _ _ h => h) (Or.inl ⟨by rfl, ?_⟩) ?_ ?_
                                  rotate_left
                                  · intro w'
                                    go_simp
                                    with_reducible rfl
                                  rotate_left
                                  · simp only [Act.put, List.setIfInBounds_toArray, List.set_cons_zero, List.set_cons_succ, i64_w, i32_w]
                                    rfl
                                  refine pure_ (i := 4) (N := some 44) (v := ?_) (a' := ?_) #[true, false, true, true, true, false, false, false, false, false, false, false, false, false, false, false] rfl rfl (any_of HT_.out (by kernel_rfl)) (fun _ _ _ h => h) (Or.inl ⟨by rfl, ?_⟩) ?_ ?_
                                  rotate_left
                                  · intro w'
                                    go_simp
                                    with_reducible rfl
                                  rotate_left
                                  · simp only [Act.put, List.setIfInBounds_toArray, List.set_cons_zero, List.set_cons_succ, i64_w, i32_w]
                                    rfl
                                  refine pure_ (i := 5) (N := some 45) (v := ?_) (a' := ?_) #[true, false, true, true, true, true, false, false, false, false, false, false, false, false, false, false] rfl rfl (any_of HT_.out (by kernel_rfl)) (fun _ _ _ h => h) (Or.inl ⟨by rfl, ?_⟩) ?_ ?_
                                  rotate_left
                                  · intro w'
                                    go_simp
                                    with_reducible rfl
                                  rotate_left
                                  · simp only [Act.put, List.setIfInBounds_toArray, List.set_cons_zero, List.set_cons_succ, i64_w, i32_w]
                                    rfl
                                  refine pure_ (i := 6) (N := some 46) (v := ?_) (a' := ?_) #[true, false, true, true, true, true, true, false, false, false, false, false, false, false, false, false] rfl rfl (any_of HT_.out (by kernel_rfl)) (fun _ _ _ h => h) (Or.inl ⟨by rfl, ?_⟩) ?_ ?_
                                  rotate_left
                                  · intro w'
                                    go_simp
                                    with_reducible rfl
                                  rotate_left
                                  · simp only [Act.put, List.setIfInBounds_toArray, List.set_cons_zero, List.set_cons_succ, i64_w, i32_w]
                                    rfl
                                  refine pure_ (i := 7) (N := some 47) (v := ?_) (a' := ?_) #[true, false, true, true, true, true, true, true, false, false, false, false, false, false, false, false] rfl rfl (any_of HT_.out (by kernel_rfl)) (fun _ _ _ h => h) (Or.inl ⟨by rfl, ?_⟩) ?_ ?_
                                  rotate_left
                                  · intro w'
                                    go_simp
                                    with_reducible rfl
                                  rotate_left
                                  · simp only [Act.put, List.setIfInBounds_toArray, List.set_cons_zero, List.set_cons_succ, i64_w, i32_w]
                                    rfl
                                  refine pure_ (i := 11) (N := some 51) (v := ?_) (a' := ?_) #[true, false, true, true, true, true, true, true, false, false, false, true, false, false, false, false] rfl rfl (any_of HT_.out (by kernel_rfl)) (fun _ _ _ h => h) (Or.inl ⟨by rfl, ?_⟩) ?_ ?_
                                  rotate_left
                                  · intro w'
                                    go_simp
                                    with_reducible rfl
                                  rotate_left
                                  · simp only [Act.put, List.setIfInBounds_toArray, List.set_cons_zero, List.set_cons_succ, i64_w, i32_w]
                                    rfl
                                  refine take_ (i := 1) (N := some 41) (v := ?_) (a' := ?_) #[true, true, true, true, true, true, true, true, false, false, false, true, false, false, false, false] rfl rfl (take_ofW HT_.out HW_.out (by kernel_rfl)) (fun _ _ _ h => h) (Or.inl ⟨by rfl, ?_⟩) hHeld ?_ ?_
                                  rotate_left
                                  · rintro w' ⟨s0, s1, s2, s3, s4⟩
                                    go_simp
                                    with_reducible rfl
                                  rotate_left
                                  · simp only [Act.put, List.setIfInBounds_toArray, List.set_cons_zero, List.set_cons_succ, i64_w, i32_w]
                                    rfl
                                  refine one_ (i := 8) (N := some 48) #[true, true, true, true, true, true, true, true, true, false, false, true, false, false, false, false] rfl rfl (one_of HT_.out (by kernel_rfl)) (by decide) (fun K hK => ?_)
                                  refine goes_ Try.func17 (by kernel_rfl) rfl #[.string (a0.extract ((ji28) : Int).toNat ((wrap64 (11 + x24_1)) : Int).toNat), .int .i64 1] (by rfl) rfl rfl (by (try simp only [List.map_toArray, List.map_cons, List.map_nil]); first | done | (simp only [hji28]; rfl) | rfl | (simp only [List.length_drop, List.length_take]; rfl)) ?_
                                  with_reducible refine (impl_ReadHex.calls k1 (a0.extract ((ji28) : Int).toNat ((wrap64 (11 + x24_1)) : Int).toNat) 1 t145 _ A38.out).mono ?_
                                  rintro e w46 ⟨rfl, hb⟩
                                  refine ⟨_, rfl, ?_⟩
                                  have n0_ := Aside0.mk (Kd.R_below (by (with_reducible repeat (first | apply Kd.R_alloc | apply Kd.R_drewN | apply Kd.R_drew)); exact HO_22.out) hb)
                                  have n1_ := Aside0.mk (blk_below (g := gb137) (o := .cells #[.int .u16 0, .int .u16 0, .int .u8 0, .int .u8 0, .int .i64 0] 24 (0, 0)) (by (with_reducible repeat (first | refine blk_drewN ?_ _ | refine blk_drew ?_ | refine blk_alloc ?_ _)); exact BK137.out) hb)
                                  have n2_ := Aside0.mk (blk_below (g := gb140) (o := .cells #[.int .u16 (IntKind.u16.wrap (ji6)), .int .u16 (IntKind.u16.wrap (ji10)), .int .u8 (Go.bits .or .u8 x141002_1 (ji34)), .int .u8 x141003_1, .int .i64 2] 24 (0, 0)) (by (with_reducible repeat (first | refine blk_drewN ?_ _ | refine blk_drew ?_ | refine blk_alloc ?_ _)); exact BK140.out) hb)
                                  have n3_ := Aside0.mk (below_step (by repeat (first | (with_reducible first | exact HB.out | apply below_alloc | apply pw_below_drewN | apply below_drew1 | refine below_set ?_ GE137.out | refine below_set ?_ GE140.out) | exact HB.out)) hb)
                                  clear HO_22
                                  clear BK137
                                  clear BK140
                                  clear HB
                                  have HO_22 := n0_
                                  have BK137 := n1_
                                  have BK140 := n2_
                                  have HB := n3_
                                  clear n0_ n1_ n2_ n3_
                                  (try clear hb)
                                  (try clear hb2)
                                  (try clear hk)
                                  (try clear hi)
                                  refine hK.out _ _ ⟨(blk_cell BK140.out 0).trans rfl, (blk_cell BK140.out 1).trans rfl, (blk_cell BK140.out 2).trans rfl, (blk_cell BK140.out 3).trans rfl, (blk_cell BK140.out 4).trans rfl⟩ (fun hHeld => ?_)
                                  clear hK K
                                  refine norm_ (a' := ?_) ?_ ?_
                                  rotate_left
                                  · show Act.put _ (some 48) _ = _
                                    simp only [Act.put, List.setIfInBounds_toArray, List.set_cons_zero, List.set_cons_succ, i64_w, i32_w]
                                    rfl
                                  refine pure_ (i := 9) (N := some 49) (v := ?_) (a' := ?_) #[true, true, true, true, true, true, true, true, true, true, false, true, false, false, false, false] rfl rfl (any_of HT_.out (by kernel_rfl)) (fun _ _ _ h => h) (Or.inl ⟨by rfl, ?_⟩) ?_ ?_
                                  rotate_left
                                  · intro w'
                                    go_simp
                                    with_reducible rfl
                                  rotate_left
                                  · simp only [Act.put, List.setIfInBounds_toArray, List.set_cons_zero, List.set_cons_succ, i64_w, i32_w]
                                    rfl
                                  refine pure_ (i := 10) (N := some 50) (v := ?_) (a' := ?_) #[true, true, true, true, true, true, true, true, true, true, true, true, false, false, false, false] rfl rfl (any_of HT_.out (by kernel_rfl)) (fun _ _ _ h => h) (Or.inl ⟨by rfl, ?_⟩) ?_ ?_
                                  rotate_left
                                  · intro w'
                                    go_simp
                                    with_reducible rfl
                                  rotate_left
                                  · simp only [Act.put, List.setIfInBounds_toArray, List.set_cons_zero, List.set_cons_succ, i64_w, i32_w]
                                    rfl
                                  refine pure_ (i := 12) (N := some 52) (v := ?_) (a' := ?_) #[true, true, true, true, true, true, true, true, true, true, true, true, true, false, false, false] rfl rfl (any_of HT_.out (by kernel_rfl)) (fun _ _ _ h => h) (Or.inl ⟨by rfl, ?_⟩) ?_ ?_
                                  rotate_left
                                  · intro w'
                                    go_simp
                                    with_reducible rfl
                                  rotate_left
                                  · simp only [Act.put, List.setIfInBounds_toArray, List.set_cons_zero, List.set_cons_succ, i64_w, i32_w]
                                    rfl
                                  refine pure_ (i := 13) (N := some 53) (v := ?_) (a' := ?_) #[true, true, true, true, true, true, true, true, true, true, true, true, true, true, false, false] rfl rfl (any_of HT_.out (by kernel_rfl)) (fun _ _ _ h => h) (Or.inl ⟨by rfl, ?_⟩) ?_ ?_
                                  rotate_left
                                  · intro w'
                                    go_simp
                                    with_reducible rfl
                                  rotate_left
                                  · simp only [Act.put, List.setIfInBounds_toArray, List.set_cons_zero, List.set_cons_succ, i64_w, i32_w]
                                    rfl
                                  refine pure_ (i := 14) (N := some 54) (v := ?_) (a' := ?_) #[true, true, true, true, true, true, true, true, true, true, true, true, true, true, true, false] rfl rfl (any_of HT_.out (by kernel_rfl)) (fun _ _ _ h => h) (Or.inl ⟨by rfl, ?_⟩) ?_ ?_
                                  rotate_left
                                  · intro w'
                                    go_simp
                                    with_reducible rfl
                                  rotate_left
                                  · simp only [Act.put, List.setIfInBounds_toArray, List.set_cons_zero, List.set_cons_succ, i64_w, i32_w]
                                    rfl
                                  refine last_ (i := 15) (N := none) #[true, true, true, true, true, true, true, true, true, true, true, true, true, true, true, true] rfl rfl (one_of HT_.out (by kernel_rfl)) (by decide) (fun K hK => ?_)
                                  have hs47 : w46.cell? ⟨gb140, 3, none⟩ = some (.int .u8 x141003_1) := (blk_cell BK140.out 3).trans rfl
                                  have hfs47 := blk_frozen BK140.out 3
                                  have hns47_0 := NB137_140.out
                                  have hms47_0 := NB140_137.out
                                  refine skip_ (w1 := ?_) (by rfl) rfl ?_ ?_
                                  rotate_left
                                  · go_simp
                                    rfl
                                  refine hK.out _ _ ?_
                                  clear hK K
                                  refine done_ (done_of HT_.out (by kernel_rfl)) ?_
                                  try go_wp2
                                  go_roundg k1
                                  case measure => have := HK1.out; omega
                                  case rel => (try simp only [show (ji39 % 256 * 2 ^ min (rd y141 x24_1).toNat 8 % 256) = ji41 from hji41]); exact ⟨(wrap64 (x24_1 + 1)), (Go.bits .or .u8 x141002_1 (ji34)), (Go.bits .or .u8 x141003_1 (ji41)), (by first | rfl | (simp; done) | (simp [*]; done)), H', ⟨by have := HK1.out; omega⟩, ⟨by (with_reducible repeat (first | apply Kd.R_alloc | apply Kd.R_drewN | apply Kd.R_drew)); exact Kd.R_mono (Kd.R_far (p := ⟨gb140, 3, none⟩) (Kd.R_types HO_22.out BK140.out (by decide)) (fun _ hk => hk.2) (.int .u8 (Go.bits .or .u8 x141003_1 (ji41)))) (fun _ hk => trivial)⟩, ⟨by (with_reducible repeat (first | refine blk_drewN ?_ _ | refine blk_drew ?_ | refine blk_alloc ?_ _)); refine blk_far ?_ NB137_140.out _; (with_reducible repeat (first | refine blk_drewN ?_ _ | refine blk_drew ?_ | refine blk_alloc ?_ _)); exact BK137.out⟩, ⟨by (with_reducible repeat (first | refine blk_drewN ?_ _ | refine blk_drew ?_ | refine blk_alloc ?_ _)); refine blk_put (cs := #[.int .u16 (IntKind.u16.wrap (ji6)), .int .u16 (IntKind.u16.wrap (ji10)), .int .u8 (Go.bits .or .u8 x141002_1 (ji34)), .int .u8 x141003_1, .int .i64 2]) ?_ 3 _ rfl; (with_reducible repeat (first | refine blk_drewN ?_ _ | refine blk_drew ?_ | refine blk_alloc ?_ _)); exact BK140.out⟩, ⟨by repeat (first | (with_reducible first | exact HB.out | apply below_alloc | apply pw_below_drewN | apply below_drew1 | refine below_set ?_ GE137.out | refine below_set ?_ GE140.out) | exact HB.out)⟩⟩
                                · rw [if_neg c37] at H
                                  exact absurd H (by simp)
                              · rw [if_neg c36] at H
                                exact absurd H (by simp)
                            · rw [if_neg c33] at H
                              exact absurd H (by simp)
                        · rw [if_neg c30] at H
                          exact absurd H (by simp)
                      · rw [if_neg c29] at H
                        exact absurd H (by simp)
                    · rw [if_neg c27] at H
                      exact absurd H (by simp)
                  · rw [if_neg c26] at H
                    exact absurd H (by simp)
                · rw [if_neg c25] at H
                  have c25b0 : decide (x24_1 < (y141.length : Int)) = false := decide_eq_false c25
                  clear c25
                  by_cases c48 : 13 < (a0.size : Int)
                  · rw [if_pos c48] at H
                    have c48b0 : decide (13 < (a0.size : Int)) = true := decide_eq_true c48
                    have c48b1 : decide (13 < a0.size) = true := decide_eq_true (by omega)
                    clear c48
                    by_cases c50 : (bt a0 13) = 114
                    · rw [if_pos c50] at H
                      have c50b0 : ((bt a0 13) == 114) = true := beq_iff_eq.mpr c50
                      have c50b1 : ((bt a0 13) != 114) = false := bne_eq_false_iff_eq.mpr c50
                      clear c50
                      replace H := Option.bind_eq_some_iff.mp H
                      obtain ⟨t146, A510, H⟩ := H
                      replace H : (if t146.toList = a0.toList then (some ((IntKind.u16.wrap (ji6)), (IntKind.u16.wrap (ji10)), x141002_1, x141003_1, 0, true)) else (some (0, 0, 0, 0, 0, false))) = some (r1, r2, r3, r4, r5, r6) := H
                      have A51 := Aside0.mk A510
                      clear A510
                      by_cases c52 : t146.toList = a0.toList
                      · rw [if_pos c52] at H
                        have c52b0 : (t146.toList == a0.toList) = true := beq_iff_eq.mpr c52
                        have c52b1 : (t146.toList != a0.toList) = false := bne_eq_false_iff_eq.mpr c52
                        clear c52
                        simp only [Option.some.injEq, Prod.mk.injEq] at H
                        obtain ⟨rfl, rfl, rfl, rfl, rfl, rfl⟩ := H
                        have p49 : 0 ≤ (13 : Int) := (by omega)
                        have q49 : 13 < a0.size := (by have : (13 : Int) < (a0.size : Int) := of_decide_eq_true (by first | (with_reducible assumption) | assumption); omega)
                        have hx49 : ∀ h : 13 < a0.size, ((a0[13]'h).toNat : Int) = bt a0 13 := bt_at a0 13
                        clear p49
                        have qi49 : (13 < (a0.size : Int)) = True := eq_true (of_decide_eq_true (by first | (with_reducible assumption) | assumption))
                        replace q49 := eq_true q49
                        have hnb53 := NB140_137.out
                        have hnc53 := NB137_140.out
                        have hcz54_0 : wr.cell? ⟨gb140, 0, none⟩ = some (.int .u16 (IntKind.u16.wrap (ji6))) := (blk_cell BK140.out 0).trans rfl
                        have hcz54_1 : wr.cell? ⟨gb140, 1, none⟩ = some (.int .u16 (IntKind.u16.wrap (ji10))) := (blk_cell BK140.out 1).trans rfl
                        have hcz54_2 : wr.cell? ⟨gb140, 2, none⟩ = some (.int .u8 x141002_1) := (blk_cell BK140.out 2).trans rfl
                        have hcz54_3 : wr.cell? ⟨gb140, 3, none⟩ = some (.int .u8 x141003_1) := (blk_cell BK140.out 3).trans rfl
                        have hcz54_4 : wr.cell? ⟨gb140, 4, none⟩ = some (.int .i64 2) := (blk_cell BK140.out 4).trans rfl
                        have hfz54_0 := blk_frozen BK140.out 0
                        have hfz54_1 := blk_frozen BK140.out 1
                        have hfz54_2 := blk_frozen BK140.out 2
                        have hfz54_3 := blk_frozen BK140.out 3
                        have hfz54_4 := blk_frozen BK140.out 4
                        go_wp2_with (first | ((with_reducible refine gate_callee (f := 10) rfl ?_); refine goesL_ (some 65) rfl rfl Try.func10 (by kernel_rfl) rfl #[.agg #[.int .u16 (IntKind.u16.wrap (ji6)), .int .u16 (IntKind.u16.wrap (ji10)), .int .u8 x141002_1, .int .u8 x141003_1, .int .i64 0]] rfl (by (try simp only [List.map_toArray, List.map_cons, List.map_nil]); first | done | (simp only [hji10, hji6]; rfl) | rfl | (simp only [List.length_drop, List.length_take]; rfl)) ?_; (with_reducible refine (impl_RuleText.calls k1 (IntKind.u16.wrap (ji6)) (IntKind.u16.wrap (ji10)) x141002_1 x141003_1 0 t146 _ A51.out).mono ?_); rintro e w55 ⟨rfl, hb⟩; refine ⟨_, rfl, ?_⟩; have n0_ := Aside0.mk (Kd.R_below (by (with_reducible repeat (first | apply Kd.R_alloc | apply Kd.R_drewN | apply Kd.R_drew)); exact (Kd.R_mono (Kd.R_far (p := ⟨gb140, 4, none⟩) (Kd.R_types HO_22.out BK140.out (by decide)) (fun _ hk => hk.2) (.int .i64 0)) (fun _ h_ => h_.1))) hb); have n1_ := Aside0.mk (blk_below (g := gb137) (o := .cells #[.int .u16 0, .int .u16 0, .int .u8 0, .int .u8 0, .int .i64 0] 24 (0, 0)) (by (with_reducible repeat (first | refine blk_drewN ?_ _ | refine blk_drew ?_ | refine blk_alloc ?_ _)); refine blk_far ?_ NB137_140.out _; (with_reducible repeat (first | refine blk_drewN ?_ _ | refine blk_drew ?_ | refine blk_alloc ?_ _)); exact BK137.out) hb); have n2_ := Aside0.mk (blk_below (g := gb140) (o := .cells #[.int .u16 (IntKind.u16.wrap (ji6)), .int .u16 (IntKind.u16.wrap (ji10)), .int .u8 x141002_1, .int .u8 x141003_1, .int .i64 0] 24 (0, 0)) (by (with_reducible repeat (first | refine blk_drewN ?_ _ | refine blk_drew ?_ | refine blk_alloc ?_ _)); refine blk_put (cs := #[.int .u16 (IntKind.u16.wrap (ji6)), .int .u16 (IntKind.u16.wrap (ji10)), .int .u8 x141002_1, .int .u8 x141003_1, .int .i64 2]) ?_ 4 _ rfl; (with_reducible repeat (first | refine blk_drewN ?_ _ | refine blk_drew ?_ | refine blk_alloc ?_ _)); exact BK140.out) hb); have n3_ := Aside0.mk (below_step (by repeat (first | (with_reducible first | exact HB.out | apply below_alloc | apply pw_below_drewN | apply below_drew1 | refine below_set ?_ GE137.out | refine below_set ?_ GE140.out) | exact HB.out)) hb); clear HO_22; clear BK137; clear BK140; clear HB; have HO_22 := n0_; have BK137 := n1_; have BK140 := n2_; have HB := n3_; clear n0_ n1_ n2_ n3_; (try clear hb); (try clear hb2); (try clear hk); (try clear hi); have hcz56_0 : w55.cell? ⟨gb140, 0, none⟩ = some (.int .u16 (IntKind.u16.wrap (ji6))) := (blk_cell BK140.out 0).trans rfl; have hcz56_1 : w55.cell? ⟨gb140, 1, none⟩ = some (.int .u16 (IntKind.u16.wrap (ji10))) := (blk_cell BK140.out 1).trans rfl; have hcz56_2 : w55.cell? ⟨gb140, 2, none⟩ = some (.int .u8 x141002_1) := (blk_cell BK140.out 2).trans rfl; have hcz56_3 : w55.cell? ⟨gb140, 3, none⟩ = some (.int .u8 x141003_1) := (blk_cell BK140.out 3).trans rfl; have hcz56_4 : w55.cell? ⟨gb140, 4, none⟩ = some (.int .i64 0) := (blk_cell BK140.out 4).trans rfl; have hfz56_0 := blk_frozen BK140.out 0; have hfz56_1 := blk_frozen BK140.out 1; have hfz56_2 := blk_frozen BK140.out 2; have hfz56_3 := blk_frozen BK140.out 3; have hfz56_4 := blk_frozen BK140.out 4; have hcz57_0 : w55.cell? ⟨gb137, 0, none⟩ = some (.int .u16 0) := (blk_cell BK137.out 0).trans rfl; have hcz57_1 : w55.cell? ⟨gb137, 1, none⟩ = some (.int .u16 0) := (blk_cell BK137.out 1).trans rfl; have hcz57_2 : w55.cell? ⟨gb137, 2, none⟩ = some (.int .u8 0) := (blk_cell BK137.out 2).trans rfl; have hcz57_3 : w55.cell? ⟨gb137, 3, none⟩ = some (.int .u8 0) := (blk_cell BK137.out 3).trans rfl; have hcz57_4 : w55.cell? ⟨gb137, 4, none⟩ = some (.int .i64 0) := (blk_cell BK137.out 4).trans rfl; have hfz57_0 := blk_frozen BK137.out 0; have hfz57_1 := blk_frozen BK137.out 1; have hfz57_2 := blk_frozen BK137.out 2; have hfz57_3 := blk_frozen BK137.out 3; have hfz57_4 := blk_frozen BK137.out 4))
                        refine bodyPost_ret (results_ct rfl _ _ gb137 24 #[.int .u16 (IntKind.u16.wrap (ji6)), .int .u16 (IntKind.u16.wrap (ji10)), .int .u8 x141002_1, .int .u8 x141003_1, .int .i64 0] (0, 0) _ rfl (by (with_reducible repeat (first | refine blk_drewN ?_ _ | refine blk_drew ?_ | refine blk_alloc ?_ _)); refine blk_put (cs := #[.int .u16 (IntKind.u16.wrap (ji6)), .int .u16 (IntKind.u16.wrap (ji10)), .int .u8 x141002_1, .int .u8 x141003_1, .int .i64 0]) ?_ 4 _ rfl; (with_reducible repeat (first | refine blk_drewN ?_ _ | refine blk_drew ?_ | refine blk_alloc ?_ _)); refine blk_put (cs := #[.int .u16 (IntKind.u16.wrap (ji6)), .int .u16 (IntKind.u16.wrap (ji10)), .int .u8 x141002_1, .int .u8 0, .int .i64 0]) ?_ 3 _ rfl; (with_reducible repeat (first | refine blk_drewN ?_ _ | refine blk_drew ?_ | refine blk_alloc ?_ _)); refine blk_put (cs := #[.int .u16 (IntKind.u16.wrap (ji6)), .int .u16 (IntKind.u16.wrap (ji10)), .int .u8 0, .int .u8 0, .int .i64 0]) ?_ 2 _ rfl; (with_reducible repeat (first | refine blk_drewN ?_ _ | refine blk_drew ?_ | refine blk_alloc ?_ _)); refine blk_put (cs := #[.int .u16 (IntKind.u16.wrap (ji6)), .int .u16 0, .int .u8 0, .int .u8 0, .int .i64 0]) ?_ 1 _ rfl; (with_reducible repeat (first | refine blk_drewN ?_ _ | refine blk_drew ?_ | refine blk_alloc ?_ _)); refine blk_put (cs := #[.int .u16 0, .int .u16 0, .int .u8 0, .int .u8 0, .int .i64 0]) ?_ 0 _ rfl; (with_reducible repeat (first | refine blk_drewN ?_ _ | refine blk_drew ?_ | refine blk_alloc ?_ _)); exact BK137.out) Try.underlying24 rfl (by kernel_rfl)) rfl ?_
                        exact ⟨by first | rfl | (simp [errW_none, errW_some] <;> rfl) | (simp only [← hji6, ← hji10]; first | rfl | (simp [errW_none, errW_some] <;> rfl)) | (simp [*, errW_none, errW_some] <;> rfl), by repeat (first | (with_reducible first | exact HB.out | apply below_alloc | apply pw_below_drewN | apply below_drew1 | refine below_set ?_ GE137.out | refine below_set ?_ GE140.out) | exact HB.out)⟩
                      · rw [if_neg c52] at H
                        have c52b0 : (t146.toList == a0.toList) = false := beq_eq_false_iff_ne.mpr c52
                        have c52b1 : (t146.toList != a0.toList) = true := bne_iff_ne.mpr c52
                        simp only [Option.some.injEq, Prod.mk.injEq] at H
                        obtain ⟨rfl, rfl, rfl, rfl, rfl, rfl⟩ := H
                        have p49 : 0 ≤ (13 : Int) := (by omega)
                        have q49 : 13 < a0.size := (by have : (13 : Int) < (a0.size : Int) := of_decide_eq_true (by first | (with_reducible assumption) | assumption); omega)
                        have hx49 : ∀ h : 13 < a0.size, ((a0[13]'h).toNat : Int) = bt a0 13 := bt_at a0 13
                        clear p49
                        have qi49 : (13 < (a0.size : Int)) = True := eq_true (of_decide_eq_true (by first | (with_reducible assumption) | assumption))
                        replace q49 := eq_true q49
                        have hnb58 := NB140_137.out
                        have hnc58 := NB137_140.out
                        have hcz59_0 : wr.cell? ⟨gb140, 0, none⟩ = some (.int .u16 (IntKind.u16.wrap (ji6))) := (blk_cell BK140.out 0).trans rfl
                        have hcz59_1 : wr.cell? ⟨gb140, 1, none⟩ = some (.int .u16 (IntKind.u16.wrap (ji10))) := (blk_cell BK140.out 1).trans rfl
                        have hcz59_2 : wr.cell? ⟨gb140, 2, none⟩ = some (.int .u8 x141002_1) := (blk_cell BK140.out 2).trans rfl
                        have hcz59_3 : wr.cell? ⟨gb140, 3, none⟩ = some (.int .u8 x141003_1) := (blk_cell BK140.out 3).trans rfl
                        have hcz59_4 : wr.cell? ⟨gb140, 4, none⟩ = some (.int .i64 2) := (blk_cell BK140.out 4).trans rfl
                        have hfz59_0 := blk_frozen BK140.out 0
                        have hfz59_1 := blk_frozen BK140.out 1
                        have hfz59_2 := blk_frozen BK140.out 2
                        have hfz59_3 := blk_frozen BK140.out 3
                        have hfz59_4 := blk_frozen BK140.out 4
                        go_wp2_with (first | ((with_reducible refine gate_callee (f := 10) rfl ?_); refine goesL_ (some 65) rfl rfl Try.func10 (by kernel_rfl) rfl #[.agg #[.int .u16 (IntKind.u16.wrap (ji6)), .int .u16 (IntKind.u16.wrap (ji10)), .int .u8 x141002_1, .int .u8 x141003_1, .int .i64 0]] rfl (by (try simp only [List.map_toArray, List.map_cons, List.map_nil]); first | done | (simp only [hji10, hji6]; rfl) | rfl | (simp only [List.length_drop, List.length_take]; rfl)) ?_; (with_reducible refine (impl_RuleText.calls k1 (IntKind.u16.wrap (ji6)) (IntKind.u16.wrap (ji10)) x141002_1 x141003_1 0 t146 _ A51.out).mono ?_); rintro e w60 ⟨rfl, hb⟩; refine ⟨_, rfl, ?_⟩; have n0_ := Aside0.mk (Kd.R_below (by (with_reducible repeat (first | apply Kd.R_alloc | apply Kd.R_drewN | apply Kd.R_drew)); exact (Kd.R_mono (Kd.R_far (p := ⟨gb140, 4, none⟩) (Kd.R_types HO_22.out BK140.out (by decide)) (fun _ hk => hk.2) (.int .i64 0)) (fun _ h_ => h_.1))) hb); have n1_ := Aside0.mk (blk_below (g := gb137) (o := .cells #[.int .u16 0, .int .u16 0, .int .u8 0, .int .u8 0, .int .i64 0] 24 (0, 0)) (by (with_reducible repeat (first | refine blk_drewN ?_ _ | refine blk_drew ?_ | refine blk_alloc ?_ _)); refine blk_far ?_ NB137_140.out _; (with_reducible repeat (first | refine blk_drewN ?_ _ | refine blk_drew ?_ | refine blk_alloc ?_ _)); exact BK137.out) hb); have n2_ := Aside0.mk (blk_below (g := gb140) (o := .cells #[.int .u16 (IntKind.u16.wrap (ji6)), .int .u16 (IntKind.u16.wrap (ji10)), .int .u8 x141002_1, .int .u8 x141003_1, .int .i64 0] 24 (0, 0)) (by (with_reducible repeat (first | refine blk_drewN ?_ _ | refine blk_drew ?_ | refine blk_alloc ?_ _)); refine blk_put (cs := #[.int .u16 (IntKind.u16.wrap (ji6)), .int .u16 (IntKind.u16.wrap (ji10)), .int .u8 x141002_1, .int .u8 x141003_1, .int .i64 2]) ?_ 4 _ rfl; (with_reducible repeat (first | refine blk_drewN ?_ _ | refine blk_drew ?_ | refine blk_alloc ?_ _)); exact BK140.out) hb); have n3_ := Aside0.mk (below_step (by repeat (first | (with_reducible first | exact HB.out | apply below_alloc | apply pw_below_drewN | apply below_drew1 | refine below_set ?_ GE137.out | refine below_set ?_ GE140.out) | exact HB.out)) hb); clear HO_22; clear BK137; clear BK140; clear HB; have HO_22 := n0_; have BK137 := n1_; have BK140 := n2_; have HB := n3_; clear n0_ n1_ n2_ n3_; (try clear hb); (try clear hb2); (try clear hk); (try clear hi); have hcz61_0 : w60.cell? ⟨gb137, 0, none⟩ = some (.int .u16 0) := (blk_cell BK137.out 0).trans rfl; have hcz61_1 : w60.cell? ⟨gb137, 1, none⟩ = some (.int .u16 0) := (blk_cell BK137.out 1).trans rfl; have hcz61_2 : w60.cell? ⟨gb137, 2, none⟩ = some (.int .u8 0) := (blk_cell BK137.out 2).trans rfl; have hcz61_3 : w60.cell? ⟨gb137, 3, none⟩ = some (.int .u8 0) := (blk_cell BK137.out 3).trans rfl; have hcz61_4 : w60.cell? ⟨gb137, 4, none⟩ = some (.int .i64 0) := (blk_cell BK137.out 4).trans rfl; have hfz61_0 := blk_frozen BK137.out 0; have hfz61_1 := blk_frozen BK137.out 1; have hfz61_2 := blk_frozen BK137.out 2; have hfz61_3 := blk_frozen BK137.out 3; have hfz61_4 := blk_frozen BK137.out 4))
                        refine bodyPost_ret (results_ct rfl _ _ gb137 24 #[.int .u16 0, .int .u16 0, .int .u8 0, .int .u8 0, .int .i64 0] (0, 0) _ rfl (by (with_reducible repeat (first | refine blk_drewN ?_ _ | refine blk_drew ?_ | refine blk_alloc ?_ _)); refine blk_put (cs := #[.int .u16 0, .int .u16 0, .int .u8 0, .int .u8 0, .int .i64 0]) ?_ 4 _ rfl; (with_reducible repeat (first | refine blk_drewN ?_ _ | refine blk_drew ?_ | refine blk_alloc ?_ _)); refine blk_put (cs := #[.int .u16 0, .int .u16 0, .int .u8 0, .int .u8 0, .int .i64 0]) ?_ 3 _ rfl; (with_reducible repeat (first | refine blk_drewN ?_ _ | refine blk_drew ?_ | refine blk_alloc ?_ _)); refine blk_put (cs := #[.int .u16 0, .int .u16 0, .int .u8 0, .int .u8 0, .int .i64 0]) ?_ 2 _ rfl; (with_reducible repeat (first | refine blk_drewN ?_ _ | refine blk_drew ?_ | refine blk_alloc ?_ _)); refine blk_put (cs := #[.int .u16 0, .int .u16 0, .int .u8 0, .int .u8 0, .int .i64 0]) ?_ 1 _ rfl; (with_reducible repeat (first | refine blk_drewN ?_ _ | refine blk_drew ?_ | refine blk_alloc ?_ _)); refine blk_put (cs := #[.int .u16 0, .int .u16 0, .int .u8 0, .int .u8 0, .int .i64 0]) ?_ 0 _ rfl; (with_reducible repeat (first | refine blk_drewN ?_ _ | refine blk_drew ?_ | refine blk_alloc ?_ _)); exact BK137.out) Try.underlying24 rfl (by kernel_rfl)) rfl ?_
                        exact ⟨by first | rfl | (simp [errW_none, errW_some] <;> rfl) | (simp only [← hji6, ← hji10]; first | rfl | (simp [errW_none, errW_some] <;> rfl)) | (simp [*, errW_none, errW_some] <;> rfl), by repeat (first | (with_reducible first | exact HB.out | apply below_alloc | apply pw_below_drewN | apply below_drew1 | refine below_set ?_ GE137.out | refine below_set ?_ GE140.out) | exact HB.out)⟩
                    · rw [if_neg c50] at H
                      have c50b0 : ((bt a0 13) == 114) = false := beq_eq_false_iff_ne.mpr c50
                      have c50b1 : ((bt a0 13) != 114) = true := bne_iff_ne.mpr c50
                      by_cases c62 : (bt a0 13) = 119
                      · rw [if_pos c62] at H
                        have c62b0 : ((bt a0 13) == 119) = true := beq_iff_eq.mpr c62
                        have c62b1 : ((bt a0 13) != 119) = false := bne_eq_false_iff_eq.mpr c62
                        clear c62
                        replace H := Option.bind_eq_some_iff.mp H
                        obtain ⟨t147, A630, H⟩ := H
                        replace H : (if t147.toList = a0.toList then (some ((IntKind.u16.wrap (ji6)), (IntKind.u16.wrap (ji10)), x141002_1, x141003_1, 1, true)) else (some (0, 0, 0, 0, 0, false))) = some (r1, r2, r3, r4, r5, r6) := H
                        have A63 := Aside0.mk A630
                        clear A630
                        by_cases c64 : t147.toList = a0.toList
                        · rw [if_pos c64] at H
                          have c64b0 : (t147.toList == a0.toList) = true := beq_iff_eq.mpr c64
                          have c64b1 : (t147.toList != a0.toList) = false := bne_eq_false_iff_eq.mpr c64
                          clear c64
                          simp only [Option.some.injEq, Prod.mk.injEq] at H
                          obtain ⟨rfl, rfl, rfl, rfl, rfl, rfl⟩ := H
                          have p49 : 0 ≤ (13 : Int) := (by omega)
                          have q49 : 13 < a0.size := (by have : (13 : Int) < (a0.size : Int) := of_decide_eq_true (by first | (with_reducible assumption) | assumption); omega)
                          have hx49 : ∀ h : 13 < a0.size, ((a0[13]'h).toNat : Int) = bt a0 13 := bt_at a0 13
                          clear p49
                          have qi49 : (13 < (a0.size : Int)) = True := eq_true (of_decide_eq_true (by first | (with_reducible assumption) | assumption))
                          replace q49 := eq_true q49
                          have hnb65 := NB140_137.out
                          have hnc65 := NB137_140.out
                          have hcz66_0 : wr.cell? ⟨gb140, 0, none⟩ = some (.int .u16 (IntKind.u16.wrap (ji6))) := (blk_cell BK140.out 0).trans rfl
                          have hcz66_1 : wr.cell? ⟨gb140, 1, none⟩ = some (.int .u16 (IntKind.u16.wrap (ji10))) := (blk_cell BK140.out 1).trans rfl
                          have hcz66_2 : wr.cell? ⟨gb140, 2, none⟩ = some (.int .u8 x141002_1) := (blk_cell BK140.out 2).trans rfl
                          have hcz66_3 : wr.cell? ⟨gb140, 3, none⟩ = some (.int .u8 x141003_1) := (blk_cell BK140.out 3).trans rfl
                          have hcz66_4 : wr.cell? ⟨gb140, 4, none⟩ = some (.int .i64 2) := (blk_cell BK140.out 4).trans rfl
                          have hfz66_0 := blk_frozen BK140.out 0
                          have hfz66_1 := blk_frozen BK140.out 1
                          have hfz66_2 := blk_frozen BK140.out 2
                          have hfz66_3 := blk_frozen BK140.out 3
                          have hfz66_4 := blk_frozen BK140.out 4
                          go_wp2_with (first | ((with_reducible refine gate_callee (f := 10) rfl ?_); refine goesL_ (some 65) rfl rfl Try.func10 (by kernel_rfl) rfl #[.agg #[.int .u16 (IntKind.u16.wrap (ji6)), .int .u16 (IntKind.u16.wrap (ji10)), .int .u8 x141002_1, .int .u8 x141003_1, .int .i64 1]] rfl (by (try simp only [List.map_toArray, List.map_cons, List.map_nil]); first | done | (simp only [hji10, hji6]; rfl) | rfl | (simp only [List.length_drop, List.length_take]; rfl)) ?_; (with_reducible refine (impl_RuleText.calls k1 (IntKind.u16.wrap (ji6)) (IntKind.u16.wrap (ji10)) x141002_1 x141003_1 1 t147 _ A63.out).mono ?_); rintro e w67 ⟨rfl, hb⟩; refine ⟨_, rfl, ?_⟩; have n0_ := Aside0.mk (Kd.R_below (by (with_reducible repeat (first | apply Kd.R_alloc | apply Kd.R_drewN | apply Kd.R_drew)); exact (Kd.R_mono (Kd.R_far (p := ⟨gb140, 4, none⟩) (Kd.R_types HO_22.out BK140.out (by decide)) (fun _ hk => hk.2) (.int .i64 1)) (fun _ h_ => h_.1))) hb); have n1_ := Aside0.mk (blk_below (g := gb137) (o := .cells #[.int .u16 0, .int .u16 0, .int .u8 0, .int .u8 0, .int .i64 0] 24 (0, 0)) (by (with_reducible repeat (first | refine blk_drewN ?_ _ | refine blk_drew ?_ | refine blk_alloc ?_ _)); refine blk_far ?_ NB137_140.out _; (with_reducible repeat (first | refine blk_drewN ?_ _ | refine blk_drew ?_ | refine blk_alloc ?_ _)); exact BK137.out) hb); have n2_ := Aside0.mk (blk_below (g := gb140) (o := .cells #[.int .u16 (IntKind.u16.wrap (ji6)), .int .u16 (IntKind.u16.wrap (ji10)), .int .u8 x141002_1, .int .u8 x141003_1, .int .i64 1] 24 (0, 0)) (by (with_reducible repeat (first | refine blk_drewN ?_ _ | refine blk_drew ?_ | refine blk_alloc ?_ _)); refine blk_put (cs := #[.int .u16 (IntKind.u16.wrap (ji6)), .int .u16 (IntKind.u16.wrap (ji10)), .int .u8 x141002_1, .int .u8 x141003_1, .int .i64 2]) ?_ 4 _ rfl; (with_reducible repeat (first | refine blk_drewN ?_ _ | refine blk_drew ?_ | refine blk_alloc ?_ _)); exact BK140.out) hb); have n3_ := Aside0.mk (below_step (by repeat (first | (with_reducible first | exact HB.out | apply below_alloc | apply pw_below_drewN | apply below_drew1 | refine below_set ?_ GE137.out | refine below_set ?_ GE140.out) | exact HB.out)) hb); clear HO_22; clear BK137; clear BK140; clear HB; have HO_22 := n0_; have BK137 := n1_; have BK140 := n2_; have HB := n3_; clear n0_ n1_ n2_ n3_; (try clear hb); (try clear hb2); (try clear hk); (try clear hi); have hcz68_0 : w67.cell? ⟨gb140, 0, none⟩ = some (.int .u16 (IntKind.u16.wrap (ji6))) := (blk_cell BK140.out 0).trans rfl; have hcz68_1 : w67.cell? ⟨gb140, 1, none⟩ = some (.int .u16 (IntKind.u16.wrap (ji10))) := (blk_cell BK140.out 1).trans rfl; have hcz68_2 : w67.cell? ⟨gb140, 2, none⟩ = some (.int .u8 x141002_1) := (blk_cell BK140.out 2).trans rfl; have hcz68_3 : w67.cell? ⟨gb140, 3, none⟩ = some (.int .u8 x141003_1) := (blk_cell BK140.out 3).trans rfl; have hcz68_4 : w67.cell? ⟨gb140, 4, none⟩ = some (.int .i64 1) := (blk_cell BK140.out 4).trans rfl; have hfz68_0 := blk_frozen BK140.out 0; have hfz68_1 := blk_frozen BK140.out 1; have hfz68_2 := blk_frozen BK140.out 2; have hfz68_3 := blk_frozen BK140.out 3; have hfz68_4 := blk_frozen BK140.out 4; have hcz69_0 : w67.cell? ⟨gb137, 0, none⟩ = some (.int .u16 0) := (blk_cell BK137.out 0).trans rfl; have hcz69_1 : w67.cell? ⟨gb137, 1, none⟩ = some (.int .u16 0) := (blk_cell BK137.out 1).trans rfl; have hcz69_2 : w67.cell? ⟨gb137, 2, none⟩ = some (.int .u8 0) := (blk_cell BK137.out 2).trans rfl; have hcz69_3 : w67.cell? ⟨gb137, 3, none⟩ = some (.int .u8 0) := (blk_cell BK137.out 3).trans rfl; have hcz69_4 : w67.cell? ⟨gb137, 4, none⟩ = some (.int .i64 0) := (blk_cell BK137.out 4).trans rfl; have hfz69_0 := blk_frozen BK137.out 0; have hfz69_1 := blk_frozen BK137.out 1; have hfz69_2 := blk_frozen BK137.out 2; have hfz69_3 := blk_frozen BK137.out 3; have hfz69_4 := blk_frozen BK137.out 4))
                          refine bodyPost_ret (results_ct rfl _ _ gb137 24 #[.int .u16 (IntKind.u16.wrap (ji6)), .int .u16 (IntKind.u16.wrap (ji10)), .int .u8 x141002_1, .int .u8 x141003_1, .int .i64 1] (0, 0) _ rfl (by (with_reducible repeat (first | refine blk_drewN ?_ _ | refine blk_drew ?_ | refine blk_alloc ?_ _)); refine blk_put (cs := #[.int .u16 (IntKind.u16.wrap (ji6)), .int .u16 (IntKind.u16.wrap (ji10)), .int .u8 x141002_1, .int .u8 x141003_1, .int .i64 0]) ?_ 4 _ rfl; (with_reducible repeat (first | refine blk_drewN ?_ _ | refine blk_drew ?_ | refine blk_alloc ?_ _)); refine blk_put (cs := #[.int .u16 (IntKind.u16.wrap (ji6)), .int .u16 (IntKind.u16.wrap (ji10)), .int .u8 x141002_1, .int .u8 0, .int .i64 0]) ?_ 3 _ rfl; (with_reducible repeat (first | refine blk_drewN ?_ _ | refine blk_drew ?_ | refine blk_alloc ?_ _)); refine blk_put (cs := #[.int .u16 (IntKind.u16.wrap (ji6)), .int .u16 (IntKind.u16.wrap (ji10)), .int .u8 0, .int .u8 0, .int .i64 0]) ?_ 2 _ rfl; (with_reducible repeat (first | refine blk_drewN ?_ _ | refine blk_drew ?_ | refine blk_alloc ?_ _)); refine blk_put (cs := #[.int .u16 (IntKind.u16.wrap (ji6)), .int .u16 0, .int .u8 0, .int .u8 0, .int .i64 0]) ?_ 1 _ rfl; (with_reducible repeat (first | refine blk_drewN ?_ _ | refine blk_drew ?_ | refine blk_alloc ?_ _)); refine blk_put (cs := #[.int .u16 0, .int .u16 0, .int .u8 0, .int .u8 0, .int .i64 0]) ?_ 0 _ rfl; (with_reducible repeat (first | refine blk_drewN ?_ _ | refine blk_drew ?_ | refine blk_alloc ?_ _)); exact BK137.out) Try.underlying24 rfl (by kernel_rfl)) rfl ?_
                          exact ⟨by first | rfl | (simp [errW_none, errW_some] <;> rfl) | (simp only [← hji6, ← hji10]; first | rfl | (simp [errW_none, errW_some] <;> rfl)) | (simp [*, errW_none, errW_some] <;> rfl), by repeat (first | (with_reducible first | exact HB.out | apply below_alloc | apply pw_below_drewN | apply below_drew1 | refine below_set ?_ GE137.out | refine below_set ?_ GE140.out) | exact HB.out)⟩
                        · rw [if_neg c64] at H
                          have c64b0 : (t147.toList == a0.toList) = false := beq_eq_false_iff_ne.mpr c64
                          have c64b1 : (t147.toList != a0.toList) = true := bne_iff_ne.mpr c64
                          simp only [Option.some.injEq, Prod.mk.injEq] at H
                          obtain ⟨rfl, rfl, rfl, rfl, rfl, rfl⟩ := H
                          have p49 : 0 ≤ (13 : Int) := (by omega)
                          have q49 : 13 < a0.size := (by have : (13 : Int) < (a0.size : Int) := of_decide_eq_true (by first | (with_reducible assumption) | assumption); omega)
                          have hx49 : ∀ h : 13 < a0.size, ((a0[13]'h).toNat : Int) = bt a0 13 := bt_at a0 13
                          clear p49
                          have qi49 : (13 < (a0.size : Int)) = True := eq_true (of_decide_eq_true (by first | (with_reducible assumption) | assumption))
                          replace q49 := eq_true q49
                          have hnb70 := NB140_137.out
                          have hnc70 := NB137_140.out
                          have hcz71_0 : wr.cell? ⟨gb140, 0, none⟩ = some (.int .u16 (IntKind.u16.wrap (ji6))) := (blk_cell BK140.out 0).trans rfl
                          have hcz71_1 : wr.cell? ⟨gb140, 1, none⟩ = some (.int .u16 (IntKind.u16.wrap (ji10))) := (blk_cell BK140.out 1).trans rfl
                          have hcz71_2 : wr.cell? ⟨gb140, 2, none⟩ = some (.int .u8 x141002_1) := (blk_cell BK140.out 2).trans rfl
                          have hcz71_3 : wr.cell? ⟨gb140, 3, none⟩ = some (.int .u8 x141003_1) := (blk_cell BK140.out 3).trans rfl
                          have hcz71_4 : wr.cell? ⟨gb140, 4, none⟩ = some (.int .i64 2) := (blk_cell BK140.out 4).trans rfl
                          have hfz71_0 := blk_frozen BK140.out 0
                          have hfz71_1 := blk_frozen BK140.out 1
                          have hfz71_2 := blk_frozen BK140.out 2
                          have hfz71_3 := blk_frozen BK140.out 3
                          have hfz71_4 := blk_frozen BK140.out 4
                          go_wp2_with (first | ((with_reducible refine gate_callee (f := 10) rfl ?_); refine goesL_ (some 65) rfl rfl Try.func10 (by kernel_rfl) rfl #[.agg #[.int .u16 (IntKind.u16.wrap (ji6)), .int .u16 (IntKind.u16.wrap (ji10)), .int .u8 x141002_1, .int .u8 x141003_1, .int .i64 1]] rfl (by (try simp only [List.map_toArray, List.map_cons, List.map_nil]); first | done | (simp only [hji10, hji6]; rfl) | rfl | (simp only [List.length_drop, List.length_take]; rfl)) ?_; (with_reducible refine (impl_RuleText.calls k1 (IntKind.u16.wrap (ji6)) (IntKind.u16.wrap (ji10)) x141002_1 x141003_1 1 t147 _ A63.out).mono ?_); rintro e w72 ⟨rfl, hb⟩; refine ⟨_, rfl, ?_⟩; have n0_ := Aside0.mk (Kd.R_below (by (with_reducible repeat (first | apply Kd.R_alloc | apply Kd.R_drewN | apply Kd.R_drew)); exact (Kd.R_mono (Kd.R_far (p := ⟨gb140, 4, none⟩) (Kd.R_types HO_22.out BK140.out (by decide)) (fun _ hk => hk.2) (.int .i64 1)) (fun _ h_ => h_.1))) hb); have n1_ := Aside0.mk (blk_below (g := gb137) (o := .cells #[.int .u16 0, .int .u16 0, .int .u8 0, .int .u8 0, .int .i64 0] 24 (0, 0)) (by (with_reducible repeat (first | refine blk_drewN ?_ _ | refine blk_drew ?_ | refine blk_alloc ?_ _)); refine blk_far ?_ NB137_140.out _; (with_reducible repeat (first | refine blk_drewN ?_ _ | refine blk_drew ?_ | refine blk_alloc ?_ _)); exact BK137.out) hb); have n2_ := Aside0.mk (blk_below (g := gb140) (o := .cells #[.int .u16 (IntKind.u16.wrap (ji6)), .int .u16 (IntKind.u16.wrap (ji10)), .int .u8 x141002_1, .int .u8 x141003_1, .int .i64 1] 24 (0, 0)) (by (with_reducible repeat (first | refine blk_drewN ?_ _ | refine blk_drew ?_ | refine blk_alloc ?_ _)); refine blk_put (cs := #[.int .u16 (IntKind.u16.wrap (ji6)), .int .u16 (IntKind.u16.wrap (ji10)), .int .u8 x141002_1, .int .u8 x141003_1, .int .i64 2]) ?_ 4 _ rfl; (with_reducible repeat (first | refine blk_drewN ?_ _ | refine blk_drew ?_ | refine blk_alloc ?_ _)); exact BK140.out) hb); have n3_ := Aside0.mk (below_step (by repeat (first | (with_reducible first | exact HB.out | apply below_alloc | apply pw_below_drewN | apply below_drew1 | refine below_set ?_ GE137.out | refine below_set ?_ GE140.out) | exact HB.out)) hb); clear HO_22; clear BK137; clear BK140; clear HB; have HO_22 := n0_; have BK137 := n1_; have BK140 := n2_; have HB := n3_; clear n0_ n1_ n2_ n3_; (try clear hb); (try clear hb2); (try clear hk); (try clear hi); have hcz73_0 : w72.cell? ⟨gb137, 0, none⟩ = some (.int .u16 0) := (blk_cell BK137.out 0).trans rfl; have hcz73_1 : w72.cell? ⟨gb137, 1, none⟩ = some (.int .u16 0) := (blk_cell BK137.out 1).trans rfl; have hcz73_2 : w72.cell? ⟨gb137, 2, none⟩ = some (.int .u8 0) := (blk_cell BK137.out 2).trans rfl; have hcz73_3 : w72.cell? ⟨gb137, 3, none⟩ = some (.int .u8 0) := (blk_cell BK137.out 3).trans rfl; have hcz73_4 : w72.cell? ⟨gb137, 4, none⟩ = some (.int .i64 0) := (blk_cell BK137.out 4).trans rfl; have hfz73_0 := blk_frozen BK137.out 0; have hfz73_1 := blk_frozen BK137.out 1; have hfz73_2 := blk_frozen BK137.out 2; have hfz73_3 := blk_frozen BK137.out 3; have hfz73_4 := blk_frozen BK137.out 4))
                          refine bodyPost_ret (results_ct rfl _ _ gb137 24 #[.int .u16 0, .int .u16 0, .int .u8 0, .int .u8 0, .int .i64 0] (0, 0) _ rfl (by (with_reducible repeat (first | refine blk_drewN ?_ _ | refine blk_drew ?_ | refine blk_alloc ?_ _)); refine blk_put (cs := #[.int .u16 0, .int .u16 0, .int .u8 0, .int .u8 0, .int .i64 0]) ?_ 4 _ rfl; (with_reducible repeat (first | refine blk_drewN ?_ _ | refine blk_drew ?_ | refine blk_alloc ?_ _)); refine blk_put (cs := #[.int .u16 0, .int .u16 0, .int .u8 0, .int .u8 0, .int .i64 0]) ?_ 3 _ rfl; (with_reducible repeat (first | refine blk_drewN ?_ _ | refine blk_drew ?_ | refine blk_alloc ?_ _)); refine blk_put (cs := #[.int .u16 0, .int .u16 0, .int .u8 0, .int .u8 0, .int .i64 0]) ?_ 2 _ rfl; (with_reducible repeat (first | refine blk_drewN ?_ _ | refine blk_drew ?_ | refine blk_alloc ?_ _)); refine blk_put (cs := #[.int .u16 0, .int .u16 0, .int .u8 0, .int .u8 0, .int .i64 0]) ?_ 1 _ rfl; (with_reducible repeat (first | refine blk_drewN ?_ _ | refine blk_drew ?_ | refine blk_alloc ?_ _)); refine blk_put (cs := #[.int .u16 0, .int .u16 0, .int .u8 0, .int .u8 0, .int .i64 0]) ?_ 0 _ rfl; (with_reducible repeat (first | refine blk_drewN ?_ _ | refine blk_drew ?_ | refine blk_alloc ?_ _)); exact BK137.out) Try.underlying24 rfl (by kernel_rfl)) rfl ?_
                          exact ⟨by first | rfl | (simp [errW_none, errW_some] <;> rfl) | (simp only [← hji6, ← hji10]; first | rfl | (simp [errW_none, errW_some] <;> rfl)) | (simp [*, errW_none, errW_some] <;> rfl), by repeat (first | (with_reducible first | exact HB.out | apply below_alloc | apply pw_below_drewN | apply below_drew1 | refine below_set ?_ GE137.out | refine below_set ?_ GE140.out) | exact HB.out)⟩
                      · rw [if_neg c62] at H
                        have c62b0 : ((bt a0 13) == 119) = false := beq_eq_false_iff_ne.mpr c62
                        have c62b1 : ((bt a0 13) != 119) = true := bne_iff_ne.mpr c62
                        replace H := Option.bind_eq_some_iff.mp H
                        obtain ⟨t148, A740, H⟩ := H
                        replace H : (if t148.toList = a0.toList then (some ((IntKind.u16.wrap (ji6)), (IntKind.u16.wrap (ji10)), x141002_1, x141003_1, 2, true)) else (some (0, 0, 0, 0, 0, false))) = some (r1, r2, r3, r4, r5, r6) := H
                        have A74 := Aside0.mk A740
                        clear A740
                        by_cases c75 : t148.toList = a0.toList
                        · rw [if_pos c75] at H
                          have c75b0 : (t148.toList == a0.toList) = true := beq_iff_eq.mpr c75
                          have c75b1 : (t148.toList != a0.toList) = false := bne_eq_false_iff_eq.mpr c75
                          clear c75
                          simp only [Option.some.injEq, Prod.mk.injEq] at H
                          obtain ⟨rfl, rfl, rfl, rfl, rfl, rfl⟩ := H
                          have p49 : 0 ≤ (13 : Int) := (by omega)
                          have q49 : 13 < a0.size := (by have : (13 : Int) < (a0.size : Int) := of_decide_eq_true (by first | (with_reducible assumption) | assumption); omega)
                          have hx49 : ∀ h : 13 < a0.size, ((a0[13]'h).toNat : Int) = bt a0 13 := bt_at a0 13
                          clear p49
                          have qi49 : (13 < (a0.size : Int)) = True := eq_true (of_decide_eq_true (by first | (with_reducible assumption) | assumption))
                          replace q49 := eq_true q49
                          have hnb76 := NB140_137.out
                          have hnc76 := NB137_140.out
                          have hcz77_0 : wr.cell? ⟨gb140, 0, none⟩ = some (.int .u16 (IntKind.u16.wrap (ji6))) := (blk_cell BK140.out 0).trans rfl
                          have hcz77_1 : wr.cell? ⟨gb140, 1, none⟩ = some (.int .u16 (IntKind.u16.wrap (ji10))) := (blk_cell BK140.out 1).trans rfl
                          have hcz77_2 : wr.cell? ⟨gb140, 2, none⟩ = some (.int .u8 x141002_1) := (blk_cell BK140.out 2).trans rfl
                          have hcz77_3 : wr.cell? ⟨gb140, 3, none⟩ = some (.int .u8 x141003_1) := (blk_cell BK140.out 3).trans rfl
                          have hcz77_4 : wr.cell? ⟨gb140, 4, none⟩ = some (.int .i64 2) := (blk_cell BK140.out 4).trans rfl
                          have hfz77_0 := blk_frozen BK140.out 0
                          have hfz77_1 := blk_frozen BK140.out 1
                          have hfz77_2 := blk_frozen BK140.out 2
                          have hfz77_3 := blk_frozen BK140.out 3
                          have hfz77_4 := blk_frozen BK140.out 4
                          go_wp2_with (first | ((with_reducible refine gate_callee (f := 10) rfl ?_); refine goesL_ (some 65) rfl rfl Try.func10 (by kernel_rfl) rfl #[.agg #[.int .u16 (IntKind.u16.wrap (ji6)), .int .u16 (IntKind.u16.wrap (ji10)), .int .u8 x141002_1, .int .u8 x141003_1, .int .i64 2]] rfl (by (try simp only [List.map_toArray, List.map_cons, List.map_nil]); first | done | (simp only [hji10, hji6]; rfl) | rfl | (simp only [List.length_drop, List.length_take]; rfl)) ?_; (with_reducible refine (impl_RuleText.calls k1 (IntKind.u16.wrap (ji6)) (IntKind.u16.wrap (ji10)) x141002_1 x141003_1 2 t148 _ A74.out).mono ?_); rintro e w78 ⟨rfl, hb⟩; refine ⟨_, rfl, ?_⟩; have n0_ := Aside0.mk (Kd.R_below (by (with_reducible repeat (first | apply Kd.R_alloc | apply Kd.R_drewN | apply Kd.R_drew)); exact HO_22.out) hb); have n1_ := Aside0.mk (blk_below (g := gb137) (o := .cells #[.int .u16 0, .int .u16 0, .int .u8 0, .int .u8 0, .int .i64 0] 24 (0, 0)) (by (with_reducible repeat (first | refine blk_drewN ?_ _ | refine blk_drew ?_ | refine blk_alloc ?_ _)); exact BK137.out) hb); have n2_ := Aside0.mk (blk_below (g := gb140) (o := .cells #[.int .u16 (IntKind.u16.wrap (ji6)), .int .u16 (IntKind.u16.wrap (ji10)), .int .u8 x141002_1, .int .u8 x141003_1, .int .i64 2] 24 (0, 0)) (by (with_reducible repeat (first | refine blk_drewN ?_ _ | refine blk_drew ?_ | refine blk_alloc ?_ _)); exact BK140.out) hb); have n3_ := Aside0.mk (below_step (by repeat (first | (with_reducible first | exact HB.out | apply below_alloc | apply pw_below_drewN | apply below_drew1 | refine below_set ?_ GE137.out | refine below_set ?_ GE140.out) | exact HB.out)) hb); clear HO_22; clear BK137; clear BK140; clear HB; have HO_22 := n0_; have BK137 := n1_; have BK140 := n2_; have HB := n3_; clear n0_ n1_ n2_ n3_; (try clear hb); (try clear hb2); (try clear hk); (try clear hi); have hcz79_0 : w78.cell? ⟨gb140, 0, none⟩ = some (.int .u16 (IntKind.u16.wrap (ji6))) := (blk_cell BK140.out 0).trans rfl; have hcz79_1 : w78.cell? ⟨gb140, 1, none⟩ = some (.int .u16 (IntKind.u16.wrap (ji10))) := (blk_cell BK140.out 1).trans rfl; have hcz79_2 : w78.cell? ⟨gb140, 2, none⟩ = some (.int .u8 x141002_1) := (blk_cell BK140.out 2).trans rfl; have hcz79_3 : w78.cell? ⟨gb140, 3, none⟩ = some (.int .u8 x141003_1) := (blk_cell BK140.out 3).trans rfl; have hcz79_4 : w78.cell? ⟨gb140, 4, none⟩ = some (.int .i64 2) := (blk_cell BK140.out 4).trans rfl; have hfz79_0 := blk_frozen BK140.out 0; have hfz79_1 := blk_frozen BK140.out 1; have hfz79_2 := blk_frozen BK140.out 2; have hfz79_3 := blk_frozen BK140.out 3; have hfz79_4 := blk_frozen BK140.out 4; have hcz80_0 : w78.cell? ⟨gb137, 0, none⟩ = some (.int .u16 0) := (blk_cell BK137.out 0).trans rfl; have hcz80_1 : w78.cell? ⟨gb137, 1, none⟩ = some (.int .u16 0) := (blk_cell BK137.out 1).trans rfl; have hcz80_2 : w78.cell? ⟨gb137, 2, none⟩ = some (.int .u8 0) := (blk_cell BK137.out 2).trans rfl; have hcz80_3 : w78.cell? ⟨gb137, 3, none⟩ = some (.int .u8 0) := (blk_cell BK137.out 3).trans rfl; have hcz80_4 : w78.cell? ⟨gb137, 4, none⟩ = some (.int .i64 0) := (blk_cell BK137.out 4).trans rfl; have hfz80_0 := blk_frozen BK137.out 0; have hfz80_1 := blk_frozen BK137.out 1; have hfz80_2 := blk_frozen BK137.out 2; have hfz80_3 := blk_frozen BK137.out 3; have hfz80_4 := blk_frozen BK137.out 4))
                          refine bodyPost_ret (results_ct rfl _ _ gb137 24 #[.int .u16 (IntKind.u16.wrap (ji6)), .int .u16 (IntKind.u16.wrap (ji10)), .int .u8 x141002_1, .int .u8 x141003_1, .int .i64 2] (0, 0) _ rfl (by (with_reducible repeat (first | refine blk_drewN ?_ _ | refine blk_drew ?_ | refine blk_alloc ?_ _)); refine blk_put (cs := #[.int .u16 (IntKind.u16.wrap (ji6)), .int .u16 (IntKind.u16.wrap (ji10)), .int .u8 x141002_1, .int .u8 x141003_1, .int .i64 0]) ?_ 4 _ rfl; (with_reducible repeat (first | refine blk_drewN ?_ _ | refine blk_drew ?_ | refine blk_alloc ?_ _)); refine blk_put (cs := #[.int .u16 (IntKind.u16.wrap (ji6)), .int .u16 (IntKind.u16.wrap (ji10)), .int .u8 x141002_1, .int .u8 0, .int .i64 0]) ?_ 3 _ rfl; (with_reducible repeat (first | refine blk_drewN ?_ _ | refine blk_drew ?_ | refine blk_alloc ?_ _)); refine blk_put (cs := #[.int .u16 (IntKind.u16.wrap (ji6)), .int .u16 (IntKind.u16.wrap (ji10)), .int .u8 0, .int .u8 0, .int .i64 0]) ?_ 2 _ rfl; (with_reducible repeat (first | refine blk_drewN ?_ _ | refine blk_drew ?_ | refine blk_alloc ?_ _)); refine blk_put (cs := #[.int .u16 (IntKind.u16.wrap (ji6)), .int .u16 0, .int .u8 0, .int .u8 0, .int .i64 0]) ?_ 1 _ rfl; (with_reducible repeat (first | refine blk_drewN ?_ _ | refine blk_drew ?_ | refine blk_alloc ?_ _)); refine blk_put (cs := #[.int .u16 0, .int .u16 0, .int .u8 0, .int .u8 0, .int .i64 0]) ?_ 0 _ rfl; (with_reducible repeat (first | refine blk_drewN ?_ _ | refine blk_drew ?_ | refine blk_alloc ?_ _)); exact BK137.out) Try.underlying24 rfl (by kernel_rfl)) rfl ?_
                          exact ⟨by first | rfl | (simp [errW_none, errW_some] <;> rfl) | (simp only [← hji6, ← hji10]; first | rfl | (simp [errW_none, errW_some] <;> rfl)) | (simp [*, errW_none, errW_some] <;> rfl), by repeat (first | (with_reducible first | exact HB.out | apply below_alloc | apply pw_below_drewN | apply below_drew1 | refine below_set ?_ GE137.out | refine below_set ?_ GE140.out) | exact HB.out)⟩
                        · rw [if_neg c75] at H
                          have c75b0 : (t148.toList == a0.toList) = false := beq_eq_false_iff_ne.mpr c75
                          have c75b1 : (t148.toList != a0.toList) = true := bne_iff_ne.mpr c75
                          simp only [Option.some.injEq, Prod.mk.injEq] at H
                          obtain ⟨rfl, rfl, rfl, rfl, rfl, rfl⟩ := H
                          have p49 : 0 ≤ (13 : Int) := (by omega)
                          have q49 : 13 < a0.size := (by have : (13 : Int) < (a0.size : Int) := of_decide_eq_true (by first | (with_reducible assumption) | assumption); omega)
                          have hx49 : ∀ h : 13 < a0.size, ((a0[13]'h).toNat : Int) = bt a0 13 := bt_at a0 13
                          clear p49
                          have qi49 : (13 < (a0.size : Int)) = True := eq_true (of_decide_eq_true (by first | (with_reducible assumption) | assumption))
                          replace q49 := eq_true q49
                          have hnb81 := NB140_137.out
                          have hnc81 := NB137_140.out
                          have hcz82_0 : wr.cell? ⟨gb140, 0, none⟩ = some (.int .u16 (IntKind.u16.wrap (ji6))) := (blk_cell BK140.out 0).trans rfl
                          have hcz82_1 : wr.cell? ⟨gb140, 1, none⟩ = some (.int .u16 (IntKind.u16.wrap (ji10))) := (blk_cell BK140.out 1).trans rfl
                          have hcz82_2 : wr.cell? ⟨gb140, 2, none⟩ = some (.int .u8 x141002_1) := (blk_cell BK140.out 2).trans rfl
                          have hcz82_3 : wr.cell? ⟨gb140, 3, none⟩ = some (.int .u8 x141003_1) := (blk_cell BK140.out 3).trans rfl
                          have hcz82_4 : wr.cell? ⟨gb140, 4, none⟩ = some (.int .i64 2) := (blk_cell BK140.out 4).trans rfl
                          have hfz82_0 := blk_frozen BK140.out 0
                          have hfz82_1 := blk_frozen BK140.out 1
                          have hfz82_2 := blk_frozen BK140.out 2
                          have hfz82_3 := blk_frozen BK140.out 3
                          have hfz82_4 := blk_frozen BK140.out 4
                          go_wp2_with (first | ((with_reducible refine gate_callee (f := 10) rfl ?_); refine goesL_ (some 65) rfl rfl Try.func10 (by kernel_rfl) rfl #[.agg #[.int .u16 (IntKind.u16.wrap (ji6)), .int .u16 (IntKind.u16.wrap (ji10)), .int .u8 x141002_1, .int .u8 x141003_1, .int .i64 2]] rfl (by (try simp only [List.map_toArray, List.map_cons, List.map_nil]); first | done | (simp only [hji10, hji6]; rfl) | rfl | (simp only [List.length_drop, List.length_take]; rfl)) ?_; (with_reducible refine (impl_RuleText.calls k1 (IntKind.u16.wrap (ji6)) (IntKind.u16.wrap (ji10)) x141002_1 x141003_1 2 t148 _ A74.out).mono ?_); rintro e w83 ⟨rfl, hb⟩; refine ⟨_, rfl, ?_⟩; have n0_ := Aside0.mk (Kd.R_below (by (with_reducible repeat (first | apply Kd.R_alloc | apply Kd.R_drewN | apply Kd.R_drew)); exact HO_22.out) hb); have n1_ := Aside0.mk (blk_below (g := gb137) (o := .cells #[.int .u16 0, .int .u16 0, .int .u8 0, .int .u8 0, .int .i64 0] 24 (0, 0)) (by (with_reducible repeat (first | refine blk_drewN ?_ _ | refine blk_drew ?_ | refine blk_alloc ?_ _)); exact BK137.out) hb); have n2_ := Aside0.mk (blk_below (g := gb140) (o := .cells #[.int .u16 (IntKind.u16.wrap (ji6)), .int .u16 (IntKind.u16.wrap (ji10)), .int .u8 x141002_1, .int .u8 x141003_1, .int .i64 2] 24 (0, 0)) (by (with_reducible repeat (first | refine blk_drewN ?_ _ | refine blk_drew ?_ | refine blk_alloc ?_ _)); exact BK140.out) hb); have n3_ := Aside0.mk (below_step (by repeat (first | (with_reducible first | exact HB.out | apply below_alloc | apply pw_below_drewN | apply below_drew1 | refine below_set ?_ GE137.out | refine below_set ?_ GE140.out) | exact HB.out)) hb); clear HO_22; clear BK137; clear BK140; clear HB; have HO_22 := n0_; have BK137 := n1_; have BK140 := n2_; have HB := n3_; clear n0_ n1_ n2_ n3_; (try clear hb); (try clear hb2); (try clear hk); (try clear hi); have hcz84_0 : w83.cell? ⟨gb137, 0, none⟩ = some (.int .u16 0) := (blk_cell BK137.out 0).trans rfl; have hcz84_1 : w83.cell? ⟨gb137, 1, none⟩ = some (.int .u16 0) := (blk_cell BK137.out 1).trans rfl; have hcz84_2 : w83.cell? ⟨gb137, 2, none⟩ = some (.int .u8 0) := (blk_cell BK137.out 2).trans rfl; have hcz84_3 : w83.cell? ⟨gb137, 3, none⟩ = some (.int .u8 0) := (blk_cell BK137.out 3).trans rfl; have hcz84_4 : w83.cell? ⟨gb137, 4, none⟩ = some (.int .i64 0) := (blk_cell BK137.out 4).trans rfl; have hfz84_0 := blk_frozen BK137.out 0; have hfz84_1 := blk_frozen BK137.out 1; have hfz84_2 := blk_frozen BK137.out 2; have hfz84_3 := blk_frozen BK137.out 3; have hfz84_4 := blk_frozen BK137.out 4))
                          refine bodyPost_ret (results_ct rfl _ _ gb137 24 #[.int .u16 0, .int .u16 0, .int .u8 0, .int .u8 0, .int .i64 0] (0, 0) _ rfl (by (with_reducible repeat (first | refine blk_drewN ?_ _ | refine blk_drew ?_ | refine blk_alloc ?_ _)); refine blk_put (cs := #[.int .u16 0, .int .u16 0, .int .u8 0, .int .u8 0, .int .i64 0]) ?_ 4 _ rfl; (with_reducible repeat (first | refine blk_drewN ?_ _ | refine blk_drew ?_ | refine blk_alloc ?_ _)); refine blk_put (cs := #[.int .u16 0, .int .u16 0, .int .u8 0, .int .u8 0, .int .i64 0]) ?_ 3 _ rfl; (with_reducible repeat (first | refine blk_drewN ?_ _ | refine blk_drew ?_ | refine blk_alloc ?_ _)); refine blk_put (cs := #[.int .u16 0, .int .u16 0, .int .u8 0, .int .u8 0, .int .i64 0]) ?_ 2 _ rfl; (with_reducible repeat (first | refine blk_drewN ?_ _ | refine blk_drew ?_ | refine blk_alloc ?_ _)); refine blk_put (cs := #[.int .u16 0, .int .u16 0, .int .u8 0, .int .u8 0, .int .i64 0]) ?_ 1 _ rfl; (with_reducible repeat (first | refine blk_drewN ?_ _ | refine blk_drew ?_ | refine blk_alloc ?_ _)); refine blk_put (cs := #[.int .u16 0, .int .u16 0, .int .u8 0, .int .u8 0, .int .i64 0]) ?_ 0 _ rfl; (with_reducible repeat (first | refine blk_drewN ?_ _ | refine blk_drew ?_ | refine blk_alloc ?_ _)); exact BK137.out) Try.underlying24 rfl (by kernel_rfl)) rfl ?_
                          exact ⟨by first | rfl | (simp [errW_none, errW_some] <;> rfl) | (simp only [← hji6, ← hji10]; first | rfl | (simp [errW_none, errW_some] <;> rfl)) | (simp [*, errW_none, errW_some] <;> rfl), by repeat (first | (with_reducible first | exact HB.out | apply below_alloc | apply pw_below_drewN | apply below_drew1 | refine below_set ?_ GE137.out | refine below_set ?_ GE140.out) | exact HB.out)⟩
                  · rw [if_neg c48] at H
                    exact absurd H (by simp)
          · rw [if_neg c8] at H
            exact absurd H (by simp)
        · rw [if_neg c7] at H
          exact absurd H (by simp)
      · rw [if_neg c4] at H
        exact absurd H (by simp)
    · rw [if_neg c3] at H
      exact absurd H (by simp)
  · rw [if_neg c2] at H
    have c2b0 : ((a0.size : Int) == 14) = false := beq_eq_false_iff_ne.mpr c2
    have c2b1 : ((a0.size : Int) != 14) = true := bne_iff_ne.mpr c2
    simp only [Option.some.injEq, Prod.mk.injEq] at H
    obtain ⟨rfl, rfl, rfl, rfl, rfl, rfl⟩ := H
    go_enter Try.func6, Try.ntmps6
    go_wp2_with (first | ((with_reducible refine gate_dst (N := 2) rfl ?_); refine box_event ?hg (N := 2) ?hd (cs := #[.int .u16 0, .int .u16 0, .int .u8 0, .int .u8 0, .int .i64 0]) (t := 24) ?hr ?_; (case hd => rfl); (case hg => rfl); (case hr => first | (go_simp; done) | (go_simp; rfl)); intro gb137 hg w85 hbox hb; have n0_ := Aside0.mk (below_step (by repeat (first | (with_reducible first | exact HB.out | apply below_alloc | apply pw_below_drewN | apply below_drew1) | exact HB.out)) hb); have n1_ := Aside0.mk (hbox); have n2_ := Aside0.mk ((by rw [hg]; exact (below_size (by repeat (first | (with_reducible first | exact HB.out | apply below_alloc | apply pw_below_drewN | apply below_drew1) | exact HB.out))) : w.heap.size ≤ gb137)); have n3_ := Aside0.mk ((by rw [hg]; exact (below_size (by repeat (first | (with_reducible first | exact HB.out | apply below_alloc | apply pw_below_drewN | apply below_drew1) | exact HB.out))) : w.heap.size ≤ gb137)); clear HB; have HB := n0_; have BK137 := n1_; have GW137 := n2_; have GE137 := n3_; clear n0_ n1_ n2_ n3_; clear hb hbox hg; have hcz86_0 : w85.cell? ⟨gb137, 0, none⟩ = some (.int .u16 0) := (blk_cell BK137.out 0).trans rfl; have hcz86_1 : w85.cell? ⟨gb137, 1, none⟩ = some (.int .u16 0) := (blk_cell BK137.out 1).trans rfl; have hcz86_2 : w85.cell? ⟨gb137, 2, none⟩ = some (.int .u8 0) := (blk_cell BK137.out 2).trans rfl; have hcz86_3 : w85.cell? ⟨gb137, 3, none⟩ = some (.int .u8 0) := (blk_cell BK137.out 3).trans rfl; have hcz86_4 : w85.cell? ⟨gb137, 4, none⟩ = some (.int .i64 0) := (blk_cell BK137.out 4).trans rfl; have hfz86_0 := blk_frozen BK137.out 0; have hfz86_1 := blk_frozen BK137.out 1; have hfz86_2 := blk_frozen BK137.out 2; have hfz86_3 := blk_frozen BK137.out 3; have hfz86_4 := blk_frozen BK137.out 4))
    refine bodyPost_ret (results_ct rfl _ _ gb137 24 #[.int .u16 0, .int .u16 0, .int .u8 0, .int .u8 0, .int .i64 0] (0, 0) _ rfl (by (with_reducible repeat (first | refine blk_drewN ?_ _ | refine blk_drew ?_ | refine blk_alloc ?_ _)); refine blk_put (cs := #[.int .u16 0, .int .u16 0, .int .u8 0, .int .u8 0, .int .i64 0]) ?_ 4 _ rfl; (with_reducible repeat (first | refine blk_drewN ?_ _ | refine blk_drew ?_ | refine blk_alloc ?_ _)); refine blk_put (cs := #[.int .u16 0, .int .u16 0, .int .u8 0, .int .u8 0, .int .i64 0]) ?_ 3 _ rfl; (with_reducible repeat (first | refine blk_drewN ?_ _ | refine blk_drew ?_ | refine blk_alloc ?_ _)); refine blk_put (cs := #[.int .u16 0, .int .u16 0, .int .u8 0, .int .u8 0, .int .i64 0]) ?_ 2 _ rfl; (with_reducible repeat (first | refine blk_drewN ?_ _ | refine blk_drew ?_ | refine blk_alloc ?_ _)); refine blk_put (cs := #[.int .u16 0, .int .u16 0, .int .u8 0, .int .u8 0, .int .i64 0]) ?_ 1 _ rfl; (with_reducible repeat (first | refine blk_drewN ?_ _ | refine blk_drew ?_ | refine blk_alloc ?_ _)); refine blk_put (cs := #[.int .u16 0, .int .u16 0, .int .u8 0, .int .u8 0, .int .i64 0]) ?_ 0 _ rfl; (with_reducible repeat (first | refine blk_drewN ?_ _ | refine blk_drew ?_ | refine blk_alloc ?_ _)); exact BK137.out) Try.underlying24 rfl (by kernel_rfl)) rfl ?_
    exact ⟨by first | rfl | (simp [errW_none, errW_some] <;> rfl) | (simp [*, errW_none, errW_some] <;> rfl), by repeat (first | (with_reducible first | exact HB.out | apply below_alloc | apply pw_below_drewN | apply below_drew1 | refine below_set ?_ GE137.out) | exact HB.out)⟩

end Go.Proofs.Ytkngnnfjdmndeaa.ME
