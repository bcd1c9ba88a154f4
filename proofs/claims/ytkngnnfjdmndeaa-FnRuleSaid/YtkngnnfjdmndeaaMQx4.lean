-- Written by this session's own program (wip/myprint.py) over the kit's print of the translation. Lean checks it.
import Derived.Test.YtkngnnfjdmndeaaMQx0
import Derived.Test.YtkngnnfjdmndeaaMQx2
import Derived.Test.YtkngnnfjdmndeaaMQx3
namespace Go.Proofs.Ytkngnnfjdmndeaa.MQ
open Go.RowKit Go.Proofs.YtkngnnfjdmndeaaW.PrintWords Go.Proofs.YtkngnnfjdmndeaaW.PrintLast Go.Proofs.YtkngnnfjdmndeaaW.PrintMore
attribute [local go_sem] max2_int min2_int max_two min_two max_three min_three max_four min_four   -- for this text's walks alone
set_option linter.unusedVariables false
set_option linter.unusedSimpArgs false

/-! ### impl_ReadRule: function 6 -/
mutual
def impl_ReadRule.l0 : Nat → ByteArray → List Int → Int → Int → Int → Int → Int → Int → Int → Option (Int × Int × Int × Int × Int × Bool)
 | 0, _, _, _, _, _, _, _, _, _ => none
 | k + 1, x0, x22, x23, x24, x116000, x116001, x116002, x116003, x116004 => if x24 < x23 then (if 0 ≤ x24 then (if x24 < (x22.length : Int) then (if 0 ≤ (wrap64 (10 + x24)) then (if (wrap64 (10 + x24)) < (x0.size : Int) then (if (bt x0 (wrap64 (10 + x24))) = 63 then (impl_ReadRule.l0 k x0 x22 x23 (wrap64 (x24 + 1)) x116000 x116001 x116002 x116003 x116004) else (if 0 ≤ (rd x22 x24) then (if (wrap64 (10 + x24)) ≤ (wrap64 (11 + x24)) then (if (wrap64 (11 + x24)) ≤ (x0.size : Int) then ((impl_ReadHex.f k (x0.extract ((wrap64 (10 + x24)) : Int).toNat ((wrap64 (11 + x24)) : Int).toNat) 1).bind fun t120 => (impl_ReadRule.l0 k x0 x22 x23 (wrap64 (x24 + 1)) x116000 x116001 (Go.bits .or .u8 x116002 (shl .u8 15 (rd x22 x24))) (Go.bits .or .u8 x116003 (shl .u8 ((mx 0 t120) % 256) (rd x22 x24))) x116004)) else (none)) else (none)) else (none))) else (none)) else (none)) else (none)) else (none)) else (if 13 < (x0.size : Int) then (if (bt x0 13) = 114 then (impl_ReadRule.j1 k x0 x116000 x116001 x116002 x116003 0) else (if (bt x0 13) = 119 then (impl_ReadRule.j1 k x0 x116000 x116001 x116002 x116003 1) else (impl_ReadRule.j1 k x0 x116000 x116001 x116002 x116003 x116004))) else (none))
def impl_ReadRule.j1 : Nat → ByteArray → Int → Int → Int → Int → Int → Option (Int × Int × Int × Int × Int × Bool)
 | 0, _, _, _, _, _, _ => none
 | k + 1, x0, x116000, x116001, x116002, x116003, x116004 => (impl_RuleText.f k x116000 x116001 x116002 x116003 x116004).bind fun t121 => (if t121.toList = x0.toList then (some (x116000, x116001, x116002, x116003, x116004, true)) else (some (0, 0, 0, 0, 0, false)))
end
def impl_ReadRule.f (k : Nat) (a0 : ByteArray) : Option (Int × Int × Int × Int × Int × Bool) := if (a0.size : Int) = 14 then (if 0 ≤ 4 then (if 4 ≤ (a0.size : Int) then ((impl_ReadHex.f k (a0.extract 0 4) 4).bind fun t113 => (if 5 ≤ 9 then (if 9 ≤ (a0.size : Int) then ((impl_ReadHex.f k (a0.extract 5 9) 4).bind fun t114 => ((some (([4, 0] : List Int) : List Int)).bind fun y116 => (impl_ReadRule.l0 k a0 y116 (y116.length : Int) 0 (IntKind.u16.wrap (mx 0 t113)) (IntKind.u16.wrap (mx 0 t114)) 0 0 2))) else (none)) else (none))) else (none)) else (none)) else (some (0, 0, 0, 0, 0, false))
theorem impl_ReadRule.mono_l : ∀ k, (∀ y0 y1 y2 y3 y4 y5 y6 y7 y8, LeO (impl_ReadRule.l0 k y0 y1 y2 y3 y4 y5 y6 y7 y8) (impl_ReadRule.l0 (k + 1) y0 y1 y2 y3 y4 y5 y6 y7 y8)) ∧ (∀ y0 y1 y2 y3 y4 y5, LeO (impl_ReadRule.j1 k y0 y1 y2 y3 y4 y5) (impl_ReadRule.j1 (k + 1) y0 y1 y2 y3 y4 y5))
 | 0 => ⟨fun _ _ _ _ _ _ _ _ _ r h => by simp [impl_ReadRule.l0] at h, fun _ _ _ _ _ _ r h => by simp [impl_ReadRule.j1] at h⟩
 | k + 1 => by
  obtain ⟨ih0, ih1⟩ := impl_ReadRule.mono_l k
  refine ⟨?_, ?_⟩
  ·intro y0 y1 y2 y3 y4 y5 y6 y7 y8
   unfold impl_ReadRule.l0
   repeat' first
   | (with_reducible exact ih0 _ _ _ _ _ _ _ _ _)
   | (with_reducible exact ih1 _ _ _ _ _ _)
   | (with_reducible exact impl_ReadHex.mono _ _ _)
   | (with_reducible exact impl_RuleText.mono _ _ _ _ _ _)
   | (with_reducible exact LeO.refl _)
   | (with_reducible exact LeO.none _)
   | (with_reducible refine LeO.ite ?_ ?_)
   | (with_reducible refine LeO.bind ?_ (fun _ => ?_))
   | exact ih0 _ _ _ _ _ _ _ _ _
   | exact ih1 _ _ _ _ _ _
   | exact impl_ReadHex.mono _ _ _
   | exact impl_RuleText.mono _ _ _ _ _ _
   | exact LeO.none _
   | refine LeO.ite ?_ ?_
   | refine LeO.bind ?_ (fun _ => ?_)
  ·intro y0 y1 y2 y3 y4 y5
   unfold impl_ReadRule.j1
   repeat' first
   | (with_reducible exact ih0 _ _ _ _ _ _ _ _ _)
   | (with_reducible exact ih1 _ _ _ _ _ _)
   | (with_reducible exact impl_ReadHex.mono _ _ _)
   | (with_reducible exact impl_RuleText.mono _ _ _ _ _ _)
   | (with_reducible exact LeO.refl _)
   | (with_reducible exact LeO.none _)
   | (with_reducible refine LeO.ite ?_ ?_)
   | (with_reducible refine LeO.bind ?_ (fun _ => ?_))
   | exact ih0 _ _ _ _ _ _ _ _ _
   | exact ih1 _ _ _ _ _ _
   | exact impl_ReadHex.mono _ _ _
   | exact impl_RuleText.mono _ _ _ _ _ _
   | exact LeO.none _
   | refine LeO.ite ?_ ?_
   | refine LeO.bind ?_ (fun _ => ?_)
theorem impl_ReadRule.mono : ∀ a0 k, LeO (impl_ReadRule.f k a0) (impl_ReadRule.f (k + 1) a0) := by
 intro a0 k
 obtain ⟨ih0, ih1⟩ := impl_ReadRule.mono_l k
 unfold impl_ReadRule.f
 repeat' first
   | (with_reducible exact ih0 _ _ _ _ _ _ _ _ _)
   | (with_reducible exact ih1 _ _ _ _ _ _)
   | (with_reducible exact impl_ReadHex.mono _ _ _)
   | (with_reducible exact impl_RuleText.mono _ _ _ _ _ _)
   | (with_reducible exact LeO.refl _)
   | (with_reducible exact LeO.none _)
   | (with_reducible refine LeO.ite ?_ ?_)
   | (with_reducible refine LeO.bind ?_ (fun _ => ?_))
   | exact ih0 _ _ _ _ _ _ _ _ _
   | exact ih1 _ _ _ _ _ _
   | exact impl_ReadHex.mono _ _ _
   | exact impl_RuleText.mono _ _ _ _ _ _
   | exact LeO.none _
   | refine LeO.ite ?_ ?_
   | refine LeO.bind ?_ (fun _ => ?_)
def impl_ReadRule.T3 : Bool × List (List Nat × List Nat) := (true, [([], []), ([0], [0]), ([1], [1]), ([2], [2]), ([3], [3]), ([], []), ([5], [5]), ([6, 2], [6]), ([7], [7]), ([8], [8]), ([4, 9], [4, 9]), ([], []), ([11, 10, 7, 0, 1, 2, 3, 4, 5, 6, 7, 8, 9, 10, 11], [10, 11])])
def impl_ReadRule.B3 : List Nat := [0, 1, 3, 7, 15, 0, 32, 103, 231, 487, 1023, 0, 4095]
theorem impl_ReadRule.tab3 : rtab .any (opsOf Try.f6 3) = impl_ReadRule.T3 := by kernel_rfl
theorem impl_ReadRule.bits3 : waitsOk impl_ReadRule.T3.2 impl_ReadRule.B3 = true := by kernel_rfl
def impl_ReadRule.T9 : Bool × List (List Nat × List Nat) := (true, [([], []), ([0], [0]), ([], []), ([], []), ([3], [3]), ([], []), ([5], [5]), ([2, 4, 6], [2, 4, 6]), ([7], [7]), ([8], [8]), ([9], [9]), ([], []), ([10, 11], [10, 11]), ([1, 12], [1, 12]), ([0, 1, 2, 3, 4, 5, 6, 7, 8, 9, 10, 11, 12, 13], []), ([14, 13, 8, 0, 1, 2, 3, 4, 5, 6, 7, 8, 9, 10, 11, 12, 13], [13, 14])])
def impl_ReadRule.B9 : List Nat := [0, 1, 0, 0, 8, 0, 32, 124, 252, 508, 1020, 0, 4092, 8191, 16383, 32767]
theorem impl_ReadRule.tab9 : rtab .any (opsOf Try.f6 9) = impl_ReadRule.T9 := by kernel_rfl
theorem impl_ReadRule.bits9 : waitsOk impl_ReadRule.T9.2 impl_ReadRule.B9 = true := by kernel_rfl
set_option maxHeartbeats 8000000 in
set_option maxRecDepth 100000 in
theorem impl_ReadRule.calls (k : Nat) (a0 : ByteArray) (r1 : Int) (r2 : Int) (r3 : Int) (r4 : Int) (r5 : Int) (r6 : Bool) (w : World) (h : impl_ReadRule.f k a0 = some (r1, r2, r3, r4, r5, r6)) :
  Calls Try.prog 6 #[.string a0] w fun e w' => e = .returned (.tuple #[.agg #[.int .u16 r1, .int .u16 r2, .int .u8 r3, .int .u8 r4, .int .i64 r5], .bool r6]) ∧ Below w.heap.size w w' := by
 have hu24 := Try.underlying24
 have HB := Aside0.mk (Below.refl w.heap.size w)
 have H : (if (a0.size : Int) = 14 then (if 0 ≤ 4 then (if 4 ≤ (a0.size : Int) then ((impl_ReadHex.f k (a0.extract 0 4) 4).bind fun t113 => (if 5 ≤ 9 then (if 9 ≤ (a0.size : Int) then ((impl_ReadHex.f k (a0.extract 5 9) 4).bind fun t114 => ((some (([4, 0] : List Int) : List Int)).bind fun y116 => (impl_ReadRule.l0 k a0 y116 (y116.length : Int) 0 (IntKind.u16.wrap (mx 0 t113)) (IntKind.u16.wrap (mx 0 t114)) 0 0 2))) else (none)) else (none))) else (none)) else (none)) else (some (0, 0, 0, 0, 0, false))) = some (r1, r2, r3, r4, r5, r6) := h
 clear h
 by_cases c2 : (a0.size : Int) = 14
 ·rw [if_pos c2] at H
  have c2b0 : ((a0.size : Int) == 14) = true := beq_iff_eq.mpr c2
  have c2b1 : ((a0.size : Int) != 14) = false := bne_eq_false_iff_eq.mpr c2
  clear c2
  by_cases c3 : 0 ≤ 4
  ·rw [if_pos c3] at H
   have c3b0 := eq_true c3
   have c3b1 : decide (0 ≤ 4) = true := decide_eq_true c3
   clear c3
   by_cases c4 : 4 ≤ (a0.size : Int)
   ·rw [if_pos c4] at H
    have c4b0 := eq_true c4
    have c4b1 : decide (4 ≤ (a0.size : Int)) = true := decide_eq_true c4
    clear c4
    replace H := Option.bind_eq_some_iff.mp H
    obtain ⟨t113, A50, H⟩ := H
    replace H : (if 5 ≤ 9 then (if 9 ≤ (a0.size : Int) then ((impl_ReadHex.f k (a0.extract 5 9) 4).bind fun t114 => ((some (([4, 0] : List Int) : List Int)).bind fun y116 => (impl_ReadRule.l0 k a0 y116 (y116.length : Int) 0 (IntKind.u16.wrap (mx 0 t113)) (IntKind.u16.wrap (mx 0 t114)) 0 0 2))) else (none)) else (none)) = some (r1, r2, r3, r4, r5, r6) := H
    have A5 := Aside0.mk A50
    clear A50
    obtain ⟨ji6, hji6⟩ : ∃ j_ : Int, (mx 0 t113) = j_ := ⟨_, rfl⟩
    replace H : (if 5 ≤ 9 then (if 9 ≤ (a0.size : Int) then ((impl_ReadHex.f k (a0.extract 5 9) 4).bind fun t114 => ((some (([4, 0] : List Int) : List Int)).bind fun y116 => (impl_ReadRule.l0 k a0 y116 (y116.length : Int) 0 (IntKind.u16.wrap (ji6)) (IntKind.u16.wrap (mx 0 t114)) 0 0 2))) else (none)) else (none)) = some (r1, r2, r3, r4, r5, r6) := by first | (rw [hji6] at H; exact H) | (simp only [hji6] at H ⊢; exact H)
    (try rw [hji6] at A5)
    (try (have hji6l : 0 ≤ ji6 := by (rw [← hji6]; unfold mx; (repeat' split) <;> omega)))
    (try (have hji6m : 0 ≤ ji6 := by omega))
    have hji6_ : (if 0 < t113 then t113 else 0) = ji6 := hji6
    by_cases c7 : 5 ≤ 9
    ·rw [if_pos c7] at H
     have c7b0 := eq_true c7
     have c7b1 : decide (5 ≤ 9) = true := decide_eq_true c7
     clear c7
     by_cases c8 : 9 ≤ (a0.size : Int)
     ·rw [if_pos c8] at H
      have c8b0 := eq_true c8
      have c8b1 : decide (9 ≤ (a0.size : Int)) = true := decide_eq_true c8
      clear c8
      replace H := Option.bind_eq_some_iff.mp H
      obtain ⟨t114, A90, H⟩ := H
      replace H : ((some (([4, 0] : List Int) : List Int)).bind fun y116 => (impl_ReadRule.l0 k a0 y116 (y116.length : Int) 0 (IntKind.u16.wrap (ji6)) (IntKind.u16.wrap (mx 0 t114)) 0 0 2)) = some (r1, r2, r3, r4, r5, r6) := H
      have A9 := Aside0.mk A90
      clear A90
      obtain ⟨ji10, hji10⟩ : ∃ j_ : Int, (mx 0 t114) = j_ := ⟨_, rfl⟩
      replace H : ((some (([4, 0] : List Int) : List Int)).bind fun y116 => (impl_ReadRule.l0 k a0 y116 (y116.length : Int) 0 (IntKind.u16.wrap (ji6)) (IntKind.u16.wrap (ji10)) 0 0 2)) = some (r1, r2, r3, r4, r5, r6) := by first | (rw [hji10] at H; exact H) | (simp only [hji10] at H ⊢; exact H)
      (try rw [hji10] at A5)
      (try rw [hji10] at A9)
      (try (have hji10l : 0 ≤ ji10 := by (rw [← hji10]; unfold mx; (repeat' split) <;> omega)))
      (try (have hji10m : 0 ≤ ji10 := by omega))
      have hji10_ : (if 0 < t114 then t114 else 0) = ji10 := hji10
      obtain ⟨y116, hy116⟩ : ∃ y_ : List Int, y_ = (([4, 0] : List Int)) := ⟨_, rfl⟩
      replace H : (impl_ReadRule.l0 k a0 y116 (y116.length : Int) 0 (IntKind.u16.wrap (ji6)) (IntKind.u16.wrap (ji10)) 0 0 2) = some (r1, r2, r3, r4, r5, r6) := by first | (rw [hy116]; with_reducible exact H) | (have H2_ := (Option.bind_some _ _).symm.trans H; rw [hy116]; with_reducible exact H2_) | (have H2_ := (Option.bind_some _ _).symm.trans H; with_reducible exact H2_) | with_reducible exact H | (rw [hy116]; exact H) | exact H
      have Ny116 := Aside0.mk hy116
      clear hy116
      have H' := Aside0.mk H
      clear H
      go_enter Try.func6, Try.ntmps6
      try go_wp2_with (first | ((with_reducible refine gate_dst (N := 2) rfl ?_); refine box_event ?hg (N := 2) ?hd (cs := #[.int .u16 0, .int .u16 0, .int .u8 0, .int .u8 0, .int .i64 0]) (t := 24) ?hr ?_; (case hd => rfl); (case hg => rfl); (case hr => first | (go_simp; done) | (go_simp; rfl)); intro gb112 hg w11 hbox hb; have n0_ := Aside0.mk (below_step (by repeat (first | (with_reducible first | exact HB.out | apply below_alloc | apply pw_below_drewN | apply below_drew1) | exact HB.out)) hb); have n1_ := Aside0.mk (hbox); have n2_ := Aside0.mk ((by rw [hg]; exact (below_size (by repeat (first | (with_reducible first | exact HB.out | apply below_alloc | apply pw_below_drewN | apply below_drew1) | exact HB.out))) : w.heap.size ≤ gb112)); have n3_ := Aside0.mk ((by rw [hg]; exact (below_size (by repeat (first | (with_reducible first | exact HB.out | apply below_alloc | apply pw_below_drewN | apply below_drew1) | exact HB.out))) : w.heap.size ≤ gb112)); clear HB; have HB := n0_; have BK112 := n1_; have GW112 := n2_; have GE112 := n3_; clear n0_ n1_ n2_ n3_; clear hb hbox hg))
      have n0_ := Aside0.mk (blk_drew BK112.out)
      have n1_ := Aside0.mk (below_drew1 HB.out)
      clear BK112
      clear HB
      have BK112 := n0_
      have HB := n1_
      clear n0_ n1_
      refine start_ (n := 13) (S := fun w' => True) (ds := []) #[false, false, false, false, false, false, false, false, false, false, false, false, false] (by kernel_rfl) rfl rfl trivial (fun hHeld => ?_); refine with_tabW impl_ReadRule.tab3 impl_ReadRule.bits3 (fun HT_ HW_ => ?_)
      generalize w11.drew = w12 at BK112 HB hHeld ⊢
      refine pure_ (i := 0) (N := some 11) (v := ?_) (a' := ?_) #[true, false, false, false, false, false, false, false, false, false, false, false, false] rfl rfl (any_of HT_.out (by kernel_rfl)) (fun _ _ _ h => h) (Or.inl ⟨by rfl, ?_⟩) ?_ ?_
      rotate_left
      ·intro w'
       go_simp
       with_reducible rfl
      rotate_left
      ·simp only [Act.put, List.setIfInBounds_toArray, List.set_cons_zero, List.set_cons_succ, i64_w, i32_w]
       rfl
      refine pure_ (i := 1) (N := some 12) (v := ?_) (a' := ?_) #[true, true, false, false, false, false, false, false, false, false, false, false, false] rfl rfl (any_of HT_.out (by kernel_rfl)) (fun _ _ _ h => h) (Or.inl ⟨by rfl, ?_⟩) ?_ ?_
      rotate_left
      ·intro w'
       go_simp
       with_reducible rfl
      rotate_left
      ·simp only [Act.put, List.setIfInBounds_toArray, List.set_cons_zero, List.set_cons_succ, i64_w, i32_w]
       rfl
      refine pure_ (i := 5) (N := some 16) (v := ?_) (a' := ?_) #[true, true, false, false, false, true, false, false, false, false, false, false, false] rfl rfl (any_of HT_.out (by kernel_rfl)) (fun _ _ _ h => h) (Or.inl ⟨by rfl, ?_⟩) ?_ ?_
      rotate_left
      ·intro w'
       go_simp
       with_reducible rfl
      rotate_left
      ·simp only [Act.put, List.setIfInBounds_toArray, List.set_cons_zero, List.set_cons_succ, i64_w, i32_w]
       rfl
      refine pure_ (i := 6) (N := some 17) (v := ?_) (a' := ?_) #[true, true, false, false, false, true, true, false, false, false, false, false, false] rfl rfl (any_of HT_.out (by kernel_rfl)) (fun _ _ _ h => h) (Or.inl ⟨by rfl, ?_⟩) ?_ ?_
      rotate_left
      ·intro w'
       go_simp
       with_reducible rfl
      rotate_left
      ·simp only [Act.put, List.setIfInBounds_toArray, List.set_cons_zero, List.set_cons_succ, i64_w, i32_w]
       rfl
      refine join_ (σ := Nat) 1 #[true, true, true, true, true, true, true, true, true, true, true, true, false] (fun s_ => [(13, .int .i64 t113), (18, .int .i64 t114), (4, .pointer (some ⟨s_, 0, none⟩)), (14, .int .i64 ji6), (15, .int .u16 (IntKind.u16.wrap (ji6))), (19, .int .i64 ji10), (20, .int .u16 (IntKind.u16.wrap (ji10))), (21, .agg #[.int .u16 (IntKind.u16.wrap (ji6)), .int .u16 (IntKind.u16.wrap (ji10)), .int .u8 0, .int .u8 0, .int .i64 2])]) (fun s_ w' => (w'.heap[gb112]? = some (.cells #[.int .u16 0, .int .u16 0, .int .u8 0, .int .u8 0, .int .i64 0] 24 (0, 0))) ∧ (w'.heap[s_]? = some (.cells #[.int .u16 0, .int .u16 0, .int .u8 0, .int .u8 0, .int .i64 0] 24 (0, 0))) ∧ (w.heap.size ≤ s_) ∧ (w.heap.size ≤ s_) ∧ (gb112 ≠ s_) ∧ (s_ ≠ gb112) ∧ (Below w.heap.size w w')) ?_ ?_
      rotate_left
      ·intro hCont
       refine two_ (i := 2) (j := 11) (Ni := some 13) (Nj := some 4) #[true, true, true, false, false, true, true, false, false, false, false, false, false] #[true, true, false, false, false, true, true, false, false, false, false, true, false] rfl rfl rfl rfl (two_of HT_.out (by kernel_rfl)) (by decide) (by decide) (fun K hK => ?_) (fun K hK => ?_)
       ·skip
        refine goes_ Try.func17 (by kernel_rfl) rfl #[.string (a0.extract 0 4), .int .i64 4] (by rfl) rfl rfl (by (try simp only [List.map_toArray, List.map_cons, List.map_nil]); first | done | rfl | (simp only [List.length_drop, List.length_take]; rfl)) ?_
        with_reducible refine (impl_ReadHex.calls k (a0.extract 0 4) 4 t113 _ A5.out).mono ?_
        rintro e w13 ⟨rfl, hb⟩
        refine ⟨_, rfl, ?_⟩
        have n0_ := Aside0.mk (blk_below (g := gb112) (o := .cells #[.int .u16 0, .int .u16 0, .int .u8 0, .int .u8 0, .int .i64 0] 24 (0, 0)) (by (with_reducible repeat (first | refine blk_drewN ?_ _ | refine blk_drew ?_ | refine blk_alloc ?_ _)); exact BK112.out) hb)
        have n1_ := Aside0.mk (below_step (by repeat (first | (with_reducible first | exact HB.out | apply below_alloc | apply pw_below_drewN | apply below_drew1 | refine below_set ?_ GE112.out) | exact HB.out)) hb)
        clear BK112
        clear HB
        have BK112 := n0_
        have HB := n1_
        clear n0_ n1_
        (try clear hb)
        (try clear hb2)
        (try clear hk)
        (try clear hi)
        refine hK.out _ _ trivial (fun hHeld => ?_)
        clear hK K
        refine norm_ (a' := ?_) ?_ ?_
        rotate_left
        ·show Act.put _ (some 13) _ = _
         simp only [Act.put, List.setIfInBounds_toArray, List.set_cons_zero, List.set_cons_succ, i64_w, i32_w]
         rfl
        refine pure_ (i := 3) (N := some 14) (v := ?_) (a' := ?_) #[true, true, true, true, false, true, true, false, false, false, false, false, false] rfl rfl (any_of HT_.out (by kernel_rfl)) (fun _ _ _ h => h) (Or.inl ⟨by rfl, ?_⟩) ?_ ?_
        rotate_left
        ·intro w'
         go_simp
         with_reducible rfl
        rotate_left
        ·simp only [Act.put, List.setIfInBounds_toArray, List.set_cons_zero, List.set_cons_succ, i64_w, i32_w]
         rfl
        refine pure_ (i := 4) (N := some 15) (v := ?_) (a' := ?_) #[true, true, true, true, true, true, true, false, false, false, false, false, false] rfl rfl (any_of HT_.out (by kernel_rfl)) (fun _ _ _ h => h) (Or.inl ⟨by rfl, ?_⟩) ?_ ?_
        rotate_left
        ·intro w'
         go_simp
         with_reducible rfl
        rotate_left
        ·simp only [Act.put, List.setIfInBounds_toArray, List.set_cons_zero, List.set_cons_succ, i64_w, i32_w]
         rfl
        refine two_ (i := 7) (j := 11) (Ni := some 18) (Nj := some 4) #[true, true, true, true, true, true, true, true, false, false, false, false, false] #[true, true, true, true, true, true, true, false, false, false, false, true, false] rfl rfl rfl rfl (two_of HT_.out (by kernel_rfl)) (by decide) (by decide) (fun K hK => ?_) (fun K hK => ?_)
        ·skip
         refine goes_ Try.func17 (by kernel_rfl) rfl #[.string (a0.extract 5 9), .int .i64 4] (by rfl) rfl rfl (by (try simp only [List.map_toArray, List.map_cons, List.map_nil]); first | done | rfl | (simp only [List.length_drop, List.length_take]; rfl)) ?_
         with_reducible refine (impl_ReadHex.calls k (a0.extract 5 9) 4 t114 _ A9.out).mono ?_
         rintro e w14 ⟨rfl, hb⟩
         refine ⟨_, rfl, ?_⟩
         have n0_ := Aside0.mk (blk_below (g := gb112) (o := .cells #[.int .u16 0, .int .u16 0, .int .u8 0, .int .u8 0, .int .i64 0] 24 (0, 0)) (by (with_reducible repeat (first | refine blk_drewN ?_ _ | refine blk_drew ?_ | refine blk_alloc ?_ _)); exact BK112.out) hb)
         have n1_ := Aside0.mk (below_step (by repeat (first | (with_reducible first | exact HB.out | apply below_alloc | apply pw_below_drewN | apply below_drew1 | refine below_set ?_ GE112.out) | exact HB.out)) hb)
         clear BK112
         clear HB
         have BK112 := n0_
         have HB := n1_
         clear n0_ n1_
         (try clear hb)
         (try clear hb2)
         (try clear hk)
         (try clear hi)
         refine hK.out _ _ trivial (fun hHeld => ?_)
         clear hK K
         refine norm_ (a' := ?_) ?_ ?_
         rotate_left
         ·show Act.put _ (some 18) _ = _
          simp only [Act.put, List.setIfInBounds_toArray, List.set_cons_zero, List.set_cons_succ, i64_w, i32_w]
          rfl
         refine pure_ (i := 8) (N := some 19) (v := ?_) (a' := ?_) #[true, true, true, true, true, true, true, true, true, false, false, false, false] rfl rfl (any_of HT_.out (by kernel_rfl)) (fun _ _ _ h => h) (Or.inl ⟨by rfl, ?_⟩) ?_ ?_
         rotate_left
         ·intro w'
          go_simp
          with_reducible rfl
         rotate_left
         ·simp only [Act.put, List.setIfInBounds_toArray, List.set_cons_zero, List.set_cons_succ, i64_w, i32_w]
          rfl
         refine pure_ (i := 9) (N := some 20) (v := ?_) (a' := ?_) #[true, true, true, true, true, true, true, true, true, true, false, false, false] rfl rfl (any_of HT_.out (by kernel_rfl)) (fun _ _ _ h => h) (Or.inl ⟨by rfl, ?_⟩) ?_ ?_
         rotate_left
         ·intro w'
          go_simp
          with_reducible rfl
         rotate_left
         ·simp only [Act.put, List.setIfInBounds_toArray, List.set_cons_zero, List.set_cons_succ, i64_w, i32_w]
          rfl
         refine pure_ (i := 10) (N := some 21) (v := ?_) (a' := ?_) #[true, true, true, true, true, true, true, true, true, true, true, false, false] rfl rfl (any_of HT_.out (by kernel_rfl)) (fun _ _ _ h => h) (Or.inl ⟨by rfl, ?_⟩) ?_ ?_
         rotate_left
         ·intro w'
          go_simp
          with_reducible rfl
         rotate_left
         ·simp only [Act.put, List.setIfInBounds_toArray, List.set_cons_zero, List.set_cons_succ, i64_w, i32_w]
          rfl
         refine one_ (i := 11) (N := some 4) #[true, true, true, true, true, true, true, true, true, true, true, true, false] rfl rfl (one_of HT_.out (by kernel_rfl)) (by decide) (fun K hK => ?_)
         refine box_step ?hg (N := 4) ?hd (cs := #[.int .u16 0, .int .u16 0, .int .u8 0, .int .u8 0, .int .i64 0]) (t := 24) ?hr ?_; (case hd => rfl); (case hg => rfl); (case hr => first | (go_simp; done) | (go_simp; rfl))
         intro gb115 hg w15 hbox hb
         have n0_ := Aside0.mk (blk_below (g := gb112) (o := .cells #[.int .u16 0, .int .u16 0, .int .u8 0, .int .u8 0, .int .i64 0] 24 (0, 0)) (by (with_reducible repeat (first | refine blk_drewN ?_ _ | refine blk_drew ?_ | refine blk_alloc ?_ _)); exact BK112.out) hb)
         have n1_ := Aside0.mk (below_step (by repeat (first | (with_reducible first | exact HB.out | apply below_alloc | apply pw_below_drewN | apply below_drew1 | refine below_set ?_ GE112.out) | exact HB.out)) hb)
         have n2_ := Aside0.mk (hbox)
         have n3_ := Aside0.mk ((by rw [hg]; exact (below_size (by repeat (first | (with_reducible first | exact HB.out | apply below_alloc | apply pw_below_drewN | apply below_drew1 | refine below_set ?_ GE112.out) | exact HB.out))) : w.heap.size ≤ gb115))
         have n4_ := Aside0.mk ((by rw [hg]; exact (below_size (by repeat (first | (with_reducible first | exact HB.out | apply below_alloc | apply pw_below_drewN | apply below_drew1 | refine below_set ?_ GE112.out) | exact HB.out))) : w.heap.size ≤ gb115))
         have n5_ := Aside0.mk ((by rw [hg]; exact Nat.ne_of_lt (blk_lt (g := gb112) (o := .cells #[.int .u16 0, .int .u16 0, .int .u8 0, .int .u8 0, .int .i64 0] 24 (0, 0)) (by (with_reducible repeat (first | refine blk_drewN ?_ _ | refine blk_drew ?_ | refine blk_alloc ?_ _)); exact BK112.out)) : gb112 ≠ gb115))
         have n6_ := Aside0.mk ((by rw [hg]; exact Nat.ne_of_gt (blk_lt (g := gb112) (o := .cells #[.int .u16 0, .int .u16 0, .int .u8 0, .int .u8 0, .int .i64 0] 24 (0, 0)) (by (with_reducible repeat (first | refine blk_drewN ?_ _ | refine blk_drew ?_ | refine blk_alloc ?_ _)); exact BK112.out)) : gb115 ≠ gb112))
         clear BK112
         clear HB
         have BK112 := n0_
         have HB := n1_
         have BK115 := n2_
         have GW115 := n3_
         have GE115 := n4_
         have NB112_115 := n5_
         have NB115_112 := n6_
         clear n0_ n1_ n2_ n3_ n4_ n5_ n6_
         clear hb hbox hg
         refine hK.out _ _ trivial (fun hHeld => ?_)
         clear hK K
         refine norm_ (a' := ?_) ?_ ?_
         rotate_left
         ·show Act.put _ (some 4) _ = _
          simp only [Act.put, List.setIfInBounds_toArray, List.set_cons_zero, List.set_cons_succ, i64_w, i32_w]
          rfl
         exact norm_ (by simp only [putAll, Act.put, List.setIfInBounds_toArray, List.set_cons_zero, List.set_cons_succ]) (hCont (gb115) _ ⟨(by (with_reducible repeat (first | refine blk_drewN ?_ _ | refine blk_drew ?_ | refine blk_alloc ?_ _)); exact BK112.out), (by (with_reducible repeat (first | refine blk_drewN ?_ _ | refine blk_drew ?_ | refine blk_alloc ?_ _)); exact BK115.out), GW115.out, GE115.out, NB112_115.out, NB115_112.out, (by repeat (first | (with_reducible first | exact HB.out | apply below_alloc | apply pw_below_drewN | apply below_drew1 | refine below_set ?_ GE112.out | refine below_set ?_ GE115.out) | exact HB.out))⟩)
        ·skip
         refine box_step ?hg (N := 4) ?hd (cs := #[.int .u16 0, .int .u16 0, .int .u8 0, .int .u8 0, .int .i64 0]) (t := 24) ?hr ?_; (case hd => rfl); (case hg => rfl); (case hr => first | (go_simp; done) | (go_simp; rfl))
         intro gb115 hg w14 hbox hb
         have n0_ := Aside0.mk (blk_below (g := gb112) (o := .cells #[.int .u16 0, .int .u16 0, .int .u8 0, .int .u8 0, .int .i64 0] 24 (0, 0)) (by (with_reducible repeat (first | refine blk_drewN ?_ _ | refine blk_drew ?_ | refine blk_alloc ?_ _)); exact BK112.out) hb)
         have n1_ := Aside0.mk (below_step (by repeat (first | (with_reducible first | exact HB.out | apply below_alloc | apply pw_below_drewN | apply below_drew1 | refine below_set ?_ GE112.out) | exact HB.out)) hb)
         have n2_ := Aside0.mk (hbox)
         have n3_ := Aside0.mk ((by rw [hg]; exact (below_size (by repeat (first | (with_reducible first | exact HB.out | apply below_alloc | apply pw_below_drewN | apply below_drew1 | refine below_set ?_ GE112.out) | exact HB.out))) : w.heap.size ≤ gb115))
         have n4_ := Aside0.mk ((by rw [hg]; exact (below_size (by repeat (first | (with_reducible first | exact HB.out | apply below_alloc | apply pw_below_drewN | apply below_drew1 | refine below_set ?_ GE112.out) | exact HB.out))) : w.heap.size ≤ gb115))
         have n5_ := Aside0.mk ((by rw [hg]; exact Nat.ne_of_lt (blk_lt (g := gb112) (o := .cells #[.int .u16 0, .int .u16 0, .int .u8 0, .int .u8 0, .int .i64 0] 24 (0, 0)) (by (with_reducible repeat (first | refine blk_drewN ?_ _ | refine blk_drew ?_ | refine blk_alloc ?_ _)); exact BK112.out)) : gb112 ≠ gb115))
         have n6_ := Aside0.mk ((by rw [hg]; exact Nat.ne_of_gt (blk_lt (g := gb112) (o := .cells #[.int .u16 0, .int .u16 0, .int .u8 0, .int .u8 0, .int .i64 0] 24 (0, 0)) (by (with_reducible repeat (first | refine blk_drewN ?_ _ | refine blk_drew ?_ | refine blk_alloc ?_ _)); exact BK112.out)) : gb115 ≠ gb112))
         clear BK112
         clear HB
         have BK112 := n0_
         have HB := n1_
         have BK115 := n2_
         have GW115 := n3_
         have GE115 := n4_
         have NB112_115 := n5_
         have NB115_112 := n6_
         clear n0_ n1_ n2_ n3_ n4_ n5_ n6_
         clear hb hbox hg
         refine hK.out _ _ trivial (fun hHeld => ?_)
         clear hK K
         refine norm_ (a' := ?_) ?_ ?_
         rotate_left
         ·show Act.put _ (some 4) _ = _
          simp only [Act.put, List.setIfInBounds_toArray, List.set_cons_zero, List.set_cons_succ, i64_w, i32_w]
          rfl
         refine one_ (i := 7) (N := some 18) #[true, true, true, true, true, true, true, true, false, false, false, true, false] rfl rfl (one_of HT_.out (by kernel_rfl)) (by decide) (fun K hK => ?_)
         refine goes_ Try.func17 (by kernel_rfl) rfl #[.string (a0.extract 5 9), .int .i64 4] (by rfl) rfl rfl (by (try simp only [List.map_toArray, List.map_cons, List.map_nil]); first | done | rfl | (simp only [List.length_drop, List.length_take]; rfl)) ?_
         with_reducible refine (impl_ReadHex.calls k (a0.extract 5 9) 4 t114 _ A9.out).mono ?_
         rintro e w15 ⟨rfl, hb⟩
         refine ⟨_, rfl, ?_⟩
         have n0_ := Aside0.mk (blk_below (g := gb112) (o := .cells #[.int .u16 0, .int .u16 0, .int .u8 0, .int .u8 0, .int .i64 0] 24 (0, 0)) (by (with_reducible repeat (first | refine blk_drewN ?_ _ | refine blk_drew ?_ | refine blk_alloc ?_ _)); exact BK112.out) hb)
         have n1_ := Aside0.mk (blk_below (g := gb115) (o := .cells #[.int .u16 0, .int .u16 0, .int .u8 0, .int .u8 0, .int .i64 0] 24 (0, 0)) (by (with_reducible repeat (first | refine blk_drewN ?_ _ | refine blk_drew ?_ | refine blk_alloc ?_ _)); exact BK115.out) hb)
         have n2_ := Aside0.mk (below_step (by repeat (first | (with_reducible first | exact HB.out | apply below_alloc | apply pw_below_drewN | apply below_drew1 | refine below_set ?_ GE112.out | refine below_set ?_ GE115.out) | exact HB.out)) hb)
         clear BK112
         clear BK115
         clear HB
         have BK112 := n0_
         have BK115 := n1_
         have HB := n2_
         clear n0_ n1_ n2_
         (try clear hb)
         (try clear hb2)
         (try clear hk)
         (try clear hi)
         refine hK.out _ _ trivial (fun hHeld => ?_)
         clear hK K
         refine norm_ (a' := ?_) ?_ ?_
         rotate_left
         ·show Act.put _ (some 18) _ = _
          simp only [Act.put, List.setIfInBounds_toArray, List.set_cons_zero, List.set_cons_succ, i64_w, i32_w]
          rfl
         refine pure_ (i := 8) (N := some 19) (v := ?_) (a' := ?_) #[true, true, true, true, true, true, true, true, true, false, false, true, false] rfl rfl (any_of HT_.out (by kernel_rfl)) (fun _ _ _ h => h) (Or.inl ⟨by rfl, ?_⟩) ?_ ?_
         rotate_left
         ·intro w'
          go_simp
          with_reducible rfl
         rotate_left
         ·simp only [Act.put, List.setIfInBounds_toArray, List.set_cons_zero, List.set_cons_succ, i64_w, i32_w]
          rfl
         refine pure_ (i := 9) (N := some 20) (v := ?_) (a' := ?_) #[true, true, true, true, true, true, true, true, true, true, false, true, false] rfl rfl (any_of HT_.out (by kernel_rfl)) (fun _ _ _ h => h) (Or.inl ⟨by rfl, ?_⟩) ?_ ?_
         rotate_left
         ·intro w'
          go_simp
          with_reducible rfl
         rotate_left
         ·simp only [Act.put, List.setIfInBounds_toArray, List.set_cons_zero, List.set_cons_succ, i64_w, i32_w]
          rfl
         refine pure_ (i := 10) (N := some 21) (v := ?_) (a' := ?_) #[true, true, true, true, true, true, true, true, true, true, true, true, false] rfl rfl (any_of HT_.out (by kernel_rfl)) (fun _ _ _ h => h) (Or.inl ⟨by rfl, ?_⟩) ?_ ?_
         rotate_left
         ·intro w'
          go_simp
          with_reducible rfl
         rotate_left
         ·simp only [Act.put, List.setIfInBounds_toArray, List.set_cons_zero, List.set_cons_succ, i64_w, i32_w]
          rfl
         exact norm_ (by simp only [putAll, Act.put, List.setIfInBounds_toArray, List.set_cons_zero, List.set_cons_succ]) (hCont (gb115) _ ⟨(by (with_reducible repeat (first | refine blk_drewN ?_ _ | refine blk_drew ?_ | refine blk_alloc ?_ _)); exact BK112.out), (by (with_reducible repeat (first | refine blk_drewN ?_ _ | refine blk_drew ?_ | refine blk_alloc ?_ _)); exact BK115.out), GW115.out, GE115.out, NB112_115.out, NB115_112.out, (by repeat (first | (with_reducible first | exact HB.out | apply below_alloc | apply pw_below_drewN | apply below_drew1 | refine below_set ?_ GE112.out | refine below_set ?_ GE115.out) | exact HB.out))⟩)
       ·skip
        refine box_step ?hg (N := 4) ?hd (cs := #[.int .u16 0, .int .u16 0, .int .u8 0, .int .u8 0, .int .i64 0]) (t := 24) ?hr ?_; (case hd => rfl); (case hg => rfl); (case hr => first | (go_simp; done) | (go_simp; rfl))
        intro gb115 hg w13 hbox hb
        have n0_ := Aside0.mk (blk_below (g := gb112) (o := .cells #[.int .u16 0, .int .u16 0, .int .u8 0, .int .u8 0, .int .i64 0] 24 (0, 0)) (by (with_reducible repeat (first | refine blk_drewN ?_ _ | refine blk_drew ?_ | refine blk_alloc ?_ _)); exact BK112.out) hb)
        have n1_ := Aside0.mk (below_step (by repeat (first | (with_reducible first | exact HB.out | apply below_alloc | apply pw_below_drewN | apply below_drew1 | refine below_set ?_ GE112.out) | exact HB.out)) hb)
        have n2_ := Aside0.mk (hbox)
        have n3_ := Aside0.mk ((by rw [hg]; exact (below_size (by repeat (first | (with_reducible first | exact HB.out | apply below_alloc | apply pw_below_drewN | apply below_drew1 | refine below_set ?_ GE112.out) | exact HB.out))) : w.heap.size ≤ gb115))
        have n4_ := Aside0.mk ((by rw [hg]; exact (below_size (by repeat (first | (with_reducible first | exact HB.out | apply below_alloc | apply pw_below_drewN | apply below_drew1 | refine below_set ?_ GE112.out) | exact HB.out))) : w.heap.size ≤ gb115))
        have n5_ := Aside0.mk ((by rw [hg]; exact Nat.ne_of_lt (blk_lt (g := gb112) (o := .cells #[.int .u16 0, .int .u16 0, .int .u8 0, .int .u8 0, .int .i64 0] 24 (0, 0)) (by (with_reducible repeat (first | refine blk_drewN ?_ _ | refine blk_drew ?_ | refine blk_alloc ?_ _)); exact BK112.out)) : gb112 ≠ gb115))
        have n6_ := Aside0.mk ((by rw [hg]; exact Nat.ne_of_gt (blk_lt (g := gb112) (o := .cells #[.int .u16 0, .int .u16 0, .int .u8 0, .int .u8 0, .int .i64 0] 24 (0, 0)) (by (with_reducible repeat (first | refine blk_drewN ?_ _ | refine blk_drew ?_ | refine blk_alloc ?_ _)); exact BK112.out)) : gb115 ≠ gb112))
        clear BK112
        clear HB
        have BK112 := n0_
        have HB := n1_
        have BK115 := n2_
        have GW115 := n3_
        have GE115 := n4_
        have NB112_115 := n5_
        have NB115_112 := n6_
        clear n0_ n1_ n2_ n3_ n4_ n5_ n6_
        clear hb hbox hg
        refine hK.out _ _ trivial (fun hHeld => ?_)
        clear hK K
        refine norm_ (a' := ?_) ?_ ?_
        rotate_left
        ·show Act.put _ (some 4) _ = _
         simp only [Act.put, List.setIfInBounds_toArray, List.set_cons_zero, List.set_cons_succ, i64_w, i32_w]
         rfl
        refine one_ (i := 2) (N := some 13) #[true, true, true, false, false, true, true, false, false, false, false, true, false] rfl rfl (one_of HT_.out (by kernel_rfl)) (by decide) (fun K hK => ?_)
        refine goes_ Try.func17 (by kernel_rfl) rfl #[.string (a0.extract 0 4), .int .i64 4] (by rfl) rfl rfl (by (try simp only [List.map_toArray, List.map_cons, List.map_nil]); first | done | rfl | (simp only [List.length_drop, List.length_take]; rfl)) ?_
        with_reducible refine (impl_ReadHex.calls k (a0.extract 0 4) 4 t113 _ A5.out).mono ?_
        rintro e w14 ⟨rfl, hb⟩
        refine ⟨_, rfl, ?_⟩
        have n0_ := Aside0.mk (blk_below (g := gb112) (o := .cells #[.int .u16 0, .int .u16 0, .int .u8 0, .int .u8 0, .int .i64 0] 24 (0, 0)) (by (with_reducible repeat (first | refine blk_drewN ?_ _ | refine blk_drew ?_ | refine blk_alloc ?_ _)); exact BK112.out) hb)
        have n1_ := Aside0.mk (blk_below (g := gb115) (o := .cells #[.int .u16 0, .int .u16 0, .int .u8 0, .int .u8 0, .int .i64 0] 24 (0, 0)) (by (with_reducible repeat (first | refine blk_drewN ?_ _ | refine blk_drew ?_ | refine blk_alloc ?_ _)); exact BK115.out) hb)
        have n2_ := Aside0.mk (below_step (by repeat (first | (with_reducible first | exact HB.out | apply below_alloc | apply pw_below_drewN | apply below_drew1 | refine below_set ?_ GE112.out | refine below_set ?_ GE115.out) | exact HB.out)) hb)
        clear BK112
        clear BK115
        clear HB
        have BK112 := n0_
        have BK115 := n1_
        have HB := n2_
        clear n0_ n1_ n2_
        (try clear hb)
        (try clear hb2)
        (try clear hk)
        (try clear hi)
        refine hK.out _ _ trivial (fun hHeld => ?_)
        clear hK K
        refine norm_ (a' := ?_) ?_ ?_
        rotate_left
        ·show Act.put _ (some 13) _ = _
         simp only [Act.put, List.setIfInBounds_toArray, List.set_cons_zero, List.set_cons_succ, i64_w, i32_w]
         rfl
        refine pure_ (i := 3) (N := some 14) (v := ?_) (a' := ?_) #[true, true, true, true, false, true, true, false, false, false, false, true, false] rfl rfl (any_of HT_.out (by kernel_rfl)) (fun _ _ _ h => h) (Or.inl ⟨by rfl, ?_⟩) ?_ ?_
        rotate_left
        ·intro w'
         go_simp
         with_reducible rfl
        rotate_left
        ·simp only [Act.put, List.setIfInBounds_toArray, List.set_cons_zero, List.set_cons_succ, i64_w, i32_w]
         rfl
        refine pure_ (i := 4) (N := some 15) (v := ?_) (a' := ?_) #[true, true, true, true, true, true, true, false, false, false, false, true, false] rfl rfl (any_of HT_.out (by kernel_rfl)) (fun _ _ _ h => h) (Or.inl ⟨by rfl, ?_⟩) ?_ ?_
        rotate_left
        ·intro w'
         go_simp
         with_reducible rfl
        rotate_left
        ·simp only [Act.put, List.setIfInBounds_toArray, List.set_cons_zero, List.set_cons_succ, i64_w, i32_w]
         rfl
        refine one_ (i := 7) (N := some 18) #[true, true, true, true, true, true, true, true, false, false, false, true, false] rfl rfl (one_of HT_.out (by kernel_rfl)) (by decide) (fun K hK => ?_)
        refine goes_ Try.func17 (by kernel_rfl) rfl #[.string (a0.extract 5 9), .int .i64 4] (by rfl) rfl rfl (by (try simp only [List.map_toArray, List.map_cons, List.map_nil]); first | done | rfl | (simp only [List.length_drop, List.length_take]; rfl)) ?_
        with_reducible refine (impl_ReadHex.calls k (a0.extract 5 9) 4 t114 _ A9.out).mono ?_
        rintro e w15 ⟨rfl, hb⟩
        refine ⟨_, rfl, ?_⟩
        have n0_ := Aside0.mk (blk_below (g := gb112) (o := .cells #[.int .u16 0, .int .u16 0, .int .u8 0, .int .u8 0, .int .i64 0] 24 (0, 0)) (by (with_reducible repeat (first | refine blk_drewN ?_ _ | refine blk_drew ?_ | refine blk_alloc ?_ _)); exact BK112.out) hb)
        have n1_ := Aside0.mk (blk_below (g := gb115) (o := .cells #[.int .u16 0, .int .u16 0, .int .u8 0, .int .u8 0, .int .i64 0] 24 (0, 0)) (by (with_reducible repeat (first | refine blk_drewN ?_ _ | refine blk_drew ?_ | refine blk_alloc ?_ _)); exact BK115.out) hb)
        have n2_ := Aside0.mk (below_step (by repeat (first | (with_reducible first | exact HB.out | apply below_alloc | apply pw_below_drewN | apply below_drew1 | refine below_set ?_ GE112.out | refine below_set ?_ GE115.out) | exact HB.out)) hb)
        clear BK112
        clear BK115
        clear HB
        have BK112 := n0_
        have BK115 := n1_
        have HB := n2_
        clear n0_ n1_ n2_
        (try clear hb)
        (try clear hb2)
        (try clear hk)
        (try clear hi)
        refine hK.out _ _ trivial (fun hHeld => ?_)
        clear hK K
        refine norm_ (a' := ?_) ?_ ?_
        rotate_left
        ·show Act.put _ (some 18) _ = _
         simp only [Act.put, List.setIfInBounds_toArray, List.set_cons_zero, List.set_cons_succ, i64_w, i32_w]
         rfl
        refine pure_ (i := 8) (N := some 19) (v := ?_) (a' := ?_) #[true, true, true, true, true, true, true, true, true, false, false, true, false] rfl rfl (any_of HT_.out (by kernel_rfl)) (fun _ _ _ h => h) (Or.inl ⟨by rfl, ?_⟩) ?_ ?_
        rotate_left
        ·intro w'
         go_simp
         with_reducible rfl
        rotate_left
        ·simp only [Act.put, List.setIfInBounds_toArray, List.set_cons_zero, List.set_cons_succ, i64_w, i32_w]
         rfl
        refine pure_ (i := 9) (N := some 20) (v := ?_) (a' := ?_) #[true, true, true, true, true, true, true, true, true, true, false, true, false] rfl rfl (any_of HT_.out (by kernel_rfl)) (fun _ _ _ h => h) (Or.inl ⟨by rfl, ?_⟩) ?_ ?_
        rotate_left
        ·intro w'
         go_simp
         with_reducible rfl
        rotate_left
        ·simp only [Act.put, List.setIfInBounds_toArray, List.set_cons_zero, List.set_cons_succ, i64_w, i32_w]
         rfl
        refine pure_ (i := 10) (N := some 21) (v := ?_) (a' := ?_) #[true, true, true, true, true, true, true, true, true, true, true, true, false] rfl rfl (any_of HT_.out (by kernel_rfl)) (fun _ _ _ h => h) (Or.inl ⟨by rfl, ?_⟩) ?_ ?_
        rotate_left
        ·intro w'
         go_simp
         with_reducible rfl
        rotate_left
        ·simp only [Act.put, List.setIfInBounds_toArray, List.set_cons_zero, List.set_cons_succ, i64_w, i32_w]
         rfl
        exact norm_ (by simp only [putAll, Act.put, List.setIfInBounds_toArray, List.set_cons_zero, List.set_cons_succ]) (hCont (gb115) _ ⟨(by (with_reducible repeat (first | refine blk_drewN ?_ _ | refine blk_drew ?_ | refine blk_alloc ?_ _)); exact BK112.out), (by (with_reducible repeat (first | refine blk_drewN ?_ _ | refine blk_drew ?_ | refine blk_alloc ?_ _)); exact BK115.out), GW115.out, GE115.out, NB112_115.out, NB115_112.out, (by repeat (first | (with_reducible first | exact HB.out | apply below_alloc | apply pw_below_drewN | apply below_drew1 | refine below_set ?_ GE112.out | refine below_set ?_ GE115.out) | exact HB.out))⟩)
      rintro gb115 w16 ⟨h0_, h1_, h2_, h3_, h4_, h5_, h6_⟩
      have n0_ : Aside0 (w16.heap[gb112]? = some (.cells #[.int .u16 0, .int .u16 0, .int .u8 0, .int .u8 0, .int .i64 0] 24 (0, 0))) := ⟨h0_⟩
      have n1_ : Aside0 (w16.heap[gb115]? = some (.cells #[.int .u16 0, .int .u16 0, .int .u8 0, .int .u8 0, .int .i64 0] 24 (0, 0))) := ⟨h1_⟩
      have n2_ : Aside0 (w.heap.size ≤ gb115) := ⟨h2_⟩
      have n3_ : Aside0 (w.heap.size ≤ gb115) := ⟨h3_⟩
      have n4_ : Aside0 (gb112 ≠ gb115) := ⟨h4_⟩
      have n5_ : Aside0 (gb115 ≠ gb112) := ⟨h5_⟩
      have n6_ : Aside0 (Below w.heap.size w w16) := ⟨h6_⟩
      clear BK112
      clear HB
      clear h0_ h1_ h2_ h3_ h4_ h5_ h6_
      have BK112 := n0_
      have BK115 := n1_
      have GW115 := n2_
      have GE115 := n3_
      have NB112_115 := n4_
      have NB115_112 := n5_
      have HB := n6_
      clear n0_ n1_ n2_ n3_ n4_ n5_ n6_
      have hHeld := trivial
      refine norm_ (a' := ?_) ?_ ?_
      rotate_left
      ·simp only [putAll, Act.put, List.setIfInBounds_toArray, List.set_cons_zero, List.set_cons_succ]
       rfl
      refine one_ (i := 12) (N := none) #[true, true, true, true, true, true, true, true, true, true, true, true, true] rfl rfl (one_of HT_.out (by kernel_rfl)) (by decide) (fun K hK => ?_)
      have hs17 : w16.cell? ⟨gb115, 0, none⟩ = some (.int .u16 0) := (blk_cell BK115.out 0).trans rfl
      have hfs17 := blk_frozen BK115.out 0
      have hns17_0 := NB112_115.out
      have hms17_0 := NB115_112.out
      have hs18 : w16.cell? ⟨gb115, 1, none⟩ = some (.int .u16 0) := (blk_cell BK115.out 1).trans rfl
      have hfs18 := blk_frozen BK115.out 1
      have hns18_0 := NB112_115.out
      have hms18_0 := NB115_112.out
      have hs19 : w16.cell? ⟨gb115, 2, none⟩ = some (.int .u8 0) := (blk_cell BK115.out 2).trans rfl
      have hfs19 := blk_frozen BK115.out 2
      have hns19_0 := NB112_115.out
      have hms19_0 := NB115_112.out
      have hs20 : w16.cell? ⟨gb115, 3, none⟩ = some (.int .u8 0) := (blk_cell BK115.out 3).trans rfl
      have hfs20 := blk_frozen BK115.out 3
      have hns20_0 := NB112_115.out
      have hms20_0 := NB115_112.out
      have hs21 : w16.cell? ⟨gb115, 4, none⟩ = some (.int .i64 0) := (blk_cell BK115.out 4).trans rfl
      have hfs21 := blk_frozen BK115.out 4
      have hns21_0 := NB112_115.out
      have hms21_0 := NB115_112.out
      refine skip_ (w1 := ?_) (by rfl) rfl ?_ ?_
      rotate_left
      ·go_simp
       rfl
      refine hK.out _ _ trivial (fun hHeld => ?_)
      clear hK K
      refine done_ (done_of HT_.out (by kernel_rfl)) ?_
      try go_wp2_with (first | ((with_reducible refine gate_dst (N := 22) rfl ?_); refine Kd.R_lit (Kd.int .i64) _ 3 ?hg (N := 22) ?hd (xs := ([4, 0] : List Int)) (inner := [.int .i64 4, .int .i64 0]) (ok := fun _ => True) (okp := fun _ => True) ?hr ?hp (fun _ hk => hk) trivial (Below.refl _ _) (Nat.le_refl _) (by simp) ?_; (case hd => rfl); (case hg => rfl); (case hr => first | (go_simp; done) | (go_simp; rfl)); (case hp => exact (Reps.one (show Kd.M (Kd.int .i64) _ _ _ 4 [.int .i64 4] from rfl) (Reps.one (show Kd.M (Kd.int .i64) _ _ _ 0 [.int .i64 0] from rfl) (Reps.none _ _)))); intro v117 w22 ho23 hb hg_ hnew_; clear hg_ hnew_; (first | rw [← Ny116.out] at ho23 | (simp only [Int.reduceToNat] at ho23; rw [← Ny116.out] at ho23)); have n0_ := Aside0.mk (Kd.R_lower ho23 (below_size (by repeat (first | (with_reducible first | exact HB.out | apply below_alloc | apply pw_below_drewN | apply below_drew1 | refine below_set ?_ GE112.out | refine below_set ?_ GE115.out) | exact HB.out)))); have n1_ := Aside0.mk (blk_below (g := gb112) (o := .cells #[.int .u16 0, .int .u16 0, .int .u8 0, .int .u8 0, .int .i64 0] 24 (0, 0)) (by (with_reducible repeat (first | refine blk_drewN ?_ _ | refine blk_drew ?_ | refine blk_alloc ?_ _)); refine blk_far ?_ NB112_115.out _; (with_reducible repeat (first | refine blk_drewN ?_ _ | refine blk_drew ?_ | refine blk_alloc ?_ _)); refine blk_far ?_ NB112_115.out _; (with_reducible repeat (first | refine blk_drewN ?_ _ | refine blk_drew ?_ | refine blk_alloc ?_ _)); refine blk_far ?_ NB112_115.out _; (with_reducible repeat (first | refine blk_drewN ?_ _ | refine blk_drew ?_ | refine blk_alloc ?_ _)); refine blk_far ?_ NB112_115.out _; (with_reducible repeat (first | refine blk_drewN ?_ _ | refine blk_drew ?_ | refine blk_alloc ?_ _)); refine blk_far ?_ NB112_115.out _; (with_reducible repeat (first | refine blk_drewN ?_ _ | refine blk_drew ?_ | refine blk_alloc ?_ _)); exact BK112.out) hb); have n2_ := Aside0.mk (blk_below (g := gb115) (o := .cells #[.int .u16 (IntKind.u16.wrap (ji6)), .int .u16 (IntKind.u16.wrap (ji10)), .int .u8 0, .int .u8 0, .int .i64 2] 24 (0, 0)) (by (with_reducible repeat (first | refine blk_drewN ?_ _ | refine blk_drew ?_ | refine blk_alloc ?_ _)); refine blk_put (cs := #[.int .u16 (IntKind.u16.wrap (ji6)), .int .u16 (IntKind.u16.wrap (ji10)), .int .u8 0, .int .u8 0, .int .i64 0]) ?_ 4 _ rfl; (with_reducible repeat (first | refine blk_drewN ?_ _ | refine blk_drew ?_ | refine blk_alloc ?_ _)); refine blk_put (cs := #[.int .u16 (IntKind.u16.wrap (ji6)), .int .u16 (IntKind.u16.wrap (ji10)), .int .u8 0, .int .u8 0, .int .i64 0]) ?_ 3 _ rfl; (with_reducible repeat (first | refine blk_drewN ?_ _ | refine blk_drew ?_ | refine blk_alloc ?_ _)); refine blk_put (cs := #[.int .u16 (IntKind.u16.wrap (ji6)), .int .u16 (IntKind.u16.wrap (ji10)), .int .u8 0, .int .u8 0, .int .i64 0]) ?_ 2 _ rfl; (with_reducible repeat (first | refine blk_drewN ?_ _ | refine blk_drew ?_ | refine blk_alloc ?_ _)); refine blk_put (cs := #[.int .u16 (IntKind.u16.wrap (ji6)), .int .u16 0, .int .u8 0, .int .u8 0, .int .i64 0]) ?_ 1 _ rfl; (with_reducible repeat (first | refine blk_drewN ?_ _ | refine blk_drew ?_ | refine blk_alloc ?_ _)); refine blk_put (cs := #[.int .u16 0, .int .u16 0, .int .u8 0, .int .u8 0, .int .i64 0]) ?_ 0 _ rfl; (with_reducible repeat (first | refine blk_drewN ?_ _ | refine blk_drew ?_ | refine blk_alloc ?_ _)); exact BK115.out) hb); have n3_ := Aside0.mk (below_step (by repeat (first | (with_reducible first | exact HB.out | apply below_alloc | apply pw_below_drewN | apply below_drew1 | refine below_set ?_ GE112.out | refine below_set ?_ GE115.out) | exact HB.out)) hb); clear BK112; clear BK115; clear HB; have HO118 := n0_; have BK112 := n1_; have BK115 := n2_; have HB := n3_; clear n0_ n1_ n2_ n3_; clear hb ho23; obtain ⟨Ao24, co24, eo24⟩ := Kd.R_slice HO118.out; subst eo24))
      go_loopg [24] k (fun kq v24 w' => ∃ (x24_1 : Int) (x116002_1 : Int) (x116003_1 : Int), v24 = .int .i64 x24_1 ∧ Aside0 (impl_ReadRule.l0 kq a0 y116 (y116.length : Int) x24_1 (IntKind.u16.wrap (ji6)) (IntKind.u16.wrap (ji10)) x116002_1 x116003_1 2 = some (r1, r2, r3, r4, r5, r6)) ∧ Aside0 (kq ≤ k) ∧ Aside0 (Kd.R (Kd.int .i64) 3 w' w.heap.size (fun _ => True) (.slice Ao24 y116.length co24) y116) ∧ Aside0 (w'.heap[gb112]? = some (.cells #[.int .u16 0, .int .u16 0, .int .u8 0, .int .u8 0, .int .i64 0] 24 (0, 0))) ∧ Aside0 (w'.heap[gb115]? = some (.cells #[.int .u16 (IntKind.u16.wrap (ji6)), .int .u16 (IntKind.u16.wrap (ji10)), .int .u8 x116002_1, .int .u8 x116003_1, .int .i64 2] 24 (0, 0))) ∧ Aside0 (Below w.heap.size w w'))
      case atStart => exact ⟨(0), (0), (0), (by first | rfl | (simp; done) | (simp [*]; done)), H', ⟨Nat.le_refl _⟩, ⟨by (with_reducible repeat (first | apply Kd.R_alloc | apply Kd.R_drewN | apply Kd.R_drew)); exact HO118.out⟩, ⟨by (with_reducible repeat (first | refine blk_drewN ?_ _ | refine blk_drew ?_ | refine blk_alloc ?_ _)); exact BK112.out⟩, ⟨by (with_reducible repeat (first | refine blk_drewN ?_ _ | refine blk_drew ?_ | refine blk_alloc ?_ _)); exact BK115.out⟩, ⟨by repeat (first | (with_reducible first | exact HB.out | apply below_alloc | apply pw_below_drewN | apply below_drew1 | refine below_set ?_ GE112.out | refine below_set ?_ GE115.out) | exact HB.out)⟩⟩
      case round =>
       clear H'
       try clear c1
       try clear c2
       try clear c2b0
       try clear c2b1
       try clear p2
       try clear c3
       try clear c3b0
       try clear c3b1
       try clear c4
       try clear c4b0
       try clear c4b1
       try clear c6
       try clear c7
       try clear c7b0
       try clear c7b1
       try clear c8
       try clear c8b0
       try clear c8b1
       try clear c17
       obtain ⟨x24_1, x116002_1, x116003_1, rfl, HA, HK1, HO_22, BK112, BK115, HB⟩ := hrel
       cases gk with
       | zero => exact absurd HA.out (by simp [impl_ReadRule.l0])
       | succ k1 =>
        have H := HA.out
        clear HA
        simp only [impl_ReadRule.l0] at H
        by_cases c25 : x24_1 < (y116.length : Int)
        ·rw [if_pos c25] at H
         have c25b0 : decide (x24_1 < (y116.length : Int)) = true := decide_eq_true c25
         clear c25
         by_cases c26 : 0 ≤ x24_1
         ·rw [if_pos c26] at H
          have c26b0 : decide (0 ≤ x24_1) = true := decide_eq_true c26
          clear c26
          by_cases c27 : x24_1 < (y116.length : Int)
          ·rw [if_pos c27] at H
           have c27b0 : decide (x24_1 < (y116.length : Int)) = true := decide_eq_true c27
           clear c27
           obtain ⟨ji28, hji28⟩ : ∃ j_ : Int, (wrap64 (10 + x24_1)) = j_ := ⟨_, rfl⟩
           replace H : (if 0 ≤ (ji28) then (if (ji28) < (a0.size : Int) then (if (bt a0 (ji28)) = 63 then (impl_ReadRule.l0 k1 a0 y116 (y116.length : Int) (wrap64 (x24_1 + 1)) (IntKind.u16.wrap (ji6)) (IntKind.u16.wrap (ji10)) x116002_1 x116003_1 2) else (if 0 ≤ (rd y116 x24_1) then (if (ji28) ≤ (wrap64 (11 + x24_1)) then (if (wrap64 (11 + x24_1)) ≤ (a0.size : Int) then ((impl_ReadHex.f k1 (a0.extract ((ji28) : Int).toNat ((wrap64 (11 + x24_1)) : Int).toNat) 1).bind fun t120 => (impl_ReadRule.l0 k1 a0 y116 (y116.length : Int) (wrap64 (x24_1 + 1)) (IntKind.u16.wrap (ji6)) (IntKind.u16.wrap (ji10)) (Go.bits .or .u8 x116002_1 (shl .u8 15 (rd y116 x24_1))) (Go.bits .or .u8 x116003_1 (shl .u8 ((mx 0 t120) % 256) (rd y116 x24_1))) 2)) else (none)) else (none)) else (none))) else (none)) else (none)) = some (r1, r2, r3, r4, r5, r6) := by first | (rw [hji28] at H; exact H) | (simp only [hji28] at H ⊢; exact H)
           have hji28w : (IntKind.i64.wrap (10 + x24_1)) = ji28 := (i64_w _).trans hji28
           by_cases c29 : 0 ≤ (ji28)
           ·rw [if_pos c29] at H
            have c29b0 : decide (0 ≤ (ji28)) = true := decide_eq_true c29
            clear c29
            by_cases c30 : (ji28) < (a0.size : Int)
            ·rw [if_pos c30] at H
             have c30b0 : decide ((ji28) < (a0.size : Int)) = true := decide_eq_true c30
             clear c30
             by_cases c32 : (bt a0 (ji28)) = 63
             ·rw [if_pos c32] at H
              have c32b0 : ((bt a0 (ji28)) == 63) = true := beq_iff_eq.mpr c32
              have c32b1 : ((bt a0 (ji28)) != 63) = false := bne_eq_false_iff_eq.mpr c32
              clear c32
              have H' := Aside0.mk H
              clear H
              have p119 : 0 ≤ (x24_1 : Int) := of_decide_eq_true (by first | (with_reducible assumption) | assumption)
              have q119 : x24_1 < (y116.length : Int) := of_decide_eq_true (by first | (with_reducible assumption) | assumption)
              obtain ⟨ad119, e119, hx119_0⟩ := Kd.at_int (Kd.R_reads' HO_22.out).2.2 x24_1 p119 q119
              cases e119
              replace p119 := eq_true p119
              replace q119 := eq_true q119
              have p31 : 0 ≤ ((ji28) : Int) := of_decide_eq_true (by first | (with_reducible assumption) | assumption)
              have q31 : (ji28) < (a0.size : Int) := of_decide_eq_true (by first | (with_reducible assumption) | assumption)
              have hx31 := bt_at a0 (ji28)
              replace p31 := eq_true p31
              replace q31 := eq_true q31
              go_wp2
              go_roundg k1
              case measure => have := HK1.out; omega
              case rel => exact ⟨(wrap64 (x24_1 + 1)), (x116002_1), (x116003_1), (by first | rfl | (simp; done) | (simp [*]; done)), H', ⟨by have := HK1.out; omega⟩, ⟨by (with_reducible repeat (first | apply Kd.R_alloc | apply Kd.R_drewN | apply Kd.R_drew)); exact HO_22.out⟩, ⟨by (with_reducible repeat (first | refine blk_drewN ?_ _ | refine blk_drew ?_ | refine blk_alloc ?_ _)); exact BK112.out⟩, ⟨by (with_reducible repeat (first | refine blk_drewN ?_ _ | refine blk_drew ?_ | refine blk_alloc ?_ _)); exact BK115.out⟩, ⟨by repeat (first | (with_reducible first | exact HB.out | apply below_alloc | apply pw_below_drewN | apply below_drew1 | refine below_set ?_ GE112.out | refine below_set ?_ GE115.out) | exact HB.out)⟩⟩
             ·rw [if_neg c32] at H
              have c32b0 : ((bt a0 (ji28)) == 63) = false := beq_eq_false_iff_ne.mpr c32
              have c32b1 : ((bt a0 (ji28)) != 63) = true := bne_iff_ne.mpr c32
              by_cases c33 : 0 ≤ (rd y116 x24_1)
              ·rw [if_pos c33] at H
               have c33b0 := eq_true c33
               have c33b1 : decide (0 ≤ (rd y116 x24_1)) = true := decide_eq_true c33
               clear c33
               obtain ⟨ji34, hji34⟩ : ∃ j_ : Int, (shl .u8 15 (rd y116 x24_1)) = j_ := ⟨_, rfl⟩
               replace H : (if (ji28) ≤ (wrap64 (11 + x24_1)) then (if (wrap64 (11 + x24_1)) ≤ (a0.size : Int) then ((impl_ReadHex.f k1 (a0.extract ((ji28) : Int).toNat ((wrap64 (11 + x24_1)) : Int).toNat) 1).bind fun t120 => (impl_ReadRule.l0 k1 a0 y116 (y116.length : Int) (wrap64 (x24_1 + 1)) (IntKind.u16.wrap (ji6)) (IntKind.u16.wrap (ji10)) (Go.bits .or .u8 x116002_1 (ji34)) (Go.bits .or .u8 x116003_1 (shl .u8 ((mx 0 t120) % 256) (rd y116 x24_1))) 2)) else (none)) else (none)) = some (r1, r2, r3, r4, r5, r6) := by first | (rw [hji34] at H; exact H) | (simp only [hji34] at H ⊢; exact H)
               have hji34_ : (IntKind.u8.wrap (15 * 2 ^ min (rd y116 x24_1).toNat 8)) = ji34 := hji34
               have hji34z : (rd y116 x24_1) ≤ 8 → (IntKind.u8.wrap (15 * 2 ^ (rd y116 x24_1).toNat)) = ji34 := shl_small hji34
               have c35b0 := eq_true (of_decide_eq_true (by first | (with_reducible assumption) | assumption) : 0 ≤ (ji28))
               by_cases c36 : (ji28) ≤ (wrap64 (11 + x24_1))
               ·rw [if_pos c36] at H
                have c36b0 := eq_true c36
                have c36b1 : decide ((ji28) ≤ (wrap64 (11 + x24_1))) = true := decide_eq_true c36
                by_cases c37 : (wrap64 (11 + x24_1)) ≤ (a0.size : Int)
                ·rw [if_pos c37] at H
                 have c37b0 := eq_true c37
                 have c37b1 : decide ((wrap64 (11 + x24_1)) ≤ (a0.size : Int)) = true := decide_eq_true c37
                 replace H := Option.bind_eq_some_iff.mp H
                 obtain ⟨t120, A380, H⟩ := H
                 replace H : (impl_ReadRule.l0 k1 a0 y116 (y116.length : Int) (wrap64 (x24_1 + 1)) (IntKind.u16.wrap (ji6)) (IntKind.u16.wrap (ji10)) (Go.bits .or .u8 x116002_1 (ji34)) (Go.bits .or .u8 x116003_1 (shl .u8 ((mx 0 t120) % 256) (rd y116 x24_1))) 2) = some (r1, r2, r3, r4, r5, r6) := H
                 have A38 := Aside0.mk A380
                 clear A380
                 obtain ⟨ji39, hji39⟩ : ∃ j_ : Int, (mx 0 t120) = j_ := ⟨_, rfl⟩
                 replace H : (impl_ReadRule.l0 k1 a0 y116 (y116.length : Int) (wrap64 (x24_1 + 1)) (IntKind.u16.wrap (ji6)) (IntKind.u16.wrap (ji10)) (Go.bits .or .u8 x116002_1 (ji34)) (Go.bits .or .u8 x116003_1 (shl .u8 ((ji39) % 256) (rd y116 x24_1))) 2) = some (r1, r2, r3, r4, r5, r6) := by first | (rw [hji39] at H; exact H) | (simp only [hji39] at H ⊢; exact H)
                 (try rw [hji39] at A38)
                 (try (have hji39l : 0 ≤ ji39 := by (rw [← hji39]; unfold mx; (repeat' split) <;> omega)))
                 (try (have hji39m : 0 ≤ ji39 := by omega))
                 have hji39_ : (if 0 < t120 then t120 else 0) = ji39 := hji39
                 have c40b0 := eq_true (of_decide_eq_true (by first | (with_reducible assumption) | assumption) : 0 ≤ (rd y116 x24_1))
                 obtain ⟨ji41, hji41⟩ : ∃ j_ : Int, (shl .u8 ((ji39) % 256) (rd y116 x24_1)) = j_ := ⟨_, rfl⟩
                 replace H : (impl_ReadRule.l0 k1 a0 y116 (y116.length : Int) (wrap64 (x24_1 + 1)) (IntKind.u16.wrap (ji6)) (IntKind.u16.wrap (ji10)) (Go.bits .or .u8 x116002_1 (ji34)) (Go.bits .or .u8 x116003_1 (ji41)) 2) = some (r1, r2, r3, r4, r5, r6) := by first | (rw [hji41] at H; exact H) | (simp only [hji41] at H ⊢; exact H)
                 (try rw [hji41] at A38)
                 have hji41_ : (IntKind.u8.wrap (((ji39) % 256) * 2 ^ min (rd y116 x24_1).toNat 8)) = ji41 := hji41
                 have hji41z : (rd y116 x24_1) ≤ 8 → (IntKind.u8.wrap (((ji39) % 256) * 2 ^ (rd y116 x24_1).toNat)) = ji41 := shl_small hji41
                 have H' := Aside0.mk H
                 clear H
                 have p119 : 0 ≤ (x24_1 : Int) := of_decide_eq_true (by first | (with_reducible assumption) | assumption)
                 have q119 : x24_1 < (y116.length : Int) := of_decide_eq_true (by first | (with_reducible assumption) | assumption)
                 obtain ⟨ad119, e119, hx119_0⟩ := Kd.at_int (Kd.R_reads' HO_22.out).2.2 x24_1 p119 q119
                 cases e119
                 replace p119 := eq_true p119
                 replace q119 := eq_true q119
                 have p31 : 0 ≤ ((ji28) : Int) := of_decide_eq_true (by first | (with_reducible assumption) | assumption)
                 have q31 : (ji28) < (a0.size : Int) := of_decide_eq_true (by first | (with_reducible assumption) | assumption)
                 have hx31 := bt_at a0 (ji28)
                 replace p31 := eq_true p31
                 replace q31 := eq_true q31
                 try go_wp2
                 have n0_ := Aside0.mk (Kd.R_drew HO_22.out)
                 have n1_ := Aside0.mk (blk_drew BK112.out)
                 have n2_ := Aside0.mk (blk_drew BK115.out)
                 have n3_ := Aside0.mk (below_drew1 HB.out)
                 clear HO_22
                 clear BK112
                 clear BK115
                 clear HB
                 have HO_22 := n0_
                 have BK112 := n1_
                 have BK115 := n2_
                 have HB := n3_
                 clear n0_ n1_ n2_ n3_
                 refine start_ (n := 7) (S := fun w' => w'.cell? ⟨gb115, 0, none⟩ = some (.int .u16 (IntKind.u16.wrap (ji6))) ∧ w'.cell? ⟨gb115, 1, none⟩ = some (.int .u16 (IntKind.u16.wrap (ji10))) ∧ w'.cell? ⟨gb115, 2, none⟩ = some (.int .u8 x116002_1) ∧ w'.cell? ⟨gb115, 3, none⟩ = some (.int .u8 x116003_1) ∧ w'.cell? ⟨gb115, 4, none⟩ = some (.int .i64 2)) (ds := [6]) #[false, false, false, false, false, false, false] (by kernel_rfl) rfl rfl ⟨(blk_cell BK115.out 0).trans rfl, (blk_cell BK115.out 1).trans rfl, (blk_cell BK115.out 2).trans rfl, (blk_cell BK115.out 3).trans rfl, (blk_cell BK115.out 4).trans rfl⟩ (fun hHeld => ?_)
                 generalize wr.drew = w42 at HO_22 BK112 BK115 HB hHeld ⊢
                 refine pure_ (i := 0) (N := some 34) (v := ?_) (a' := ?_) #[true, false, false, false, false, false, false] rfl rfl (by kernel_rfl) (fun _ _ _ h => h) (Or.inl ⟨by rfl, ?_⟩) ?_ ?_
                 rotate_left
                 ·intro w'
                  go_simp
                  with_reducible rfl
                 rotate_left
                 ·simp only [Act.put, List.setIfInBounds_toArray, List.set_cons_zero, List.set_cons_succ, i64_w, i32_w]
                  rfl
                 refine pure_ (i := 2) (N := some 36) (v := ?_) (a' := ?_) #[true, false, true, false, false, false, false] rfl rfl (by kernel_rfl) (fun _ _ _ h => h) (Or.inl ⟨by rfl, ?_⟩) ?_ ?_
                 rotate_left
                 ·intro w'
                  go_simp
                  with_reducible rfl
                 rotate_left
                 ·simp only [Act.put, List.setIfInBounds_toArray, List.set_cons_zero, List.set_cons_succ, i64_w, i32_w]
                  rfl
                 refine pure_ (i := 3) (N := some 37) (v := ?_) (a' := ?_) #[true, false, true, true, false, false, false] rfl rfl (by kernel_rfl) (fun _ _ _ h => h) (Or.inl ⟨by rfl, ?_⟩) ?_ ?_
                 rotate_left
                 ·intro w'
                  go_simp
                  with_reducible rfl
                 rotate_left
                 ·simp only [Act.put, List.setIfInBounds_toArray, List.set_cons_zero, List.set_cons_succ, i64_w, i32_w]
                  rfl
                 refine take_ (i := 1) (N := some 35) (v := ?_) (a' := ?_) #[true, true, true, true, false, false, false] rfl rfl (by kernel_rfl) (fun _ _ _ h => h) (Or.inl ⟨by rfl, ?_⟩) hHeld ?_ ?_
                 rotate_left
                 ·rintro w' ⟨s0, s1, s2, s3, s4⟩
                  go_simp
                  with_reducible rfl
                 rotate_left
                 ·simp only [Act.put, List.setIfInBounds_toArray, List.set_cons_zero, List.set_cons_succ, i64_w, i32_w]
                  rfl
                 refine pure_ (i := 4) (N := some 38) (v := ?_) (a' := ?_) #[true, true, true, true, true, false, false] rfl rfl (by kernel_rfl) (fun _ _ _ h => h) (Or.inl ⟨by rfl, ?_⟩) ?_ ?_
                 rotate_left
                 ·intro w'
                  go_simp
                  with_reducible rfl
                 rotate_left
                 ·simp only [Act.put, List.setIfInBounds_toArray, List.set_cons_zero, List.set_cons_succ, i64_w, i32_w]
                  rfl
                 refine pure_ (i := 5) (N := some 39) (v := ?_) (a' := ?_) #[true, true, true, true, true, true, false] rfl rfl (by kernel_rfl) (fun _ _ _ h => h) (Or.inl ⟨by rfl, ?_⟩) ?_ ?_
                 rotate_left
                 ·intro w'
                  go_simp
                  with_reducible rfl
                 rotate_left
                 ·simp only [Act.put, List.setIfInBounds_toArray, List.set_cons_zero, List.set_cons_succ, i64_w, i32_w]
                  rfl
                 refine last_ (i := 6) (N := none) #[true, true, true, true, true, true, true] rfl rfl (by kernel_rfl) (by decide) (fun K hK => ?_)
                 have hs43 : w42.cell? ⟨gb115, 2, none⟩ = some (.int .u8 x116002_1) := (blk_cell BK115.out 2).trans rfl
                 have hfs43 := blk_frozen BK115.out 2
                 have hns43_0 := NB112_115.out
                 have hms43_0 := NB115_112.out
                 refine skip_ (w1 := ?_) (by rfl) rfl ?_ ?_
                 rotate_left
                 ·go_simp
                  rfl
                 refine hK.out _ _ ?_
                 clear hK K
                 refine done_ (by kernel_rfl) ?_
                 try go_wp2
                 have n0_ : Aside0 (Kd.R (Kd.int .i64) 3 (w42.setCell ⟨gb115, 2, none⟩ (.int .u8 (Go.bits .or .u8 x116002_1 (ji34)))) w.heap.size (fun _ => True) (.slice (some ad119) y116.length co24) y116) := ⟨by (with_reducible repeat (first | apply Kd.R_alloc | apply Kd.R_drewN | apply Kd.R_drew)); exact Kd.R_mono (Kd.R_far (p := ⟨gb115, 2, none⟩) (Kd.R_types HO_22.out BK115.out (by decide)) (fun _ hk => hk.2) (.int .u8 (Go.bits .or .u8 x116002_1 (ji34)))) (fun _ hk => trivial)⟩
                 have n1_ : Aside0 ((w42.setCell ⟨gb115, 2, none⟩ (.int .u8 (Go.bits .or .u8 x116002_1 (ji34)))).heap[gb112]? = some (.cells #[.int .u16 0, .int .u16 0, .int .u8 0, .int .u8 0, .int .i64 0] 24 (0, 0))) := ⟨by (with_reducible repeat (first | refine blk_drewN ?_ _ | refine blk_drew ?_ | refine blk_alloc ?_ _)); refine blk_far ?_ NB112_115.out _; (with_reducible repeat (first | refine blk_drewN ?_ _ | refine blk_drew ?_ | refine blk_alloc ?_ _)); exact BK112.out⟩
                 have n2_ : Aside0 ((w42.setCell ⟨gb115, 2, none⟩ (.int .u8 (Go.bits .or .u8 x116002_1 (ji34)))).heap[gb115]? = some (.cells #[.int .u16 (IntKind.u16.wrap (ji6)), .int .u16 (IntKind.u16.wrap (ji10)), .int .u8 (Go.bits .or .u8 x116002_1 (ji34)), .int .u8 x116003_1, .int .i64 2] 24 (0, 0))) := ⟨by (with_reducible repeat (first | refine blk_drewN ?_ _ | refine blk_drew ?_ | refine blk_alloc ?_ _)); refine blk_put (cs := #[.int .u16 (IntKind.u16.wrap (ji6)), .int .u16 (IntKind.u16.wrap (ji10)), .int .u8 x116002_1, .int .u8 x116003_1, .int .i64 2]) ?_ 2 _ rfl; (with_reducible repeat (first | refine blk_drewN ?_ _ | refine blk_drew ?_ | refine blk_alloc ?_ _)); exact BK115.out⟩
                 have n3_ : Aside0 (Below w.heap.size w (w42.setCell ⟨gb115, 2, none⟩ (.int .u8 (Go.bits .or .u8 x116002_1 (ji34))))) := ⟨by repeat (first | (with_reducible first | exact HB.out | apply below_alloc | apply pw_below_drewN | apply below_drew1 | refine below_set ?_ GE112.out | refine below_set ?_ GE115.out) | exact HB.out)⟩
                 (try clear HO_22)
                 (try clear BK112)
                 (try clear BK115)
                 (try clear HB)
                 generalize (w42.setCell ⟨gb115, 2, none⟩ (.int .u8 (Go.bits .or .u8 x116002_1 (ji34)))) = w44 at n0_ n1_ n2_ n3_ ⊢
                 have HO_22 := n0_
                 have BK112 := n1_
                 have BK115 := n2_
                 have HB := n3_
                 clear n0_ n1_ n2_ n3_
                 have n0_ := Aside0.mk (Kd.R_drew HO_22.out)
                 have n1_ := Aside0.mk (blk_drew BK112.out)
                 have n2_ := Aside0.mk (blk_drew BK115.out)
                 have n3_ := Aside0.mk (below_drew1 HB.out)
                 clear HO_22
                 clear BK112
                 clear BK115
                 clear HB
                 have HO_22 := n0_
                 have BK112 := n1_
                 have BK115 := n2_
                 have HB := n3_
                 clear n0_ n1_ n2_ n3_
                 refine start_ (n := 16) (S := fun w' => w'.cell? ⟨gb115, 0, none⟩ = some (.int .u16 (IntKind.u16.wrap (ji6))) ∧ w'.cell? ⟨gb115, 1, none⟩ = some (.int .u16 (IntKind.u16.wrap (ji10))) ∧ w'.cell? ⟨gb115, 2, none⟩ = some (.int .u8 (Go.bits .or .u8 x116002_1 (ji34))) ∧ w'.cell? ⟨gb115, 3, none⟩ = some (.int .u8 x116003_1) ∧ w'.cell? ⟨gb115, 4, none⟩ = some (.int .i64 2)) (ds := [15]) #[false, false, false, false, false, false, false, false, false, false, false, false, false, false, false, false] (by kernel_rfl) rfl rfl ⟨(blk_cell BK115.out 0).trans rfl, (blk_cell BK115.out 1).trans rfl, (blk_cell BK115.out 2).trans rfl, (blk_cell BK115.out 3).trans rfl, (blk_cell BK115.out 4).trans rfl⟩ (fun hHeld => ?_); refine with_tabW impl_ReadRule.tab9 impl_ReadRule.bits9 (fun HT_ HW_ => ?_)
                 generalize w44.drew = w45 at HO_22 BK112 BK115 HB hHeld ⊢
                 refine pure_ (i := 0) (N := some 40) (v := ?_) (a' := ?_) #[true, false, false, false, false, false, false, false, false, false, false, false, false, false, false, false] rfl rfl (any_of HT_.out (by kernel_rfl)) (fun _ _ _ h => h) (Or.inl ⟨by rfl, ?_⟩) ?_ ?_
                 rotate_left
                 ·intro w'
                  go_simp
                  with_reducible rfl
                 rotate_left
                 ·simp only [Act.put, List.setIfInBounds_toArray, List.set_cons_zero, List.set_cons_succ, i64_w, i32_w]
                  rfl
                 refine pure_ (i := 2) (N := some 42) (v := ?_) (a' := ?_) #[true, false, true, false, false, false, false, false, false, false, false, false, false, false, false, false] rfl rfl (any_of HT_.out (by kernel_rfl)) (fun _ _ _ h => h) (Or.inl ⟨by rfl, ?_⟩) ?_ ?_
                 rotate_left
                 ·intro w'
                  go_simp
                  with_reducible rfl
                 rotate_left
                 ·simp only [Act.put, List.setIfInBounds_toArray, List.set_cons_zero, List.set_cons_succ, i64_w, i32_w]
                  rfl
                 refine pure_ (i := 3) (N := some 43) (v := ?_) (a' := ?_) #[true, false, true, true, false, false, false, false, false, false, false, false, false, false, false, false] rfl rfl (any_of HT_.out (by kernel_rfl)) (fun _ _ _ h => h) (Or.inl ⟨by rfl, ?_⟩) ?_ ?_
                 rotate_left
                 ·intro w'
                  go_simp
                  with_reducible rfl
                 rotate_left
                 ·simp only [Act.put, List.setIfInBounds_toArray, List.set_cons_zero, List.set_cons_succ, i64_w, i32_w]
                  rfl
                 refine pure_ (i := 4) (N := some 44) (v := ?_) (a' := ?_) #[true, false, true, true, true, false, false, false, false, false, false, false, false, false, false, false] rfl rfl (any_of HT_.out (by kernel_rfl)) (fun _ _ _ h => h) (Or.inl ⟨by rfl, ?_⟩) ?_ ?_
                 rotate_left
                 ·intro w'
                  go_simp
                  with_reducible rfl
                 rotate_left
                 ·simp only [Act.put, List.setIfInBounds_toArray, List.set_cons_zero, List.set_cons_succ, i64_w, i32_w]
                  rfl
                 refine pure_ (i := 5) (N := some 45) (v := ?_) (a' := ?_) #[true, false, true, true, true, true, false, false, false, false, false, false, false, false, false, false] rfl rfl (any_of HT_.out (by kernel_rfl)) (fun _ _ _ h => h) (Or.inl ⟨by rfl, ?_⟩) ?_ ?_
                 rotate_left
                 ·intro w'
                  go_simp
                  with_reducible rfl
                 rotate_left
                 ·simp only [Act.put, List.setIfInBounds_toArray, List.set_cons_zero, List.set_cons_succ, i64_w, i32_w]
                  rfl
                 refine pure_ (i := 6) (N := some 46) (v := ?_) (a' := ?_) #[true, false, true, true, true, true, true, false, false, false, false, false, false, false, false, false] rfl rfl (any_of HT_.out (by kernel_rfl)) (fun _ _ _ h => h) (Or.inl ⟨by rfl, ?_⟩) ?_ ?_
                 rotate_left
                 ·intro w'
                  go_simp
                  with_reducible rfl
                 rotate_left
                 ·simp only [Act.put, List.setIfInBounds_toArray, List.set_cons_zero, List.set_cons_succ, i64_w, i32_w]
                  rfl
                 refine pure_ (i := 7) (N := some 47) (v := ?_) (a' := ?_) #[true, false, true, true, true, true, true, true, false, false, false, false, false, false, false, false] rfl rfl (any_of HT_.out (by kernel_rfl)) (fun _ _ _ h => h) (Or.inl ⟨by rfl, ?_⟩) ?_ ?_
                 rotate_left
                 ·intro w'
                  go_simp
                  with_reducible rfl
                 rotate_left
                 ·simp only [Act.put, List.setIfInBounds_toArray, List.set_cons_zero, List.set_cons_succ, i64_w, i32_w]
                  rfl
                 refine pure_ (i := 11) (N := some 51) (v := ?_) (a' := ?_) #[true, false, true, true, true, true, true, true, false, false, false, true, false, false, false, false] rfl rfl (any_of HT_.out (by kernel_rfl)) (fun _ _ _ h => h) (Or.inl ⟨by rfl, ?_⟩) ?_ ?_
                 rotate_left
                 ·intro w'
                  go_simp
                  with_reducible rfl
                 rotate_left
                 ·simp only [Act.put, List.setIfInBounds_toArray, List.set_cons_zero, List.set_cons_succ, i64_w, i32_w]
                  rfl
                 refine take_ (i := 1) (N := some 41) (v := ?_) (a' := ?_) #[true, true, true, true, true, true, true, true, false, false, false, true, false, false, false, false] rfl rfl (take_ofW HT_.out HW_.out (by kernel_rfl)) (fun _ _ _ h => h) (Or.inl ⟨by rfl, ?_⟩) hHeld ?_ ?_
                 rotate_left
                 ·rintro w' ⟨s0, s1, s2, s3, s4⟩
                  go_simp
                  with_reducible rfl
                 rotate_left
                 ·simp only [Act.put, List.setIfInBounds_toArray, List.set_cons_zero, List.set_cons_succ, i64_w, i32_w]
                  rfl
                 refine one_ (i := 8) (N := some 48) #[true, true, true, true, true, true, true, true, true, false, false, true, false, false, false, false] rfl rfl (one_of HT_.out (by kernel_rfl)) (by decide) (fun K hK => ?_)
                 refine goes_ Try.func17 (by kernel_rfl) rfl #[.string (a0.extract ((ji28) : Int).toNat ((wrap64 (11 + x24_1)) : Int).toNat), .int .i64 1] (by rfl) rfl rfl (by (try simp only [List.map_toArray, List.map_cons, List.map_nil]); first | done | (simp only [hji28]; rfl) | rfl | (simp only [List.length_drop, List.length_take]; rfl)) ?_
                 with_reducible refine (impl_ReadHex.calls k1 (a0.extract ((ji28) : Int).toNat ((wrap64 (11 + x24_1)) : Int).toNat) 1 t120 _ A38.out).mono ?_
                 rintro e w46 ⟨rfl, hb⟩
                 refine ⟨_, rfl, ?_⟩
                 have n0_ := Aside0.mk (Kd.R_below (by (with_reducible repeat (first | apply Kd.R_alloc | apply Kd.R_drewN | apply Kd.R_drew)); exact HO_22.out) hb)
                 have n1_ := Aside0.mk (blk_below (g := gb112) (o := .cells #[.int .u16 0, .int .u16 0, .int .u8 0, .int .u8 0, .int .i64 0] 24 (0, 0)) (by (with_reducible repeat (first | refine blk_drewN ?_ _ | refine blk_drew ?_ | refine blk_alloc ?_ _)); exact BK112.out) hb)
                 have n2_ := Aside0.mk (blk_below (g := gb115) (o := .cells #[.int .u16 (IntKind.u16.wrap (ji6)), .int .u16 (IntKind.u16.wrap (ji10)), .int .u8 (Go.bits .or .u8 x116002_1 (ji34)), .int .u8 x116003_1, .int .i64 2] 24 (0, 0)) (by (with_reducible repeat (first | refine blk_drewN ?_ _ | refine blk_drew ?_ | refine blk_alloc ?_ _)); exact BK115.out) hb)
                 have n3_ := Aside0.mk (below_step (by repeat (first | (with_reducible first | exact HB.out | apply below_alloc | apply pw_below_drewN | apply below_drew1 | refine below_set ?_ GE112.out | refine below_set ?_ GE115.out) | exact HB.out)) hb)
                 clear HO_22
                 clear BK112
                 clear BK115
                 clear HB
                 have HO_22 := n0_
                 have BK112 := n1_
                 have BK115 := n2_
                 have HB := n3_
                 clear n0_ n1_ n2_ n3_
                 (try clear hb)
                 (try clear hb2)
                 (try clear hk)
                 (try clear hi)
                 refine hK.out _ _ ⟨(blk_cell BK115.out 0).trans rfl, (blk_cell BK115.out 1).trans rfl, (blk_cell BK115.out 2).trans rfl, (blk_cell BK115.out 3).trans rfl, (blk_cell BK115.out 4).trans rfl⟩ (fun hHeld => ?_)
                 clear hK K
                 refine norm_ (a' := ?_) ?_ ?_
                 rotate_left
                 ·show Act.put _ (some 48) _ = _
                  simp only [Act.put, List.setIfInBounds_toArray, List.set_cons_zero, List.set_cons_succ, i64_w, i32_w]
                  rfl
                 refine pure_ (i := 9) (N := some 49) (v := ?_) (a' := ?_) #[true, true, true, true, true, true, true, true, true, true, false, true, false, false, false, false] rfl rfl (any_of HT_.out (by kernel_rfl)) (fun _ _ _ h => h) (Or.inl ⟨by rfl, ?_⟩) ?_ ?_
                 rotate_left
                 ·intro w'
                  go_simp
                  with_reducible rfl
                 rotate_left
                 ·simp only [Act.put, List.setIfInBounds_toArray, List.set_cons_zero, List.set_cons_succ, i64_w, i32_w]
                  rfl
                 refine pure_ (i := 10) (N := some 50) (v := ?_) (a' := ?_) #[true, true, true, true, true, true, true, true, true, true, true, true, false, false, false, false] rfl rfl (any_of HT_.out (by kernel_rfl)) (fun _ _ _ h => h) (Or.inl ⟨by rfl, ?_⟩) ?_ ?_
                 rotate_left
                 ·intro w'
                  go_simp
                  with_reducible rfl
                 rotate_left
                 ·simp only [Act.put, List.setIfInBounds_toArray, List.set_cons_zero, List.set_cons_succ, i64_w, i32_w]
                  rfl
                 refine pure_ (i := 12) (N := some 52) (v := ?_) (a' := ?_) #[true, true, true, true, true, true, true, true, true, true, true, true, true, false, false, false] rfl rfl (any_of HT_.out (by kernel_rfl)) (fun _ _ _ h => h) (Or.inl ⟨by rfl, ?_⟩) ?_ ?_
                 rotate_left
                 ·intro w'
                  go_simp
                  with_reducible rfl
                 rotate_left
                 ·simp only [Act.put, List.setIfInBounds_toArray, List.set_cons_zero, List.set_cons_succ, i64_w, i32_w]
                  rfl
                 refine pure_ (i := 13) (N := some 53) (v := ?_) (a' := ?_) #[true, true, true, true, true, true, true, true, true, true, true, true, true, true, false, false] rfl rfl (any_of HT_.out (by kernel_rfl)) (fun _ _ _ h => h) (Or.inl ⟨by rfl, ?_⟩) ?_ ?_
                 rotate_left
                 ·intro w'
                  go_simp
                  with_reducible rfl
                 rotate_left
                 ·simp only [Act.put, List.setIfInBounds_toArray, List.set_cons_zero, List.set_cons_succ, i64_w, i32_w]
                  rfl
                 refine pure_ (i := 14) (N := some 54) (v := ?_) (a' := ?_) #[true, true, true, true, true, true, true, true, true, true, true, true, true, true, true, false] rfl rfl (any_of HT_.out (by kernel_rfl)) (fun _ _ _ h => h) (Or.inl ⟨by rfl, ?_⟩) ?_ ?_
                 rotate_left
                 ·intro w'
                  go_simp
                  with_reducible rfl
                 rotate_left
                 ·simp only [Act.put, List.setIfInBounds_toArray, List.set_cons_zero, List.set_cons_succ, i64_w, i32_w]
                  rfl
                 refine last_ (i := 15) (N := none) #[true, true, true, true, true, true, true, true, true, true, true, true, true, true, true, true] rfl rfl (one_of HT_.out (by kernel_rfl)) (by decide) (fun K hK => ?_)
                 have hs47 : w46.cell? ⟨gb115, 3, none⟩ = some (.int .u8 x116003_1) := (blk_cell BK115.out 3).trans rfl
                 have hfs47 := blk_frozen BK115.out 3
                 have hns47_0 := NB112_115.out
                 have hms47_0 := NB115_112.out
                 refine skip_ (w1 := ?_) (by rfl) rfl ?_ ?_
                 rotate_left
                 ·go_simp
                  rfl
                 refine hK.out _ _ ?_
                 clear hK K
                 refine done_ (done_of HT_.out (by kernel_rfl)) ?_
                 try go_wp2
                 go_roundg k1
                 case measure => have := HK1.out; omega
                 case rel => (try simp only [show (ji39 % 256 * 2 ^ min (rd y116 x24_1).toNat 8 % 256) = ji41 from hji41]); exact ⟨(wrap64 (x24_1 + 1)), (Go.bits .or .u8 x116002_1 (ji34)), (Go.bits .or .u8 x116003_1 (ji41)), (by first | rfl | (simp; done) | (simp [*]; done)), H', ⟨by have := HK1.out; omega⟩, ⟨by (with_reducible repeat (first | apply Kd.R_alloc | apply Kd.R_drewN | apply Kd.R_drew)); exact Kd.R_mono (Kd.R_far (p := ⟨gb115, 3, none⟩) (Kd.R_types HO_22.out BK115.out (by decide)) (fun _ hk => hk.2) (.int .u8 (Go.bits .or .u8 x116003_1 (ji41)))) (fun _ hk => trivial)⟩, ⟨by (with_reducible repeat (first | refine blk_drewN ?_ _ | refine blk_drew ?_ | refine blk_alloc ?_ _)); refine blk_far ?_ NB112_115.out _; (with_reducible repeat (first | refine blk_drewN ?_ _ | refine blk_drew ?_ | refine blk_alloc ?_ _)); exact BK112.out⟩, ⟨by (with_reducible repeat (first | refine blk_drewN ?_ _ | refine blk_drew ?_ | refine blk_alloc ?_ _)); refine blk_put (cs := #[.int .u16 (IntKind.u16.wrap (ji6)), .int .u16 (IntKind.u16.wrap (ji10)), .int .u8 (Go.bits .or .u8 x116002_1 (ji34)), .int .u8 x116003_1, .int .i64 2]) ?_ 3 _ rfl; (with_reducible repeat (first | refine blk_drewN ?_ _ | refine blk_drew ?_ | refine blk_alloc ?_ _)); exact BK115.out⟩, ⟨by repeat (first | (with_reducible first | exact HB.out | apply below_alloc | apply pw_below_drewN | apply below_drew1 | refine below_set ?_ GE112.out | refine below_set ?_ GE115.out) | exact HB.out)⟩⟩
                ·rw [if_neg c37] at H
                 exact absurd H (by simp)
               ·rw [if_neg c36] at H
                exact absurd H (by simp)
              ·rw [if_neg c33] at H
               exact absurd H (by simp)
            ·rw [if_neg c30] at H
             exact absurd H (by simp)
           ·rw [if_neg c29] at H
            exact absurd H (by simp)
          ·rw [if_neg c27] at H
           exact absurd H (by simp)
         ·rw [if_neg c26] at H
          exact absurd H (by simp)
        ·rw [if_neg c25] at H
         have c25b0 : decide (x24_1 < (y116.length : Int)) = false := decide_eq_false c25
         clear c25
         by_cases c48 : 13 < (a0.size : Int)
         ·rw [if_pos c48] at H
          have c48b0 : decide (13 < (a0.size : Int)) = true := decide_eq_true c48
          have c48b1 : decide (13 < a0.size) = true := decide_eq_true (by omega)
          clear c48
          have HC50 := Aside0.mk H
          clear H
          have p49 : 0 ≤ (13 : Int) := (by omega)
          have q49 : 13 < a0.size := (by have : (13 : Int) < (a0.size : Int) := of_decide_eq_true (by first | (with_reducible assumption) | assumption); omega)
          have hx49 : ∀ h : 13 < a0.size, ((a0[13]'h).toNat : Int) = bt a0 13 := bt_at a0 13
          clear p49
          have qi49 : (13 < (a0.size : Int)) = True := eq_true (of_decide_eq_true (by first | (with_reducible assumption) | assumption))
          replace q49 := eq_true q49
          go_upto_block 2 with (fail)
          go_cut [] (fun wc => ∃ (kq : Nat) (x116004_49 : Int), Aside0 (impl_ReadRule.j1 kq a0 (IntKind.u16.wrap (ji6)) (IntKind.u16.wrap (ji10)) x116002_1 x116003_1 x116004_49 = some (r1, r2, r3, r4, r5, r6)) ∧ Aside0 (kq ≤ k1) ∧ Aside0 (wc.heap[gb112]? = some (.cells #[.int .u16 0, .int .u16 0, .int .u8 0, .int .u8 0, .int .i64 0] 24 (0, 0))) ∧ Aside0 (wc.heap[gb115]? = some (.cells #[.int .u16 (IntKind.u16.wrap (ji6)), .int .u16 (IntKind.u16.wrap (ji10)), .int .u8 x116002_1, .int .u8 x116003_1, .int .i64 x116004_49] 24 (0, 0))) ∧ Aside0 (Below w.heap.size w wc))
          case first =>
           have H := HC50.out
           clear HC50
           by_cases c51 : (bt a0 13) = 114
           ·rw [if_pos c51] at H
            have c51b0 : ((bt a0 13) == 114) = true := beq_iff_eq.mpr c51
            have c51b1 : ((bt a0 13) != 114) = false := bne_eq_false_iff_eq.mpr c51
            clear c51
            (first | rw [c51b0] | (simp only [i64_w, i32_w]; rw [c51b0]) | skip)
            have H' := Aside0.mk H
            clear H
            have hnb52 := NB115_112.out
            have hnc52 := NB112_115.out
            have hcz53_0 : wr.cell? ⟨gb115, 0, none⟩ = some (.int .u16 (IntKind.u16.wrap (ji6))) := (blk_cell BK115.out 0).trans rfl
            have hcz53_1 : wr.cell? ⟨gb115, 1, none⟩ = some (.int .u16 (IntKind.u16.wrap (ji10))) := (blk_cell BK115.out 1).trans rfl
            have hcz53_2 : wr.cell? ⟨gb115, 2, none⟩ = some (.int .u8 x116002_1) := (blk_cell BK115.out 2).trans rfl
            have hcz53_3 : wr.cell? ⟨gb115, 3, none⟩ = some (.int .u8 x116003_1) := (blk_cell BK115.out 3).trans rfl
            have hcz53_4 : wr.cell? ⟨gb115, 4, none⟩ = some (.int .i64 2) := (blk_cell BK115.out 4).trans rfl
            have hfz53_0 := blk_frozen BK115.out 0
            have hfz53_1 := blk_frozen BK115.out 1
            have hfz53_2 := blk_frozen BK115.out 2
            have hfz53_3 := blk_frozen BK115.out 3
            have hfz53_4 := blk_frozen BK115.out 4
            go_wp2
            go_meet
            case rel => exact ⟨_, (0), H', ⟨by have := HK1.out; first | omega | exact Nat.le_refl _⟩, ⟨by (with_reducible repeat (first | refine blk_drewN ?_ _ | refine blk_drew ?_ | refine blk_alloc ?_ _)); refine blk_far ?_ NB112_115.out _; (with_reducible repeat (first | refine blk_drewN ?_ _ | refine blk_drew ?_ | refine blk_alloc ?_ _)); exact BK112.out⟩, ⟨by (with_reducible repeat (first | refine blk_drewN ?_ _ | refine blk_drew ?_ | refine blk_alloc ?_ _)); refine blk_put (cs := #[.int .u16 (IntKind.u16.wrap (ji6)), .int .u16 (IntKind.u16.wrap (ji10)), .int .u8 x116002_1, .int .u8 x116003_1, .int .i64 2]) ?_ 4 _ rfl; (with_reducible repeat (first | refine blk_drewN ?_ _ | refine blk_drew ?_ | refine blk_alloc ?_ _)); exact BK115.out⟩, ⟨by repeat (first | (with_reducible first | exact HB.out | apply below_alloc | apply pw_below_drewN | apply below_drew1 | refine below_set ?_ GE112.out | refine below_set ?_ GE115.out) | exact HB.out)⟩⟩
           ·rw [if_neg c51] at H
            have c51b0 : ((bt a0 13) == 114) = false := beq_eq_false_iff_ne.mpr c51
            have c51b1 : ((bt a0 13) != 114) = true := bne_iff_ne.mpr c51
            (first | rw [c51b0] | (simp only [i64_w, i32_w]; rw [c51b0]) | skip)
            by_cases c54 : (bt a0 13) = 119
            ·rw [if_pos c54] at H
             have c54b0 : ((bt a0 13) == 119) = true := beq_iff_eq.mpr c54
             have c54b1 : ((bt a0 13) != 119) = false := bne_eq_false_iff_eq.mpr c54
             clear c54
             have H' := Aside0.mk H
             clear H
             have hnb55 := NB115_112.out
             have hnc55 := NB112_115.out
             have hcz56_0 : wr.cell? ⟨gb115, 0, none⟩ = some (.int .u16 (IntKind.u16.wrap (ji6))) := (blk_cell BK115.out 0).trans rfl
             have hcz56_1 : wr.cell? ⟨gb115, 1, none⟩ = some (.int .u16 (IntKind.u16.wrap (ji10))) := (blk_cell BK115.out 1).trans rfl
             have hcz56_2 : wr.cell? ⟨gb115, 2, none⟩ = some (.int .u8 x116002_1) := (blk_cell BK115.out 2).trans rfl
             have hcz56_3 : wr.cell? ⟨gb115, 3, none⟩ = some (.int .u8 x116003_1) := (blk_cell BK115.out 3).trans rfl
             have hcz56_4 : wr.cell? ⟨gb115, 4, none⟩ = some (.int .i64 2) := (blk_cell BK115.out 4).trans rfl
             have hfz56_0 := blk_frozen BK115.out 0
             have hfz56_1 := blk_frozen BK115.out 1
             have hfz56_2 := blk_frozen BK115.out 2
             have hfz56_3 := blk_frozen BK115.out 3
             have hfz56_4 := blk_frozen BK115.out 4
             go_wp2
             go_meet
             case rel => exact ⟨_, (1), H', ⟨by have := HK1.out; first | omega | exact Nat.le_refl _⟩, ⟨by (with_reducible repeat (first | refine blk_drewN ?_ _ | refine blk_drew ?_ | refine blk_alloc ?_ _)); refine blk_far ?_ NB112_115.out _; (with_reducible repeat (first | refine blk_drewN ?_ _ | refine blk_drew ?_ | refine blk_alloc ?_ _)); exact BK112.out⟩, ⟨by (with_reducible repeat (first | refine blk_drewN ?_ _ | refine blk_drew ?_ | refine blk_alloc ?_ _)); refine blk_put (cs := #[.int .u16 (IntKind.u16.wrap (ji6)), .int .u16 (IntKind.u16.wrap (ji10)), .int .u8 x116002_1, .int .u8 x116003_1, .int .i64 2]) ?_ 4 _ rfl; (with_reducible repeat (first | refine blk_drewN ?_ _ | refine blk_drew ?_ | refine blk_alloc ?_ _)); exact BK115.out⟩, ⟨by repeat (first | (with_reducible first | exact HB.out | apply below_alloc | apply pw_below_drewN | apply below_drew1 | refine below_set ?_ GE112.out | refine below_set ?_ GE115.out) | exact HB.out)⟩⟩
            ·rw [if_neg c54] at H
             have c54b0 : ((bt a0 13) == 119) = false := beq_eq_false_iff_ne.mpr c54
             have c54b1 : ((bt a0 13) != 119) = true := bne_iff_ne.mpr c54
             have H' := Aside0.mk H
             clear H
             go_wp2
             go_meet
             case rel => exact ⟨_, (2), H', ⟨by have := HK1.out; first | omega | exact Nat.le_refl _⟩, ⟨by (with_reducible repeat (first | refine blk_drewN ?_ _ | refine blk_drew ?_ | refine blk_alloc ?_ _)); exact BK112.out⟩, ⟨by (with_reducible repeat (first | refine blk_drewN ?_ _ | refine blk_drew ?_ | refine blk_alloc ?_ _)); exact BK115.out⟩, ⟨by repeat (first | (with_reducible first | exact HB.out | apply below_alloc | apply pw_below_drewN | apply below_drew1 | refine below_set ?_ GE112.out | refine below_set ?_ GE115.out) | exact HB.out)⟩⟩
          case rest =>
           clear HC50
           try clear c1
           try clear p1
           try clear q1
           try clear hx1
           try clear c2
           try clear c2b0
           try clear c2b1
           try clear p2
           try clear c3
           try clear c3b0
           try clear c3b1
           try clear p3
           try clear q3
           try clear hx3
           try clear c4
           try clear c4b0
           try clear c4b1
           try clear p4
           try clear q4
           try clear hx4
           try clear qi4
           try clear c5
           try clear c6
           try clear p6
           try clear c7
           try clear c7b0
           try clear c7b1
           try clear c8
           try clear c8b0
           try clear c8b1
           try clear p11
           try clear q11
           try clear hx11
           try clear c17
           try clear c25
           try clear c25b0
           try clear c26
           try clear c26b0
           try clear c27
           try clear c27b0
           try clear c29
           try clear c29b0
           try clear c30
           try clear c30b0
           try clear p31
           try clear q31
           try clear hx31
           try clear c32
           try clear c32b0
           try clear c32b1
           try clear c33
           try clear c33b0
           try clear c33b1
           try clear c35
           try clear c35b0
           try clear c36
           try clear c36b0
           try clear c36b1
           try clear c37
           try clear c37b0
           try clear c37b1
           try clear c40
           try clear c40b0
           try clear c48
           try clear c48b0
           try clear c48b1
           try clear p49
           try clear q49
           try clear hx49
           try clear qi49
           try clear c51
           try clear c51b0
           try clear c51b1
           try clear c52
           try clear c54
           try clear c54b0
           try clear c54b1
           try clear c55
           try clear hcz53_0
           try clear hcz53_1
           try clear hcz53_2
           try clear hcz53_3
           try clear hcz53_4
           try clear hcz56_0
           try clear hcz56_1
           try clear hcz56_2
           try clear hcz56_3
           try clear hcz56_4
           try clear hfz53_0
           try clear hfz53_1
           try clear hfz53_2
           try clear hfz53_3
           try clear hfz53_4
           try clear hfz56_0
           try clear hfz56_1
           try clear hfz56_2
           try clear hfz56_3
           try clear hfz56_4
           try clear hx119_0
           try clear p119
           try clear p2
           try clear p31
           try clear p49
           try clear q119
           try clear q31
           try clear q49
           obtain ⟨kq, x116004_49, HA, HJ49, BK112, BK115, HB⟩ := hcut
           cases kq with
           | zero => exact absurd HA.out (by simp [impl_ReadRule.j1])
           | succ kj49 =>
            have H := HA.out
            clear HA
            simp only [impl_ReadRule.j1] at H
            replace H := Option.bind_eq_some_iff.mp H
            obtain ⟨t121, A570, H⟩ := H
            replace H : (if t121.toList = a0.toList then (some ((IntKind.u16.wrap (ji6)), (IntKind.u16.wrap (ji10)), x116002_1, x116003_1, x116004_49, true)) else (some (0, 0, 0, 0, 0, false))) = some (r1, r2, r3, r4, r5, r6) := H
            have A57 := Aside0.mk A570
            clear A570
            by_cases c58 : t121.toList = a0.toList
            ·rw [if_pos c58] at H
             have c58b0 : (t121.toList == a0.toList) = true := beq_iff_eq.mpr c58
             have c58b1 : (t121.toList != a0.toList) = false := bne_eq_false_iff_eq.mpr c58
             clear c58
             simp only [Option.some.injEq, Prod.mk.injEq] at H
             obtain ⟨rfl, rfl, rfl, rfl, rfl, rfl⟩ := H
             have hnb59 := NB115_112.out
             have hnc59 := NB112_115.out
             have hcz60_0 : wc.cell? ⟨gb115, 0, none⟩ = some (.int .u16 (IntKind.u16.wrap (ji6))) := (blk_cell BK115.out 0).trans rfl
             have hcz60_1 : wc.cell? ⟨gb115, 1, none⟩ = some (.int .u16 (IntKind.u16.wrap (ji10))) := (blk_cell BK115.out 1).trans rfl
             have hcz60_2 : wc.cell? ⟨gb115, 2, none⟩ = some (.int .u8 x116002_1) := (blk_cell BK115.out 2).trans rfl
             have hcz60_3 : wc.cell? ⟨gb115, 3, none⟩ = some (.int .u8 x116003_1) := (blk_cell BK115.out 3).trans rfl
             have hcz60_4 : wc.cell? ⟨gb115, 4, none⟩ = some (.int .i64 x116004_49) := (blk_cell BK115.out 4).trans rfl
             have hfz60_0 := blk_frozen BK115.out 0
             have hfz60_1 := blk_frozen BK115.out 1
             have hfz60_2 := blk_frozen BK115.out 2
             have hfz60_3 := blk_frozen BK115.out 3
             have hfz60_4 := blk_frozen BK115.out 4
             go_wp2_with (first | ((with_reducible refine gate_callee (f := 10) rfl ?_); refine goesL_ (some 65) rfl rfl Try.func10 (by kernel_rfl) rfl #[.agg #[.int .u16 (IntKind.u16.wrap (ji6)), .int .u16 (IntKind.u16.wrap (ji10)), .int .u8 x116002_1, .int .u8 x116003_1, .int .i64 x116004_49]] rfl (by (try simp only [List.map_toArray, List.map_cons, List.map_nil]); first | done | (simp only [hji10, hji6]; rfl) | rfl | (simp only [List.length_drop, List.length_take]; rfl)) ?_; (with_reducible refine (impl_RuleText.calls kj49 (IntKind.u16.wrap (ji6)) (IntKind.u16.wrap (ji10)) x116002_1 x116003_1 x116004_49 t121 _ A57.out).mono ?_); rintro e w61 ⟨rfl, hb⟩; refine ⟨_, rfl, ?_⟩; have n0_ := Aside0.mk (blk_below (g := gb112) (o := .cells #[.int .u16 0, .int .u16 0, .int .u8 0, .int .u8 0, .int .i64 0] 24 (0, 0)) (by (with_reducible repeat (first | refine blk_drewN ?_ _ | refine blk_drew ?_ | refine blk_alloc ?_ _)); exact BK112.out) hb); have n1_ := Aside0.mk (blk_below (g := gb115) (o := .cells #[.int .u16 (IntKind.u16.wrap (ji6)), .int .u16 (IntKind.u16.wrap (ji10)), .int .u8 x116002_1, .int .u8 x116003_1, .int .i64 x116004_49] 24 (0, 0)) (by (with_reducible repeat (first | refine blk_drewN ?_ _ | refine blk_drew ?_ | refine blk_alloc ?_ _)); exact BK115.out) hb); have n2_ := Aside0.mk (below_step (by repeat (first | (with_reducible first | exact HB.out | apply below_alloc | apply pw_below_drewN | apply below_drew1 | refine below_set ?_ GE112.out | refine below_set ?_ GE115.out) | exact HB.out)) hb); clear BK112; clear BK115; clear HB; have BK112 := n0_; have BK115 := n1_; have HB := n2_; clear n0_ n1_ n2_; (try clear hb); (try clear hb2); (try clear hk); (try clear hi); have hcz62_0 : w61.cell? ⟨gb115, 0, none⟩ = some (.int .u16 (IntKind.u16.wrap (ji6))) := (blk_cell BK115.out 0).trans rfl; have hcz62_1 : w61.cell? ⟨gb115, 1, none⟩ = some (.int .u16 (IntKind.u16.wrap (ji10))) := (blk_cell BK115.out 1).trans rfl; have hcz62_2 : w61.cell? ⟨gb115, 2, none⟩ = some (.int .u8 x116002_1) := (blk_cell BK115.out 2).trans rfl; have hcz62_3 : w61.cell? ⟨gb115, 3, none⟩ = some (.int .u8 x116003_1) := (blk_cell BK115.out 3).trans rfl; have hcz62_4 : w61.cell? ⟨gb115, 4, none⟩ = some (.int .i64 x116004_49) := (blk_cell BK115.out 4).trans rfl; have hfz62_0 := blk_frozen BK115.out 0; have hfz62_1 := blk_frozen BK115.out 1; have hfz62_2 := blk_frozen BK115.out 2; have hfz62_3 := blk_frozen BK115.out 3; have hfz62_4 := blk_frozen BK115.out 4; have hcz63_0 : w61.cell? ⟨gb112, 0, none⟩ = some (.int .u16 0) := (blk_cell BK112.out 0).trans rfl; have hcz63_1 : w61.cell? ⟨gb112, 1, none⟩ = some (.int .u16 0) := (blk_cell BK112.out 1).trans rfl; have hcz63_2 : w61.cell? ⟨gb112, 2, none⟩ = some (.int .u8 0) := (blk_cell BK112.out 2).trans rfl; have hcz63_3 : w61.cell? ⟨gb112, 3, none⟩ = some (.int .u8 0) := (blk_cell BK112.out 3).trans rfl; have hcz63_4 : w61.cell? ⟨gb112, 4, none⟩ = some (.int .i64 0) := (blk_cell BK112.out 4).trans rfl; have hfz63_0 := blk_frozen BK112.out 0; have hfz63_1 := blk_frozen BK112.out 1; have hfz63_2 := blk_frozen BK112.out 2; have hfz63_3 := blk_frozen BK112.out 3; have hfz63_4 := blk_frozen BK112.out 4))
             refine bodyPost_ret (results_ct rfl _ _ gb112 24 #[.int .u16 (IntKind.u16.wrap (ji6)), .int .u16 (IntKind.u16.wrap (ji10)), .int .u8 x116002_1, .int .u8 x116003_1, .int .i64 x116004_49] (0, 0) _ rfl (by (with_reducible repeat (first | refine blk_drewN ?_ _ | refine blk_drew ?_ | refine blk_alloc ?_ _)); refine blk_put (cs := #[.int .u16 (IntKind.u16.wrap (ji6)), .int .u16 (IntKind.u16.wrap (ji10)), .int .u8 x116002_1, .int .u8 x116003_1, .int .i64 0]) ?_ 4 _ rfl; (with_reducible repeat (first | refine blk_drewN ?_ _ | refine blk_drew ?_ | refine blk_alloc ?_ _)); refine blk_put (cs := #[.int .u16 (IntKind.u16.wrap (ji6)), .int .u16 (IntKind.u16.wrap (ji10)), .int .u8 x116002_1, .int .u8 0, .int .i64 0]) ?_ 3 _ rfl; (with_reducible repeat (first | refine blk_drewN ?_ _ | refine blk_drew ?_ | refine blk_alloc ?_ _)); refine blk_put (cs := #[.int .u16 (IntKind.u16.wrap (ji6)), .int .u16 (IntKind.u16.wrap (ji10)), .int .u8 0, .int .u8 0, .int .i64 0]) ?_ 2 _ rfl; (with_reducible repeat (first | refine blk_drewN ?_ _ | refine blk_drew ?_ | refine blk_alloc ?_ _)); refine blk_put (cs := #[.int .u16 (IntKind.u16.wrap (ji6)), .int .u16 0, .int .u8 0, .int .u8 0, .int .i64 0]) ?_ 1 _ rfl; (with_reducible repeat (first | refine blk_drewN ?_ _ | refine blk_drew ?_ | refine blk_alloc ?_ _)); refine blk_put (cs := #[.int .u16 0, .int .u16 0, .int .u8 0, .int .u8 0, .int .i64 0]) ?_ 0 _ rfl; (with_reducible repeat (first | refine blk_drewN ?_ _ | refine blk_drew ?_ | refine blk_alloc ?_ _)); exact BK112.out) Try.underlying24 rfl (by kernel_rfl)) rfl ?_
             exact ⟨by first | rfl | (simp [errW_none, errW_some] <;> rfl) | (simp only [← hji6, ← hji10]; first | rfl | (simp [errW_none, errW_some] <;> rfl)) | (simp [*, errW_none, errW_some] <;> rfl), by repeat (first | (with_reducible first | exact HB.out | apply below_alloc | apply pw_below_drewN | apply below_drew1 | refine below_set ?_ GE112.out | refine below_set ?_ GE115.out) | exact HB.out)⟩
            ·rw [if_neg c58] at H
             have c58b0 : (t121.toList == a0.toList) = false := beq_eq_false_iff_ne.mpr c58
             have c58b1 : (t121.toList != a0.toList) = true := bne_iff_ne.mpr c58
             simp only [Option.some.injEq, Prod.mk.injEq] at H
             obtain ⟨rfl, rfl, rfl, rfl, rfl, rfl⟩ := H
             have hnb64 := NB115_112.out
             have hnc64 := NB112_115.out
             have hcz65_0 : wc.cell? ⟨gb115, 0, none⟩ = some (.int .u16 (IntKind.u16.wrap (ji6))) := (blk_cell BK115.out 0).trans rfl
             have hcz65_1 : wc.cell? ⟨gb115, 1, none⟩ = some (.int .u16 (IntKind.u16.wrap (ji10))) := (blk_cell BK115.out 1).trans rfl
             have hcz65_2 : wc.cell? ⟨gb115, 2, none⟩ = some (.int .u8 x116002_1) := (blk_cell BK115.out 2).trans rfl
             have hcz65_3 : wc.cell? ⟨gb115, 3, none⟩ = some (.int .u8 x116003_1) := (blk_cell BK115.out 3).trans rfl
             have hcz65_4 : wc.cell? ⟨gb115, 4, none⟩ = some (.int .i64 x116004_49) := (blk_cell BK115.out 4).trans rfl
             have hfz65_0 := blk_frozen BK115.out 0
             have hfz65_1 := blk_frozen BK115.out 1
             have hfz65_2 := blk_frozen BK115.out 2
             have hfz65_3 := blk_frozen BK115.out 3
             have hfz65_4 := blk_frozen BK115.out 4
             go_wp2_with (first | ((with_reducible refine gate_callee (f := 10) rfl ?_); refine goesL_ (some 65) rfl rfl Try.func10 (by kernel_rfl) rfl #[.agg #[.int .u16 (IntKind.u16.wrap (ji6)), .int .u16 (IntKind.u16.wrap (ji10)), .int .u8 x116002_1, .int .u8 x116003_1, .int .i64 x116004_49]] rfl (by (try simp only [List.map_toArray, List.map_cons, List.map_nil]); first | done | (simp only [hji10, hji6]; rfl) | rfl | (simp only [List.length_drop, List.length_take]; rfl)) ?_; (with_reducible refine (impl_RuleText.calls kj49 (IntKind.u16.wrap (ji6)) (IntKind.u16.wrap (ji10)) x116002_1 x116003_1 x116004_49 t121 _ A57.out).mono ?_); rintro e w66 ⟨rfl, hb⟩; refine ⟨_, rfl, ?_⟩; have n0_ := Aside0.mk (blk_below (g := gb112) (o := .cells #[.int .u16 0, .int .u16 0, .int .u8 0, .int .u8 0, .int .i64 0] 24 (0, 0)) (by (with_reducible repeat (first | refine blk_drewN ?_ _ | refine blk_drew ?_ | refine blk_alloc ?_ _)); exact BK112.out) hb); have n1_ := Aside0.mk (blk_below (g := gb115) (o := .cells #[.int .u16 (IntKind.u16.wrap (ji6)), .int .u16 (IntKind.u16.wrap (ji10)), .int .u8 x116002_1, .int .u8 x116003_1, .int .i64 x116004_49] 24 (0, 0)) (by (with_reducible repeat (first | refine blk_drewN ?_ _ | refine blk_drew ?_ | refine blk_alloc ?_ _)); exact BK115.out) hb); have n2_ := Aside0.mk (below_step (by repeat (first | (with_reducible first | exact HB.out | apply below_alloc | apply pw_below_drewN | apply below_drew1 | refine below_set ?_ GE112.out | refine below_set ?_ GE115.out) | exact HB.out)) hb); clear BK112; clear BK115; clear HB; have BK112 := n0_; have BK115 := n1_; have HB := n2_; clear n0_ n1_ n2_; (try clear hb); (try clear hb2); (try clear hk); (try clear hi); have hcz67_0 : w66.cell? ⟨gb112, 0, none⟩ = some (.int .u16 0) := (blk_cell BK112.out 0).trans rfl; have hcz67_1 : w66.cell? ⟨gb112, 1, none⟩ = some (.int .u16 0) := (blk_cell BK112.out 1).trans rfl; have hcz67_2 : w66.cell? ⟨gb112, 2, none⟩ = some (.int .u8 0) := (blk_cell BK112.out 2).trans rfl; have hcz67_3 : w66.cell? ⟨gb112, 3, none⟩ = some (.int .u8 0) := (blk_cell BK112.out 3).trans rfl; have hcz67_4 : w66.cell? ⟨gb112, 4, none⟩ = some (.int .i64 0) := (blk_cell BK112.out 4).trans rfl; have hfz67_0 := blk_frozen BK112.out 0; have hfz67_1 := blk_frozen BK112.out 1; have hfz67_2 := blk_frozen BK112.out 2; have hfz67_3 := blk_frozen BK112.out 3; have hfz67_4 := blk_frozen BK112.out 4))
             refine bodyPost_ret (results_ct rfl _ _ gb112 24 #[.int .u16 0, .int .u16 0, .int .u8 0, .int .u8 0, .int .i64 0] (0, 0) _ rfl (by (with_reducible repeat (first | refine blk_drewN ?_ _ | refine blk_drew ?_ | refine blk_alloc ?_ _)); refine blk_put (cs := #[.int .u16 0, .int .u16 0, .int .u8 0, .int .u8 0, .int .i64 0]) ?_ 4 _ rfl; (with_reducible repeat (first | refine blk_drewN ?_ _ | refine blk_drew ?_ | refine blk_alloc ?_ _)); refine blk_put (cs := #[.int .u16 0, .int .u16 0, .int .u8 0, .int .u8 0, .int .i64 0]) ?_ 3 _ rfl; (with_reducible repeat (first | refine blk_drewN ?_ _ | refine blk_drew ?_ | refine blk_alloc ?_ _)); refine blk_put (cs := #[.int .u16 0, .int .u16 0, .int .u8 0, .int .u8 0, .int .i64 0]) ?_ 2 _ rfl; (with_reducible repeat (first | refine blk_drewN ?_ _ | refine blk_drew ?_ | refine blk_alloc ?_ _)); refine blk_put (cs := #[.int .u16 0, .int .u16 0, .int .u8 0, .int .u8 0, .int .i64 0]) ?_ 1 _ rfl; (with_reducible repeat (first | refine blk_drewN ?_ _ | refine blk_drew ?_ | refine blk_alloc ?_ _)); refine blk_put (cs := #[.int .u16 0, .int .u16 0, .int .u8 0, .int .u8 0, .int .i64 0]) ?_ 0 _ rfl; (with_reducible repeat (first | refine blk_drewN ?_ _ | refine blk_drew ?_ | refine blk_alloc ?_ _)); exact BK112.out) Try.underlying24 rfl (by kernel_rfl)) rfl ?_
             exact ⟨by first | rfl | (simp [errW_none, errW_some] <;> rfl) | (simp only [← hji6, ← hji10]; first | rfl | (simp [errW_none, errW_some] <;> rfl)) | (simp [*, errW_none, errW_some] <;> rfl), by repeat (first | (with_reducible first | exact HB.out | apply below_alloc | apply pw_below_drewN | apply below_drew1 | refine below_set ?_ GE112.out | refine below_set ?_ GE115.out) | exact HB.out)⟩
         ·rw [if_neg c48] at H
          exact absurd H (by simp)
     ·rw [if_neg c8] at H
      exact absurd H (by simp)
    ·rw [if_neg c7] at H
     exact absurd H (by simp)
   ·rw [if_neg c4] at H
    exact absurd H (by simp)
  ·rw [if_neg c3] at H
   exact absurd H (by simp)
 ·rw [if_neg c2] at H
  have c2b0 : ((a0.size : Int) == 14) = false := beq_eq_false_iff_ne.mpr c2
  have c2b1 : ((a0.size : Int) != 14) = true := bne_iff_ne.mpr c2
  simp only [Option.some.injEq, Prod.mk.injEq] at H
  obtain ⟨rfl, rfl, rfl, rfl, rfl, rfl⟩ := H
  go_enter Try.func6, Try.ntmps6
  go_wp2_with (first | ((with_reducible refine gate_dst (N := 2) rfl ?_); refine box_event ?hg (N := 2) ?hd (cs := #[.int .u16 0, .int .u16 0, .int .u8 0, .int .u8 0, .int .i64 0]) (t := 24) ?hr ?_; (case hd => rfl); (case hg => rfl); (case hr => first | (go_simp; done) | (go_simp; rfl)); intro gb112 hg w68 hbox hb; have n0_ := Aside0.mk (below_step (by repeat (first | (with_reducible first | exact HB.out | apply below_alloc | apply pw_below_drewN | apply below_drew1) | exact HB.out)) hb); have n1_ := Aside0.mk (hbox); have n2_ := Aside0.mk ((by rw [hg]; exact (below_size (by repeat (first | (with_reducible first | exact HB.out | apply below_alloc | apply pw_below_drewN | apply below_drew1) | exact HB.out))) : w.heap.size ≤ gb112)); have n3_ := Aside0.mk ((by rw [hg]; exact (below_size (by repeat (first | (with_reducible first | exact HB.out | apply below_alloc | apply pw_below_drewN | apply below_drew1) | exact HB.out))) : w.heap.size ≤ gb112)); clear HB; have HB := n0_; have BK112 := n1_; have GW112 := n2_; have GE112 := n3_; clear n0_ n1_ n2_ n3_; clear hb hbox hg; have hcz69_0 : w68.cell? ⟨gb112, 0, none⟩ = some (.int .u16 0) := (blk_cell BK112.out 0).trans rfl; have hcz69_1 : w68.cell? ⟨gb112, 1, none⟩ = some (.int .u16 0) := (blk_cell BK112.out 1).trans rfl; have hcz69_2 : w68.cell? ⟨gb112, 2, none⟩ = some (.int .u8 0) := (blk_cell BK112.out 2).trans rfl; have hcz69_3 : w68.cell? ⟨gb112, 3, none⟩ = some (.int .u8 0) := (blk_cell BK112.out 3).trans rfl; have hcz69_4 : w68.cell? ⟨gb112, 4, none⟩ = some (.int .i64 0) := (blk_cell BK112.out 4).trans rfl; have hfz69_0 := blk_frozen BK112.out 0; have hfz69_1 := blk_frozen BK112.out 1; have hfz69_2 := blk_frozen BK112.out 2; have hfz69_3 := blk_frozen BK112.out 3; have hfz69_4 := blk_frozen BK112.out 4))
  refine bodyPost_ret (results_ct rfl _ _ gb112 24 #[.int .u16 0, .int .u16 0, .int .u8 0, .int .u8 0, .int .i64 0] (0, 0) _ rfl (by (with_reducible repeat (first | refine blk_drewN ?_ _ | refine blk_drew ?_ | refine blk_alloc ?_ _)); refine blk_put (cs := #[.int .u16 0, .int .u16 0, .int .u8 0, .int .u8 0, .int .i64 0]) ?_ 4 _ rfl; (with_reducible repeat (first | refine blk_drewN ?_ _ | refine blk_drew ?_ | refine blk_alloc ?_ _)); refine blk_put (cs := #[.int .u16 0, .int .u16 0, .int .u8 0, .int .u8 0, .int .i64 0]) ?_ 3 _ rfl; (with_reducible repeat (first | refine blk_drewN ?_ _ | refine blk_drew ?_ | refine blk_alloc ?_ _)); refine blk_put (cs := #[.int .u16 0, .int .u16 0, .int .u8 0, .int .u8 0, .int .i64 0]) ?_ 2 _ rfl; (with_reducible repeat (first | refine blk_drewN ?_ _ | refine blk_drew ?_ | refine blk_alloc ?_ _)); refine blk_put (cs := #[.int .u16 0, .int .u16 0, .int .u8 0, .int .u8 0, .int .i64 0]) ?_ 1 _ rfl; (with_reducible repeat (first | refine blk_drewN ?_ _ | refine blk_drew ?_ | refine blk_alloc ?_ _)); refine blk_put (cs := #[.int .u16 0, .int .u16 0, .int .u8 0, .int .u8 0, .int .i64 0]) ?_ 0 _ rfl; (with_reducible repeat (first | refine blk_drewN ?_ _ | refine blk_drew ?_ | refine blk_alloc ?_ _)); exact BK112.out) Try.underlying24 rfl (by kernel_rfl)) rfl ?_
  exact ⟨by first | rfl | (simp [errW_none, errW_some] <;> rfl) | (simp [*, errW_none, errW_some] <;> rfl), by repeat (first | (with_reducible first | exact HB.out | apply below_alloc | apply pw_below_drewN | apply below_drew1 | refine below_set ?_ GE112.out) | exact HB.out)⟩

end Go.Proofs.Ytkngnnfjdmndeaa.MQ
