-- Written by this session's own program (wip/myprint.py) over the kit's print of the translation. Lean checks it.
import Derived.Test.YtidencofapcliaaMCx0
import Derived.Test.YtidencofapcliaaMCx1
import Derived.Test.YtidencofapcliaaMCx2
namespace Go.Proofs.Ytidencofapcliaa.MC
open Go.RowKit Go.Proofs.YtidencofapcliaaW.PrintWords Go.Proofs.YtidencofapcliaaW.PrintLast Go.Proofs.YtidencofapcliaaW.PrintMore
attribute [local go_sem] max2_int min2_int max_two min_two max_three min_three max_four min_four   -- for this text's walks alone
set_option linter.unusedVariables false
set_option linter.unusedSimpArgs false

/-! ### spec_ReadCpu: function 8 -/
def spec_ReadCpu.l0 : Nat → ByteArray → List Int → Int → Option (Int × Int × Int × Int × Int × Bool × Bool × Bool × Bool × Bool × Bool × Bool)
 | 0, _, _, _ => none
 | k + 1, x0, x4, x5 => if x5 < 5 then (if 0 ≤ x5 then (if x5 < (x4.length : Int) then (if (rd x4 x5) < 0 then (some (0, 0, 0, 0, 0, false, false, false, false, false, false, false)) else (spec_ReadCpu.l0 k x0 x4 (wrap64 (x5 + 1)))) else (none)) else (none)) else (if 28 ≤ (x0.size : Int) then (if 0 < (x4.length : Int) then (if 1 < (x4.length : Int) then (if 2 < (x4.length : Int) then (if 3 < (x4.length : Int) then (if 4 < (x4.length : Int) then (if 0 < ((x0.extract 28 x0.size).size : Int) then (if 1 < ((x0.extract 28 x0.size).size : Int) then (if 2 < ((x0.extract 28 x0.size).size : Int) then (if 3 < ((x0.extract 28 x0.size).size : Int) then (if 4 < ((x0.extract 28 x0.size).size : Int) then (if 5 < ((x0.extract 28 x0.size).size : Int) then ((spec_CpuText.f k ((rd x4 0) % 256) ((rd x4 1) % 256) ((rd x4 2) % 256) ((rd x4 3) % 256) (IntKind.u16.wrap (rd x4 4)) ((bt (x0.extract 28 x0.size) 0) == 78) ((bt (x0.extract 28 x0.size) 1) == 86) ((bt (x0.extract 28 x0.size) 2) == 68) ((bt (x0.extract 28 x0.size) 3) == 73) ((bt (x0.extract 28 x0.size) 4) == 90) ((bt (x0.extract 28 x0.size) 5) == 67)).bind fun t136 => (if t136.toList = x0.toList then (some ((rd x4 0) % 256, (rd x4 1) % 256, (rd x4 2) % 256, (rd x4 3) % 256, IntKind.u16.wrap (rd x4 4), ((bt (x0.extract 28 x0.size) 0) == 78), ((bt (x0.extract 28 x0.size) 1) == 86), ((bt (x0.extract 28 x0.size) 2) == 68), ((bt (x0.extract 28 x0.size) 3) == 73), ((bt (x0.extract 28 x0.size) 4) == 90), ((bt (x0.extract 28 x0.size) 5) == 67), true)) else (some (0, 0, 0, 0, 0, false, false, false, false, false, false, false)))) else (none)) else (none)) else (none)) else (none)) else (none)) else (none)) else (none)) else (none)) else (none)) else (none)) else (none)) else (none))
def spec_ReadCpu.f (k : Nat) (a0 : ByteArray) : Option (Int × Int × Int × Int × Int × Bool × Bool × Bool × Bool × Bool × Bool × Bool) := if (a0.size : Int) = 34 then (if 2 ≤ 4 then (if 4 ≤ (a0.size : Int) then ((spec_ReadHex.f k (a0.extract 2 4) 2).bind fun t121 => (if 7 ≤ 9 then (if 9 ≤ (a0.size : Int) then ((spec_ReadHex.f k (a0.extract 7 9) 2).bind fun t122 => (if 12 ≤ 14 then (if 14 ≤ (a0.size : Int) then ((spec_ReadHex.f k (a0.extract 12 14) 2).bind fun t123 => (if 17 ≤ 19 then (if 19 ≤ (a0.size : Int) then ((spec_ReadHex.f k (a0.extract 17 19) 2).bind fun t124 => (if 23 ≤ 27 then (if 27 ≤ (a0.size : Int) then ((spec_ReadHex.f k (a0.extract 23 27) 4).bind fun t125 => (spec_ReadCpu.l0 k a0 (([t121, t122, t123, t124, t125] : List Int)) 0)) else (none)) else (none))) else (none)) else (none))) else (none)) else (none))) else (none)) else (none))) else (none)) else (none)) else (some (0, 0, 0, 0, 0, false, false, false, false, false, false, false))
theorem spec_ReadCpu.mono_l : ∀ k, (∀ y0 y1 y2, LeO (spec_ReadCpu.l0 k y0 y1 y2) (spec_ReadCpu.l0 (k + 1) y0 y1 y2))
 | 0 => fun _ _ _ r h => by simp [spec_ReadCpu.l0] at h
 | k + 1 => by
  have ih0 := spec_ReadCpu.mono_l k
  ·intro y0 y1 y2
   unfold spec_ReadCpu.l0
   repeat' first
   | (with_reducible exact ih0 _ _ _)
   | (with_reducible exact spec_CpuText.mono _ _ _ _ _ _ _ _ _ _ _ _)
   | (with_reducible exact spec_ReadHex.mono _ _ _)
   | (with_reducible exact LeO.refl _)
   | (with_reducible exact LeO.none _)
   | (with_reducible refine LeO.ite ?_ ?_)
   | (with_reducible refine LeO.bind ?_ (fun _ => ?_))
   | exact ih0 _ _ _
   | exact spec_CpuText.mono _ _ _ _ _ _ _ _ _ _ _ _
   | exact spec_ReadHex.mono _ _ _
   | exact LeO.none _
   | refine LeO.ite ?_ ?_
   | refine LeO.bind ?_ (fun _ => ?_)
theorem spec_ReadCpu.mono : ∀ a0 k, LeO (spec_ReadCpu.f k a0) (spec_ReadCpu.f (k + 1) a0) := by
 intro a0 k
 have ih0 := spec_ReadCpu.mono_l k
 unfold spec_ReadCpu.f
 repeat' first
   | (with_reducible exact ih0 _ _ _)
   | (with_reducible exact spec_CpuText.mono _ _ _ _ _ _ _ _ _ _ _ _)
   | (with_reducible exact spec_ReadHex.mono _ _ _)
   | (with_reducible exact LeO.refl _)
   | (with_reducible exact LeO.none _)
   | (with_reducible refine LeO.ite ?_ ?_)
   | (with_reducible refine LeO.bind ?_ (fun _ => ?_))
   | exact ih0 _ _ _
   | exact spec_CpuText.mono _ _ _ _ _ _ _ _ _ _ _ _
   | exact spec_ReadHex.mono _ _ _
   | exact LeO.none _
   | refine LeO.ite ?_ ?_
   | refine LeO.bind ?_ (fun _ => ?_)
def spec_ReadCpu.T3 : Bool × List (List Nat × List Nat) := (true, [([], []), ([0], [0]), ([1], [1]), ([], []), ([3], [3]), ([4, 2], [4]), ([], []), ([6], [6]), ([7, 5], [7]), ([], []), ([9], [9]), ([10, 8], [10]), ([], []), ([12], [12]), ([13, 11], [13]), ([2, 5, 8, 11, 14], [2, 5, 8, 11, 14]), ([15, 14, 0, 1, 2, 3, 4, 5, 6, 7, 8, 9, 10, 11, 12, 13, 14, 15], [15])])
def spec_ReadCpu.B3 : List Nat := [0, 1, 3, 0, 8, 31, 0, 64, 255, 0, 512, 2047, 0, 4096, 16383, 32767, 65535]
theorem spec_ReadCpu.tab3 : rtab .any (opsOf Try.f8 3) = spec_ReadCpu.T3 := by kernel_rfl
theorem spec_ReadCpu.bits3 : waitsOk spec_ReadCpu.T3.2 spec_ReadCpu.B3 = true := by kernel_rfl
def spec_ReadCpu.T10 : Bool × List (List Nat × List Nat) := (true, [([], []), ([0], [0]), ([1], [1]), ([2], [2]), ([], []), ([4], [4]), ([5], [5]), ([6], [6]), ([], []), ([8], [8]), ([9], [9]), ([10], [10]), ([], []), ([12], [12]), ([13], [13]), ([14], [14]), ([], []), ([16], [16]), ([17], [17]), ([18], [18]), ([3, 7, 11, 15, 19], [3, 7, 11, 15, 19]), ([], []), ([21, 20, 0, 1, 2, 3, 4, 5, 6, 7, 8, 9, 10, 11, 12, 13, 14, 15, 16, 17, 18, 19, 20, 21], [20, 21])])
def spec_ReadCpu.B10 : List Nat := [0, 1, 3, 7, 0, 16, 48, 112, 0, 256, 768, 1792, 0, 4096, 12288, 28672, 0, 65536, 196608, 458752, 1048575, 0, 4194303]
theorem spec_ReadCpu.tab10 : rtab .any (opsOf Try.f8 10) = spec_ReadCpu.T10 := by kernel_rfl
theorem spec_ReadCpu.bits10 : waitsOk spec_ReadCpu.T10.2 spec_ReadCpu.B10 = true := by kernel_rfl
def spec_ReadCpu.T11 : Bool × List (List Nat × List Nat) := (true, [([], []), ([0], [0]), ([1], [1]), ([], []), ([3], [3]), ([4], [4]), ([], []), ([6], [6]), ([7], [7]), ([], []), ([9], [9]), ([10], [10]), ([], []), ([12], [12]), ([13], [13]), ([], []), ([15], [15]), ([16], [16]), ([2, 5, 8, 11, 14, 17], [2, 5, 8, 11, 14, 17]), ([0, 1, 2, 3, 4, 5, 6, 7, 8, 9, 10, 11, 12, 13, 14, 15, 16, 17, 18], []), ([19, 18, 0, 1, 2, 3, 4, 5, 6, 7, 8, 9, 10, 11, 12, 13, 14, 15, 16, 17, 18], [18, 19])])
def spec_ReadCpu.B11 : List Nat := [0, 1, 3, 0, 8, 24, 0, 64, 192, 0, 512, 1536, 0, 4096, 12288, 0, 32768, 98304, 262143, 524287, 1048575]
theorem spec_ReadCpu.tab11 : rtab .any (opsOf Try.f8 11) = spec_ReadCpu.T11 := by kernel_rfl
theorem spec_ReadCpu.bits11 : waitsOk spec_ReadCpu.T11.2 spec_ReadCpu.B11 = true := by kernel_rfl
set_option maxHeartbeats 8000000 in
set_option maxRecDepth 100000 in
theorem spec_ReadCpu.calls (k : Nat) (a0 : ByteArray) (r1 : Int) (r2 : Int) (r3 : Int) (r4 : Int) (r5 : Int) (r6 : Bool) (r7 : Bool) (r8 : Bool) (r9 : Bool) (r10 : Bool) (r11 : Bool) (r12 : Bool) (w : World) (h : spec_ReadCpu.f k a0 = some (r1, r2, r3, r4, r5, r6, r7, r8, r9, r10, r11, r12)) :
  Calls Try.prog 8 #[.string a0] w fun e w' => e = .returned (.tuple #[.agg #[.int .u8 r1, .int .u8 r2, .int .u8 r3, .int .u8 r4, .int .u16 r5, .bool r6, .bool r7, .bool r8, .bool r9, .bool r10, .bool r11], .bool r12]) ∧ Below w.heap.size w w' := by
 have hu32 := Try.underlying32
 have hu30 := Try.underlying30
 have HB := Aside0.mk (Below.refl w.heap.size w)
 have H : (if (a0.size : Int) = 34 then (if 2 ≤ 4 then (if 4 ≤ (a0.size : Int) then ((spec_ReadHex.f k (a0.extract 2 4) 2).bind fun t121 => (if 7 ≤ 9 then (if 9 ≤ (a0.size : Int) then ((spec_ReadHex.f k (a0.extract 7 9) 2).bind fun t122 => (if 12 ≤ 14 then (if 14 ≤ (a0.size : Int) then ((spec_ReadHex.f k (a0.extract 12 14) 2).bind fun t123 => (if 17 ≤ 19 then (if 19 ≤ (a0.size : Int) then ((spec_ReadHex.f k (a0.extract 17 19) 2).bind fun t124 => (if 23 ≤ 27 then (if 27 ≤ (a0.size : Int) then ((spec_ReadHex.f k (a0.extract 23 27) 4).bind fun t125 => (spec_ReadCpu.l0 k a0 (([t121, t122, t123, t124, t125] : List Int)) 0)) else (none)) else (none))) else (none)) else (none))) else (none)) else (none))) else (none)) else (none))) else (none)) else (none)) else (some (0, 0, 0, 0, 0, false, false, false, false, false, false, false))) = some (r1, r2, r3, r4, r5, r6, r7, r8, r9, r10, r11, r12) := h
 clear h
 by_cases c2 : (a0.size : Int) = 34
 ·rw [if_pos c2] at H
  have c2b0 : ((a0.size : Int) == 34) = true := beq_iff_eq.mpr c2
  have c2b1 : ((a0.size : Int) != 34) = false := bne_eq_false_iff_eq.mpr c2
  clear c2
  by_cases c3 : 2 ≤ 4
  ·rw [if_pos c3] at H
   have c3b0 := eq_true c3
   have c3b1 : decide (2 ≤ 4) = true := decide_eq_true c3
   clear c3
   by_cases c4 : 4 ≤ (a0.size : Int)
   ·rw [if_pos c4] at H
    have c4b0 := eq_true c4
    have c4b1 : decide (4 ≤ (a0.size : Int)) = true := decide_eq_true c4
    clear c4
    replace H := Option.bind_eq_some_iff.mp H
    obtain ⟨t121, A50, H⟩ := H
    replace H : (if 7 ≤ 9 then (if 9 ≤ (a0.size : Int) then ((spec_ReadHex.f k (a0.extract 7 9) 2).bind fun t122 => (if 12 ≤ 14 then (if 14 ≤ (a0.size : Int) then ((spec_ReadHex.f k (a0.extract 12 14) 2).bind fun t123 => (if 17 ≤ 19 then (if 19 ≤ (a0.size : Int) then ((spec_ReadHex.f k (a0.extract 17 19) 2).bind fun t124 => (if 23 ≤ 27 then (if 27 ≤ (a0.size : Int) then ((spec_ReadHex.f k (a0.extract 23 27) 4).bind fun t125 => (spec_ReadCpu.l0 k a0 (([t121, t122, t123, t124, t125] : List Int)) 0)) else (none)) else (none))) else (none)) else (none))) else (none)) else (none))) else (none)) else (none)) = some (r1, r2, r3, r4, r5, r6, r7, r8, r9, r10, r11, r12) := H
    have A5 := Aside0.mk A50
    clear A50
    by_cases c6 : 7 ≤ 9
    ·rw [if_pos c6] at H
     have c6b0 := eq_true c6
     have c6b1 : decide (7 ≤ 9) = true := decide_eq_true c6
     clear c6
     by_cases c7 : 9 ≤ (a0.size : Int)
     ·rw [if_pos c7] at H
      have c7b0 := eq_true c7
      have c7b1 : decide (9 ≤ (a0.size : Int)) = true := decide_eq_true c7
      clear c7
      replace H := Option.bind_eq_some_iff.mp H
      obtain ⟨t122, A80, H⟩ := H
      replace H : (if 12 ≤ 14 then (if 14 ≤ (a0.size : Int) then ((spec_ReadHex.f k (a0.extract 12 14) 2).bind fun t123 => (if 17 ≤ 19 then (if 19 ≤ (a0.size : Int) then ((spec_ReadHex.f k (a0.extract 17 19) 2).bind fun t124 => (if 23 ≤ 27 then (if 27 ≤ (a0.size : Int) then ((spec_ReadHex.f k (a0.extract 23 27) 4).bind fun t125 => (spec_ReadCpu.l0 k a0 (([t121, t122, t123, t124, t125] : List Int)) 0)) else (none)) else (none))) else (none)) else (none))) else (none)) else (none)) = some (r1, r2, r3, r4, r5, r6, r7, r8, r9, r10, r11, r12) := H
      have A8 := Aside0.mk A80
      clear A80
      by_cases c9 : 12 ≤ 14
      ·rw [if_pos c9] at H
       have c9b0 := eq_true c9
       have c9b1 : decide (12 ≤ 14) = true := decide_eq_true c9
       clear c9
       by_cases c10 : 14 ≤ (a0.size : Int)
       ·rw [if_pos c10] at H
        have c10b0 := eq_true c10
        have c10b1 : decide (14 ≤ (a0.size : Int)) = true := decide_eq_true c10
        clear c10
        replace H := Option.bind_eq_some_iff.mp H
        obtain ⟨t123, A110, H⟩ := H
        replace H : (if 17 ≤ 19 then (if 19 ≤ (a0.size : Int) then ((spec_ReadHex.f k (a0.extract 17 19) 2).bind fun t124 => (if 23 ≤ 27 then (if 27 ≤ (a0.size : Int) then ((spec_ReadHex.f k (a0.extract 23 27) 4).bind fun t125 => (spec_ReadCpu.l0 k a0 (([t121, t122, t123, t124, t125] : List Int)) 0)) else (none)) else (none))) else (none)) else (none)) = some (r1, r2, r3, r4, r5, r6, r7, r8, r9, r10, r11, r12) := H
        have A11 := Aside0.mk A110
        clear A110
        by_cases c12 : 17 ≤ 19
        ·rw [if_pos c12] at H
         have c12b0 := eq_true c12
         have c12b1 : decide (17 ≤ 19) = true := decide_eq_true c12
         clear c12
         by_cases c13 : 19 ≤ (a0.size : Int)
         ·rw [if_pos c13] at H
          have c13b0 := eq_true c13
          have c13b1 : decide (19 ≤ (a0.size : Int)) = true := decide_eq_true c13
          clear c13
          replace H := Option.bind_eq_some_iff.mp H
          obtain ⟨t124, A140, H⟩ := H
          replace H : (if 23 ≤ 27 then (if 27 ≤ (a0.size : Int) then ((spec_ReadHex.f k (a0.extract 23 27) 4).bind fun t125 => (spec_ReadCpu.l0 k a0 (([t121, t122, t123, t124, t125] : List Int)) 0)) else (none)) else (none)) = some (r1, r2, r3, r4, r5, r6, r7, r8, r9, r10, r11, r12) := H
          have A14 := Aside0.mk A140
          clear A140
          by_cases c15 : 23 ≤ 27
          ·rw [if_pos c15] at H
           have c15b0 := eq_true c15
           have c15b1 : decide (23 ≤ 27) = true := decide_eq_true c15
           clear c15
           by_cases c16 : 27 ≤ (a0.size : Int)
           ·rw [if_pos c16] at H
            have c16b0 := eq_true c16
            have c16b1 : decide (27 ≤ (a0.size : Int)) = true := decide_eq_true c16
            clear c16
            replace H := Option.bind_eq_some_iff.mp H
            obtain ⟨t125, A170, H⟩ := H
            replace H : (spec_ReadCpu.l0 k a0 (([t121, t122, t123, t124, t125] : List Int)) 0) = some (r1, r2, r3, r4, r5, r6, r7, r8, r9, r10, r11, r12) := H
            have A17 := Aside0.mk A170
            clear A170
            obtain ⟨y126, hy126⟩ : ∃ y_ : List Int, y_ = (([t121, t122, t123, t124, t125] : List Int)) := ⟨_, rfl⟩
            replace H : (spec_ReadCpu.l0 k a0 y126 0) = some (r1, r2, r3, r4, r5, r6, r7, r8, r9, r10, r11, r12) := by first | (rw [hy126]; with_reducible exact H) | (have H2_ := (Option.bind_some _ _).symm.trans H; rw [hy126]; with_reducible exact H2_) | (have H2_ := (Option.bind_some _ _).symm.trans H; with_reducible exact H2_) | with_reducible exact H | (rw [hy126]; exact H) | exact H
            have Ny126 := Aside0.mk hy126
            clear hy126
            have H' := Aside0.mk H
            clear H
            go_enter Try.func8, Try.ntmps8
            try go_wp2_with (first | ((with_reducible refine gate_dst (N := 2) rfl ?_); refine box_event ?hg (N := 2) ?hd (cs := #[.int .u8 0, .int .u8 0, .int .u8 0, .int .u8 0, .int .u16 0, .bool false, .bool false, .bool false, .bool false, .bool false, .bool false]) (t := 32) ?hr ?_; (case hd => rfl); (case hg => rfl); (case hr => first | (go_simp; done) | (go_simp; rfl)); intro gb120 hg w18 hbox hb; have n0_ := Aside0.mk (below_step (by repeat (first | (with_reducible first | exact HB.out | apply below_alloc | apply pw_below_drewN | apply below_drew1) | exact HB.out)) hb); have n1_ := Aside0.mk (hbox); have n2_ := Aside0.mk ((by rw [hg]; exact (below_size (by repeat (first | (with_reducible first | exact HB.out | apply below_alloc | apply pw_below_drewN | apply below_drew1) | exact HB.out))) : w.heap.size ≤ gb120)); have n3_ := Aside0.mk ((by rw [hg]; exact (below_size (by repeat (first | (with_reducible first | exact HB.out | apply below_alloc | apply pw_below_drewN | apply below_drew1) | exact HB.out))) : w.heap.size ≤ gb120)); clear HB; have HB := n0_; have BK120 := n1_; have GW120 := n2_; have GE120 := n3_; clear n0_ n1_ n2_ n3_; clear hb hbox hg))
            have n0_ := Aside0.mk (blk_drew BK120.out)
            have n1_ := Aside0.mk (below_drew1 HB.out)
            clear BK120
            clear HB
            have BK120 := n0_
            have HB := n1_
            clear n0_ n1_
            refine start_ (n := 17) (S := fun w' => True) (ds := []) #[false, false, false, false, false, false, false, false, false, false, false, false, false, false, false, false, false] (by kernel_rfl) rfl rfl trivial (fun hHeld => ?_); refine with_tabW spec_ReadCpu.tab3 spec_ReadCpu.bits3 (fun HT_ HW_ => ?_)
            generalize w18.drew = w19 at BK120 HB hHeld ⊢
            refine pure_ (i := 0) (N := some 12) (v := ?_) (a' := ?_) #[true, false, false, false, false, false, false, false, false, false, false, false, false, false, false, false, false] rfl rfl (any_of HT_.out (by kernel_rfl)) (fun _ _ _ h => h) (Or.inl ⟨by rfl, ?_⟩) ?_ ?_
            rotate_left
            ·intro w'
             go_simp
             with_reducible rfl
            rotate_left
            ·simp only [Act.put, List.setIfInBounds_toArray, List.set_cons_zero, List.set_cons_succ, i64_w, i32_w]
             rfl
            refine pure_ (i := 1) (N := some 13) (v := ?_) (a' := ?_) #[true, true, false, false, false, false, false, false, false, false, false, false, false, false, false, false, false] rfl rfl (any_of HT_.out (by kernel_rfl)) (fun _ _ _ h => h) (Or.inl ⟨by rfl, ?_⟩) ?_ ?_
            rotate_left
            ·intro w'
             go_simp
             with_reducible rfl
            rotate_left
            ·simp only [Act.put, List.setIfInBounds_toArray, List.set_cons_zero, List.set_cons_succ, i64_w, i32_w]
             rfl
            refine pure_ (i := 3) (N := some 15) (v := ?_) (a' := ?_) #[true, true, false, true, false, false, false, false, false, false, false, false, false, false, false, false, false] rfl rfl (any_of HT_.out (by kernel_rfl)) (fun _ _ _ h => h) (Or.inl ⟨by rfl, ?_⟩) ?_ ?_
            rotate_left
            ·intro w'
             go_simp
             with_reducible rfl
            rotate_left
            ·simp only [Act.put, List.setIfInBounds_toArray, List.set_cons_zero, List.set_cons_succ, i64_w, i32_w]
             rfl
            refine pure_ (i := 4) (N := some 16) (v := ?_) (a' := ?_) #[true, true, false, true, true, false, false, false, false, false, false, false, false, false, false, false, false] rfl rfl (any_of HT_.out (by kernel_rfl)) (fun _ _ _ h => h) (Or.inl ⟨by rfl, ?_⟩) ?_ ?_
            rotate_left
            ·intro w'
             go_simp
             with_reducible rfl
            rotate_left
            ·simp only [Act.put, List.setIfInBounds_toArray, List.set_cons_zero, List.set_cons_succ, i64_w, i32_w]
             rfl
            refine pure_ (i := 6) (N := some 18) (v := ?_) (a' := ?_) #[true, true, false, true, true, false, true, false, false, false, false, false, false, false, false, false, false] rfl rfl (any_of HT_.out (by kernel_rfl)) (fun _ _ _ h => h) (Or.inl ⟨by rfl, ?_⟩) ?_ ?_
            rotate_left
            ·intro w'
             go_simp
             with_reducible rfl
            rotate_left
            ·simp only [Act.put, List.setIfInBounds_toArray, List.set_cons_zero, List.set_cons_succ, i64_w, i32_w]
             rfl
            refine pure_ (i := 7) (N := some 19) (v := ?_) (a' := ?_) #[true, true, false, true, true, false, true, true, false, false, false, false, false, false, false, false, false] rfl rfl (any_of HT_.out (by kernel_rfl)) (fun _ _ _ h => h) (Or.inl ⟨by rfl, ?_⟩) ?_ ?_
            rotate_left
            ·intro w'
             go_simp
             with_reducible rfl
            rotate_left
            ·simp only [Act.put, List.setIfInBounds_toArray, List.set_cons_zero, List.set_cons_succ, i64_w, i32_w]
             rfl
            refine pure_ (i := 9) (N := some 21) (v := ?_) (a' := ?_) #[true, true, false, true, true, false, true, true, false, true, false, false, false, false, false, false, false] rfl rfl (any_of HT_.out (by kernel_rfl)) (fun _ _ _ h => h) (Or.inl ⟨by rfl, ?_⟩) ?_ ?_
            rotate_left
            ·intro w'
             go_simp
             with_reducible rfl
            rotate_left
            ·simp only [Act.put, List.setIfInBounds_toArray, List.set_cons_zero, List.set_cons_succ, i64_w, i32_w]
             rfl
            refine pure_ (i := 10) (N := some 22) (v := ?_) (a' := ?_) #[true, true, false, true, true, false, true, true, false, true, true, false, false, false, false, false, false] rfl rfl (any_of HT_.out (by kernel_rfl)) (fun _ _ _ h => h) (Or.inl ⟨by rfl, ?_⟩) ?_ ?_
            rotate_left
            ·intro w'
             go_simp
             with_reducible rfl
            rotate_left
            ·simp only [Act.put, List.setIfInBounds_toArray, List.set_cons_zero, List.set_cons_succ, i64_w, i32_w]
             rfl
            refine pure_ (i := 12) (N := some 24) (v := ?_) (a' := ?_) #[true, true, false, true, true, false, true, true, false, true, true, false, true, false, false, false, false] rfl rfl (any_of HT_.out (by kernel_rfl)) (fun _ _ _ h => h) (Or.inl ⟨by rfl, ?_⟩) ?_ ?_
            rotate_left
            ·intro w'
             go_simp
             with_reducible rfl
            rotate_left
            ·simp only [Act.put, List.setIfInBounds_toArray, List.set_cons_zero, List.set_cons_succ, i64_w, i32_w]
             rfl
            refine pure_ (i := 13) (N := some 25) (v := ?_) (a' := ?_) #[true, true, false, true, true, false, true, true, false, true, true, false, true, true, false, false, false] rfl rfl (any_of HT_.out (by kernel_rfl)) (fun _ _ _ h => h) (Or.inl ⟨by rfl, ?_⟩) ?_ ?_
            rotate_left
            ·intro w'
             go_simp
             with_reducible rfl
            rotate_left
            ·simp only [Act.put, List.setIfInBounds_toArray, List.set_cons_zero, List.set_cons_succ, i64_w, i32_w]
             rfl
            refine one_ (i := 2) (N := some 14) #[true, true, true, true, true, false, true, true, false, true, true, false, true, true, false, false, false] rfl rfl (one_of HT_.out (by kernel_rfl)) (by decide) (fun K hK => ?_)
            refine goes_ Try.func11 (by kernel_rfl) rfl #[.string (a0.extract 2 4), .int .i64 2] (by rfl) rfl rfl (by (try simp only [List.map_toArray, List.map_cons, List.map_nil]); first | done | rfl | (simp only [List.length_drop, List.length_take]; rfl)) ?_
            with_reducible refine (spec_ReadHex.calls k (a0.extract 2 4) 2 t121 _ A5.out).mono ?_
            rintro e w' ⟨rfl, ⟨nd, rfl⟩⟩
            refine ⟨_, rfl, ?_⟩
            refine hK.out _ _ trivial (fun hHeld => ?_)
            clear hK K
            refine norm_ (a' := ?_) ?_ ?_
            rotate_left
            ·show Act.put _ (some 14) _ = _
             simp only [Act.put, List.setIfInBounds_toArray, List.set_cons_zero, List.set_cons_succ, i64_w, i32_w]
             rfl
            refine one_ (i := 5) (N := some 17) #[true, true, true, true, true, true, true, true, false, true, true, false, true, true, false, false, false] rfl rfl (one_of HT_.out (by kernel_rfl)) (by decide) (fun K hK => ?_)
            refine goes_ Try.func11 (by kernel_rfl) rfl #[.string (a0.extract 7 9), .int .i64 2] (by rfl) rfl rfl (by (try simp only [List.map_toArray, List.map_cons, List.map_nil]); first | done | rfl | (simp only [List.length_drop, List.length_take]; rfl)) ?_
            with_reducible refine (spec_ReadHex.calls k (a0.extract 7 9) 2 t122 _ A8.out).mono ?_
            rintro e w' ⟨rfl, ⟨nd, rfl⟩⟩
            refine ⟨_, rfl, ?_⟩
            refine hK.out _ _ trivial (fun hHeld => ?_)
            clear hK K
            refine norm_ (a' := ?_) ?_ ?_
            rotate_left
            ·show Act.put _ (some 17) _ = _
             simp only [Act.put, List.setIfInBounds_toArray, List.set_cons_zero, List.set_cons_succ, i64_w, i32_w]
             rfl
            refine one_ (i := 8) (N := some 20) #[true, true, true, true, true, true, true, true, true, true, true, false, true, true, false, false, false] rfl rfl (one_of HT_.out (by kernel_rfl)) (by decide) (fun K hK => ?_)
            refine goes_ Try.func11 (by kernel_rfl) rfl #[.string (a0.extract 12 14), .int .i64 2] (by rfl) rfl rfl (by (try simp only [List.map_toArray, List.map_cons, List.map_nil]); first | done | rfl | (simp only [List.length_drop, List.length_take]; rfl)) ?_
            with_reducible refine (spec_ReadHex.calls k (a0.extract 12 14) 2 t123 _ A11.out).mono ?_
            rintro e w' ⟨rfl, ⟨nd, rfl⟩⟩
            refine ⟨_, rfl, ?_⟩
            refine hK.out _ _ trivial (fun hHeld => ?_)
            clear hK K
            refine norm_ (a' := ?_) ?_ ?_
            rotate_left
            ·show Act.put _ (some 20) _ = _
             simp only [Act.put, List.setIfInBounds_toArray, List.set_cons_zero, List.set_cons_succ, i64_w, i32_w]
             rfl
            refine one_ (i := 11) (N := some 23) #[true, true, true, true, true, true, true, true, true, true, true, true, true, true, false, false, false] rfl rfl (one_of HT_.out (by kernel_rfl)) (by decide) (fun K hK => ?_)
            refine goes_ Try.func11 (by kernel_rfl) rfl #[.string (a0.extract 17 19), .int .i64 2] (by rfl) rfl rfl (by (try simp only [List.map_toArray, List.map_cons, List.map_nil]); first | done | rfl | (simp only [List.length_drop, List.length_take]; rfl)) ?_
            with_reducible refine (spec_ReadHex.calls k (a0.extract 17 19) 2 t124 _ A14.out).mono ?_
            rintro e w' ⟨rfl, ⟨nd, rfl⟩⟩
            refine ⟨_, rfl, ?_⟩
            refine hK.out _ _ trivial (fun hHeld => ?_)
            clear hK K
            refine norm_ (a' := ?_) ?_ ?_
            rotate_left
            ·show Act.put _ (some 23) _ = _
             simp only [Act.put, List.setIfInBounds_toArray, List.set_cons_zero, List.set_cons_succ, i64_w, i32_w]
             rfl
            refine one_ (i := 14) (N := some 26) #[true, true, true, true, true, true, true, true, true, true, true, true, true, true, true, false, false] rfl rfl (one_of HT_.out (by kernel_rfl)) (by decide) (fun K hK => ?_)
            refine goes_ Try.func11 (by kernel_rfl) rfl #[.string (a0.extract 23 27), .int .i64 4] (by rfl) rfl rfl (by (try simp only [List.map_toArray, List.map_cons, List.map_nil]); first | done | rfl | (simp only [List.length_drop, List.length_take]; rfl)) ?_
            with_reducible refine (spec_ReadHex.calls k (a0.extract 23 27) 4 t125 _ A17.out).mono ?_
            rintro e w' ⟨rfl, ⟨nd, rfl⟩⟩
            refine ⟨_, rfl, ?_⟩
            refine hK.out _ _ trivial (fun hHeld => ?_)
            clear hK K
            refine norm_ (a' := ?_) ?_ ?_
            rotate_left
            ·show Act.put _ (some 26) _ = _
             simp only [Act.put, List.setIfInBounds_toArray, List.set_cons_zero, List.set_cons_succ, i64_w, i32_w]
             rfl
            refine one_ (i := 15) (N := some 27) #[true, true, true, true, true, true, true, true, true, true, true, true, true, true, true, true, false] rfl rfl (one_of HT_.out (by kernel_rfl)) (by decide) (fun K hK => ?_)
            refine Kd.R_lit_step (Kd.int .i64) _ 3 ?hg (N := 27) ?hd (xs := ([t121, t122, t123, t124, t125] : List Int)) (inner := [.int .i64 t121, .int .i64 t122, .int .i64 t123, .int .i64 t124, .int .i64 t125]) (ok := fun _ => True) (okp := fun _ => True) ?hr ?hp (fun _ hk => hk) trivial (Below.refl _ _) (Nat.le_refl _) (by simp) ?_; (case hd => rfl); (case hg => rfl); (case hr => first | (go_simp; done) | (go_simp; rfl)); (case hp => exact (Reps.one (show Kd.M (Kd.int .i64) _ _ _ t121 [.int .i64 t121] from rfl) (Reps.one (show Kd.M (Kd.int .i64) _ _ _ t122 [.int .i64 t122] from rfl) (Reps.one (show Kd.M (Kd.int .i64) _ _ _ t123 [.int .i64 t123] from rfl) (Reps.one (show Kd.M (Kd.int .i64) _ _ _ t124 [.int .i64 t124] from rfl) (Reps.one (show Kd.M (Kd.int .i64) _ _ _ t125 [.int .i64 t125] from rfl) (Reps.none _ _)))))))
            intro v127 w20 ho21 hb hg_ hnew_
            clear hg_ hnew_
            (first | rw [← Ny126.out] at ho21 | (simp only [Int.reduceToNat] at ho21; rw [← Ny126.out] at ho21))
            have n0_ := Aside0.mk (Kd.R_lower ho21 (below_size (by repeat (first | (with_reducible first | exact HB.out | apply below_alloc | apply pw_below_drewN | apply below_drew1 | refine below_set ?_ GE120.out) | exact HB.out))))
            have n1_ := Aside0.mk (blk_below (g := gb120) (o := .cells #[.int .u8 0, .int .u8 0, .int .u8 0, .int .u8 0, .int .u16 0, .bool false, .bool false, .bool false, .bool false, .bool false, .bool false] 32 (0, 0)) (by (with_reducible repeat (first | refine blk_drewN ?_ _ | refine blk_drew ?_ | refine blk_alloc ?_ _)); exact BK120.out) hb)
            have n2_ := Aside0.mk (below_step (by repeat (first | (with_reducible first | exact HB.out | apply below_alloc | apply pw_below_drewN | apply below_drew1 | refine below_set ?_ GE120.out) | exact HB.out)) hb)
            clear BK120
            clear HB
            have HO128 := n0_
            have BK120 := n1_
            have HB := n2_
            clear n0_ n1_ n2_
            clear hb ho21
            refine hK.out _ _ trivial (fun hHeld => ?_)
            clear hK K
            refine norm_ (a' := ?_) ?_ ?_
            rotate_left
            ·show Act.put _ (some 27) _ = _
             simp only [Act.put, List.setIfInBounds_toArray, List.set_cons_zero, List.set_cons_succ, i64_w, i32_w]
             rfl
            refine pure_ (i := 16) (N := some 4) (v := ?_) (a' := ?_) #[true, true, true, true, true, true, true, true, true, true, true, true, true, true, true, true, true] rfl rfl (any_of HT_.out (by kernel_rfl)) (fun _ _ _ h => h) (Or.inl ⟨by rfl, ?_⟩) ?_ ?_
            rotate_left
            ·intro w'
             go_simp
             with_reducible rfl
            rotate_left
            ·simp only [Act.put, List.setIfInBounds_toArray, List.set_cons_zero, List.set_cons_succ, i64_w, i32_w]
             rfl
            refine done_ (done_of HT_.out (by kernel_rfl)) ?_
            try go_wp2
            go_loopg [5] k (fun kq v5 w' => ∃ (x5_1 : Int) (x121000_1 : Int) (x121001_1 : Int) (x121002_1 : Int) (x121003_1 : Int) (x121004_1 : Int) (x121005_1 : Bool) (x121006_1 : Bool) (x121007_1 : Bool) (x121008_1 : Bool) (x121009_1 : Bool) (x121010_1 : Bool), v5 = .int .i64 x5_1 ∧ Aside0 (spec_ReadCpu.l0 kq a0 y126 x5_1 = some (r1, r2, r3, r4, r5, r6, r7, r8, r9, r10, r11, r12)) ∧ Aside0 (kq ≤ k) ∧ Aside0 (Kd.R (Kd.int .i64) 3 w' w.heap.size (fun _ => True) v127 y126) ∧ Aside0 (w'.heap[gb120]? = some (.cells #[.int .u8 x121000_1, .int .u8 x121001_1, .int .u8 x121002_1, .int .u8 x121003_1, .int .u16 x121004_1, .bool x121005_1, .bool x121006_1, .bool x121007_1, .bool x121008_1, .bool x121009_1, .bool x121010_1] 32 (0, 0))) ∧ Aside0 (Below w.heap.size w w'))
            case atStart => exact ⟨(0), (0), (0), (0), (0), (0), (false), (false), (false), (false), (false), (false), (by first | rfl | (simp; done) | (simp [*]; done)), H', ⟨Nat.le_refl _⟩, ⟨by (with_reducible repeat (first | apply Kd.R_alloc | apply Kd.R_drewN | apply Kd.R_drew)); exact HO128.out⟩, ⟨by (with_reducible repeat (first | refine blk_drewN ?_ _ | refine blk_drew ?_ | refine blk_alloc ?_ _)); exact BK120.out⟩, ⟨by repeat (first | (with_reducible first | exact HB.out | apply below_alloc | apply pw_below_drewN | apply below_drew1 | refine below_set ?_ GE120.out) | exact HB.out)⟩⟩
            case round =>
             clear H'
             try clear c1
             try clear c2
             try clear c2b0
             try clear c2b1
             try clear p2
             try clear c3
             try clear c3b0
             try clear c3b1
             try clear c4
             try clear c4b0
             try clear c4b1
             try clear c6
             try clear c6b0
             try clear c6b1
             try clear c7
             try clear c7b0
             try clear c7b1
             try clear c8
             try clear c9
             try clear c9b0
             try clear c9b1
             try clear c10
             try clear c10b0
             try clear c10b1
             try clear c11
             try clear c12
             try clear c12b0
             try clear c12b1
             try clear c13
             try clear c13b0
             try clear c13b1
             try clear c15
             try clear c15b0
             try clear c15b1
             try clear c16
             try clear c16b0
             try clear c16b1
             obtain ⟨x5_1, x121000_1, x121001_1, x121002_1, x121003_1, x121004_1, x121005_1, x121006_1, x121007_1, x121008_1, x121009_1, x121010_1, rfl, HA, HK1, HO_4, BK120, HB⟩ := hrel
             cases gk with
             | zero => exact absurd HA.out (by simp [spec_ReadCpu.l0])
             | succ k1 =>
              have H := HA.out
              clear HA
              simp only [spec_ReadCpu.l0] at H
              by_cases c22 : x5_1 < 5
              ·rw [if_pos c22] at H
               have c22b0 : decide (x5_1 < 5) = true := decide_eq_true c22
               clear c22
               by_cases c23 : 0 ≤ x5_1
               ·rw [if_pos c23] at H
                have c23b0 : decide (0 ≤ x5_1) = true := decide_eq_true c23
                clear c23
                by_cases c24 : x5_1 < (y126.length : Int)
                ·rw [if_pos c24] at H
                 have c24b0 : decide (x5_1 < (y126.length : Int)) = true := decide_eq_true c24
                 clear c24
                 by_cases c25 : (rd y126 x5_1) < 0
                 ·rw [if_pos c25] at H
                  have c25b0 : decide ((rd y126 x5_1) < 0) = true := decide_eq_true c25
                  clear c25
                  simp only [Option.some.injEq, Prod.mk.injEq] at H
                  obtain ⟨rfl, rfl, rfl, rfl, rfl, rfl, rfl, rfl, rfl, rfl, rfl, rfl⟩ := H
                  obtain ⟨Ao26, co26, eo26⟩ := Kd.R_slice HO_4.out
                  subst eo26
                  have p129 : 0 ≤ (x5_1 : Int) := of_decide_eq_true (by first | (with_reducible assumption) | assumption)
                  have q129 : x5_1 < (y126.length : Int) := of_decide_eq_true (by first | (with_reducible assumption) | assumption)
                  obtain ⟨ad129, e129, hx129_0⟩ := Kd.at_int (Kd.R_reads' HO_4.out).2.2 x5_1 p129 q129
                  cases e129
                  replace p129 := eq_true p129
                  replace q129 := eq_true q129
                  have hcz27_0 : wr.cell? ⟨gb120, 0, none⟩ = some (.int .u8 x121000_1) := (blk_cell BK120.out 0).trans rfl
                  have hcz27_1 : wr.cell? ⟨gb120, 1, none⟩ = some (.int .u8 x121001_1) := (blk_cell BK120.out 1).trans rfl
                  have hcz27_2 : wr.cell? ⟨gb120, 2, none⟩ = some (.int .u8 x121002_1) := (blk_cell BK120.out 2).trans rfl
                  have hcz27_3 : wr.cell? ⟨gb120, 3, none⟩ = some (.int .u8 x121003_1) := (blk_cell BK120.out 3).trans rfl
                  have hcz27_4 : wr.cell? ⟨gb120, 4, none⟩ = some (.int .u16 x121004_1) := (blk_cell BK120.out 4).trans rfl
                  have hcz27_5 : wr.cell? ⟨gb120, 5, none⟩ = some (.bool x121005_1) := (blk_cell BK120.out 5).trans rfl
                  have hcz27_6 : wr.cell? ⟨gb120, 6, none⟩ = some (.bool x121006_1) := (blk_cell BK120.out 6).trans rfl
                  have hcz27_7 : wr.cell? ⟨gb120, 7, none⟩ = some (.bool x121007_1) := (blk_cell BK120.out 7).trans rfl
                  have hcz27_8 : wr.cell? ⟨gb120, 8, none⟩ = some (.bool x121008_1) := (blk_cell BK120.out 8).trans rfl
                  have hcz27_9 : wr.cell? ⟨gb120, 9, none⟩ = some (.bool x121009_1) := (blk_cell BK120.out 9).trans rfl
                  have hcz27_10 : wr.cell? ⟨gb120, 10, none⟩ = some (.bool x121010_1) := (blk_cell BK120.out 10).trans rfl
                  have hfz27_0 := blk_frozen BK120.out 0
                  have hfz27_1 := blk_frozen BK120.out 1
                  have hfz27_2 := blk_frozen BK120.out 2
                  have hfz27_3 := blk_frozen BK120.out 3
                  have hfz27_4 := blk_frozen BK120.out 4
                  have hfz27_5 := blk_frozen BK120.out 5
                  have hfz27_6 := blk_frozen BK120.out 6
                  have hfz27_7 := blk_frozen BK120.out 7
                  have hfz27_8 := blk_frozen BK120.out 8
                  have hfz27_9 := blk_frozen BK120.out 9
                  have hfz27_10 := blk_frozen BK120.out 10
                  go_wp2
                  refine bodyPost_ret (results_ct rfl _ _ gb120 32 #[.int .u8 0, .int .u8 0, .int .u8 0, .int .u8 0, .int .u16 0, .bool false, .bool false, .bool false, .bool false, .bool false, .bool false] (0, 0) _ rfl (by (with_reducible repeat (first | refine blk_drewN ?_ _ | refine blk_drew ?_ | refine blk_alloc ?_ _)); refine blk_put (cs := #[.int .u8 0, .int .u8 0, .int .u8 0, .int .u8 0, .int .u16 0, .bool false, .bool false, .bool false, .bool false, .bool false, .bool x121010_1]) ?_ 10 _ rfl; (with_reducible repeat (first | refine blk_drewN ?_ _ | refine blk_drew ?_ | refine blk_alloc ?_ _)); refine blk_put (cs := #[.int .u8 0, .int .u8 0, .int .u8 0, .int .u8 0, .int .u16 0, .bool false, .bool false, .bool false, .bool false, .bool x121009_1, .bool x121010_1]) ?_ 9 _ rfl; (with_reducible repeat (first | refine blk_drewN ?_ _ | refine blk_drew ?_ | refine blk_alloc ?_ _)); refine blk_put (cs := #[.int .u8 0, .int .u8 0, .int .u8 0, .int .u8 0, .int .u16 0, .bool false, .bool false, .bool false, .bool x121008_1, .bool x121009_1, .bool x121010_1]) ?_ 8 _ rfl; (with_reducible repeat (first | refine blk_drewN ?_ _ | refine blk_drew ?_ | refine blk_alloc ?_ _)); refine blk_put (cs := #[.int .u8 0, .int .u8 0, .int .u8 0, .int .u8 0, .int .u16 0, .bool false, .bool false, .bool x121007_1, .bool x121008_1, .bool x121009_1, .bool x121010_1]) ?_ 7 _ rfl; (with_reducible repeat (first | refine blk_drewN ?_ _ | refine blk_drew ?_ | refine blk_alloc ?_ _)); refine blk_put (cs := #[.int .u8 0, .int .u8 0, .int .u8 0, .int .u8 0, .int .u16 0, .bool false, .bool x121006_1, .bool x121007_1, .bool x121008_1, .bool x121009_1, .bool x121010_1]) ?_ 6 _ rfl; (with_reducible repeat (first | refine blk_drewN ?_ _ | refine blk_drew ?_ | refine blk_alloc ?_ _)); refine blk_put (cs := #[.int .u8 0, .int .u8 0, .int .u8 0, .int .u8 0, .int .u16 0, .bool x121005_1, .bool x121006_1, .bool x121007_1, .bool x121008_1, .bool x121009_1, .bool x121010_1]) ?_ 5 _ rfl; (with_reducible repeat (first | refine blk_drewN ?_ _ | refine blk_drew ?_ | refine blk_alloc ?_ _)); refine blk_put (cs := #[.int .u8 0, .int .u8 0, .int .u8 0, .int .u8 0, .int .u16 x121004_1, .bool x121005_1, .bool x121006_1, .bool x121007_1, .bool x121008_1, .bool x121009_1, .bool x121010_1]) ?_ 4 _ rfl; (with_reducible repeat (first | refine blk_drewN ?_ _ | refine blk_drew ?_ | refine blk_alloc ?_ _)); refine blk_put (cs := #[.int .u8 0, .int .u8 0, .int .u8 0, .int .u8 x121003_1, .int .u16 x121004_1, .bool x121005_1, .bool x121006_1, .bool x121007_1, .bool x121008_1, .bool x121009_1, .bool x121010_1]) ?_ 3 _ rfl; (with_reducible repeat (first | refine blk_drewN ?_ _ | refine blk_drew ?_ | refine blk_alloc ?_ _)); refine blk_put (cs := #[.int .u8 0, .int .u8 0, .int .u8 x121002_1, .int .u8 x121003_1, .int .u16 x121004_1, .bool x121005_1, .bool x121006_1, .bool x121007_1, .bool x121008_1, .bool x121009_1, .bool x121010_1]) ?_ 2 _ rfl; (with_reducible repeat (first | refine blk_drewN ?_ _ | refine blk_drew ?_ | refine blk_alloc ?_ _)); refine blk_put (cs := #[.int .u8 0, .int .u8 x121001_1, .int .u8 x121002_1, .int .u8 x121003_1, .int .u16 x121004_1, .bool x121005_1, .bool x121006_1, .bool x121007_1, .bool x121008_1, .bool x121009_1, .bool x121010_1]) ?_ 1 _ rfl; (with_reducible repeat (first | refine blk_drewN ?_ _ | refine blk_drew ?_ | refine blk_alloc ?_ _)); refine blk_put (cs := #[.int .u8 x121000_1, .int .u8 x121001_1, .int .u8 x121002_1, .int .u8 x121003_1, .int .u16 x121004_1, .bool x121005_1, .bool x121006_1, .bool x121007_1, .bool x121008_1, .bool x121009_1, .bool x121010_1]) ?_ 0 _ rfl; (with_reducible repeat (first | refine blk_drewN ?_ _ | refine blk_drew ?_ | refine blk_alloc ?_ _)); exact BK120.out) Try.underlying32 rfl (by kernel_rfl)) rfl ?_
                  exact ⟨by first | rfl | (simp [errW_none, errW_some] <;> rfl) | (simp [*, errW_none, errW_some] <;> rfl), by repeat (first | (with_reducible first | exact HB.out | apply below_alloc | apply pw_below_drewN | apply below_drew1 | refine below_set ?_ GE120.out) | exact HB.out)⟩
                 ·rw [if_neg c25] at H
                  have c25b0 : decide ((rd y126 x5_1) < 0) = false := decide_eq_false c25
                  clear c25
                  have H' := Aside0.mk H
                  clear H
                  obtain ⟨Ao28, co28, eo28⟩ := Kd.R_slice HO_4.out
                  subst eo28
                  have p129 : 0 ≤ (x5_1 : Int) := of_decide_eq_true (by first | (with_reducible assumption) | assumption)
                  have q129 : x5_1 < (y126.length : Int) := of_decide_eq_true (by first | (with_reducible assumption) | assumption)
                  obtain ⟨ad129, e129, hx129_0⟩ := Kd.at_int (Kd.R_reads' HO_4.out).2.2 x5_1 p129 q129
                  cases e129
                  replace p129 := eq_true p129
                  replace q129 := eq_true q129
                  go_wp2
                  go_roundg k1
                  case measure => have := HK1.out; omega
                  case rel => exact ⟨(wrap64 (x5_1 + 1)), (x121000_1), (x121001_1), (x121002_1), (x121003_1), (x121004_1), (x121005_1), (x121006_1), (x121007_1), (x121008_1), (x121009_1), (x121010_1), (by first | rfl | (simp; done) | (simp [*]; done)), H', ⟨by have := HK1.out; omega⟩, ⟨by (with_reducible repeat (first | apply Kd.R_alloc | apply Kd.R_drewN | apply Kd.R_drew)); exact HO_4.out⟩, ⟨by (with_reducible repeat (first | refine blk_drewN ?_ _ | refine blk_drew ?_ | refine blk_alloc ?_ _)); exact BK120.out⟩, ⟨by repeat (first | (with_reducible first | exact HB.out | apply below_alloc | apply pw_below_drewN | apply below_drew1 | refine below_set ?_ GE120.out) | exact HB.out)⟩⟩
                ·rw [if_neg c24] at H
                 exact absurd H (by simp)
               ·rw [if_neg c23] at H
                exact absurd H (by simp)
              ·rw [if_neg c22] at H
               have c22b0 : decide (x5_1 < 5) = false := decide_eq_false c22
               clear c22
               by_cases c29 : 28 ≤ (a0.size : Int)
               ·rw [if_pos c29] at H
                have c29b0 := eq_true c29
                have c29b1 : decide (28 ≤ (a0.size : Int)) = true := decide_eq_true c29
                clear c29
                by_cases c30 : 0 < (y126.length : Int)
                ·rw [if_pos c30] at H
                 have c30b0 : decide (0 < (y126.length : Int)) = true := decide_eq_true c30
                 have c30b1 : decide (0 < y126.length) = true := decide_eq_true (by omega)
                 clear c30
                 by_cases c31 : 1 < (y126.length : Int)
                 ·rw [if_pos c31] at H
                  have c31b0 : decide (1 < (y126.length : Int)) = true := decide_eq_true c31
                  have c31b1 : decide (1 < y126.length) = true := decide_eq_true (by omega)
                  clear c31
                  by_cases c32 : 2 < (y126.length : Int)
                  ·rw [if_pos c32] at H
                   have c32b0 : decide (2 < (y126.length : Int)) = true := decide_eq_true c32
                   have c32b1 : decide (2 < y126.length) = true := decide_eq_true (by omega)
                   clear c32
                   by_cases c33 : 3 < (y126.length : Int)
                   ·rw [if_pos c33] at H
                    have c33b0 : decide (3 < (y126.length : Int)) = true := decide_eq_true c33
                    have c33b1 : decide (3 < y126.length) = true := decide_eq_true (by omega)
                    clear c33
                    by_cases c34 : 4 < (y126.length : Int)
                    ·rw [if_pos c34] at H
                     have c34b0 : decide (4 < (y126.length : Int)) = true := decide_eq_true c34
                     have c34b1 : decide (4 < y126.length) = true := decide_eq_true (by omega)
                     clear c34
                     by_cases c35 : 0 < ((a0.extract 28 a0.size).size : Int)
                     ·rw [if_pos c35] at H
                      have c35b0 : decide (0 < ((a0.extract 28 a0.size).size : Int)) = true := decide_eq_true c35
                      have c35b1 : decide (0 < (a0.extract 28 a0.size).size) = true := decide_eq_true (by omega)
                      clear c35
                      by_cases c37 : 1 < ((a0.extract 28 a0.size).size : Int)
                      ·rw [if_pos c37] at H
                       have c37b0 : decide (1 < ((a0.extract 28 a0.size).size : Int)) = true := decide_eq_true c37
                       have c37b1 : decide (1 < (a0.extract 28 a0.size).size) = true := decide_eq_true (by omega)
                       clear c37
                       by_cases c39 : 2 < ((a0.extract 28 a0.size).size : Int)
                       ·rw [if_pos c39] at H
                        have c39b0 : decide (2 < ((a0.extract 28 a0.size).size : Int)) = true := decide_eq_true c39
                        have c39b1 : decide (2 < (a0.extract 28 a0.size).size) = true := decide_eq_true (by omega)
                        clear c39
                        by_cases c41 : 3 < ((a0.extract 28 a0.size).size : Int)
                        ·rw [if_pos c41] at H
                         have c41b0 : decide (3 < ((a0.extract 28 a0.size).size : Int)) = true := decide_eq_true c41
                         have c41b1 : decide (3 < (a0.extract 28 a0.size).size) = true := decide_eq_true (by omega)
                         clear c41
                         by_cases c43 : 4 < ((a0.extract 28 a0.size).size : Int)
                         ·rw [if_pos c43] at H
                          have c43b0 : decide (4 < ((a0.extract 28 a0.size).size : Int)) = true := decide_eq_true c43
                          have c43b1 : decide (4 < (a0.extract 28 a0.size).size) = true := decide_eq_true (by omega)
                          clear c43
                          by_cases c45 : 5 < ((a0.extract 28 a0.size).size : Int)
                          ·rw [if_pos c45] at H
                           have c45b0 : decide (5 < ((a0.extract 28 a0.size).size : Int)) = true := decide_eq_true c45
                           have c45b1 : decide (5 < (a0.extract 28 a0.size).size) = true := decide_eq_true (by omega)
                           clear c45
                           replace H := Option.bind_eq_some_iff.mp H
                           obtain ⟨t136, A470, H⟩ := H
                           replace H : (if t136.toList = a0.toList then (some ((rd y126 0) % 256, (rd y126 1) % 256, (rd y126 2) % 256, (rd y126 3) % 256, IntKind.u16.wrap (rd y126 4), ((bt (a0.extract 28 a0.size) 0) == 78), ((bt (a0.extract 28 a0.size) 1) == 86), ((bt (a0.extract 28 a0.size) 2) == 68), ((bt (a0.extract 28 a0.size) 3) == 73), ((bt (a0.extract 28 a0.size) 4) == 90), ((bt (a0.extract 28 a0.size) 5) == 67), true)) else (some (0, 0, 0, 0, 0, false, false, false, false, false, false, false))) = some (r1, r2, r3, r4, r5, r6, r7, r8, r9, r10, r11, r12) := H
                           have A47 := Aside0.mk A470
                           clear A470
                           by_cases c48 : t136.toList = a0.toList
                           ·rw [if_pos c48] at H
                            have c48b0 : (t136.toList == a0.toList) = true := beq_iff_eq.mpr c48
                            have c48b1 : (t136.toList != a0.toList) = false := bne_eq_false_iff_eq.mpr c48
                            clear c48
                            simp only [Option.some.injEq, Prod.mk.injEq] at H
                            obtain ⟨rfl, rfl, rfl, rfl, rfl, rfl, rfl, rfl, rfl, rfl, rfl, rfl⟩ := H
                            try go_wp2
                            generalize hsx_ : a0.extract 28 a0.size = sx_ at *
                            have HSX := Aside0.mk hsx_
                            clear hsx_
                            have n0_ := Aside0.mk (Kd.R_drew HO_4.out)
                            have n1_ := Aside0.mk (blk_drew BK120.out)
                            have n2_ := Aside0.mk (below_drew1 HB.out)
                            clear HO_4
                            clear BK120
                            clear HB
                            have HO_4 := n0_
                            have BK120 := n1_
                            have HB := n2_
                            clear n0_ n1_ n2_
                            obtain ⟨Ao50, co50, eo50⟩ := Kd.R_slice HO_4.out
                            (first | subst eo50 | (injection eo50 with f1_ f2_ f3_; have f4_ := f1_.symm; have f5_ := f3_.symm; clear f1_ f2_ f3_; subst f4_; subst f5_))
                            have p130 : 0 ≤ (0 : Int) := (by omega)
                            have q130 : 0 < (y126.length : Int) := of_decide_eq_true (by first | (with_reducible assumption) | assumption)
                            obtain ⟨ad130, e130, hx130_0⟩ := Kd.at_int (Kd.R_reads' HO_4.out).2.2 0 p130 q130
                            cases e130
                            have qi130 : (0 < y126.length) = True := eq_true (by omega)
                            (try rw [show ((0 : Int)).toNat = 0 from rfl] at hx130_0)
                            (try rw [Addr.add_zero'] at hx130_0)
                            replace p130 := eq_true p130
                            replace q130 := eq_true q130
                            have p131 : 0 ≤ (1 : Int) := (by omega)
                            have q131 : 1 < (y126.length : Int) := of_decide_eq_true (by first | (with_reducible assumption) | assumption)
                            obtain ⟨ad131, e131, hx131_0⟩ := Kd.at_int (Kd.R_reads' HO_4.out).2.2 1 p131 q131
                            obtain rfl : ad130 = ad131 := (by injection e131)
                            (try simp only [show (1 : Int).toNat = 1 from rfl, Nat.reduceMul, Nat.reduceEqDiff, Go.Addr.add, ↓reduceIte] at hx131_0)
                            have qi131 : (1 < y126.length) = True := eq_true (by omega)
                            (try rw [show ((1 : Int)).toNat = 1 from rfl] at hx131_0)
                            replace p131 := eq_true p131
                            replace q131 := eq_true q131
                            have p132 : 0 ≤ (2 : Int) := (by omega)
                            have q132 : 2 < (y126.length : Int) := of_decide_eq_true (by first | (with_reducible assumption) | assumption)
                            obtain ⟨ad132, e132, hx132_0⟩ := Kd.at_int (Kd.R_reads' HO_4.out).2.2 2 p132 q132
                            obtain rfl : ad130 = ad132 := (by injection e132)
                            (try simp only [show (2 : Int).toNat = 2 from rfl, Nat.reduceMul, Nat.reduceEqDiff, Go.Addr.add, ↓reduceIte] at hx132_0)
                            have qi132 : (2 < y126.length) = True := eq_true (by omega)
                            (try rw [show ((2 : Int)).toNat = 2 from rfl] at hx132_0)
                            replace p132 := eq_true p132
                            replace q132 := eq_true q132
                            have p133 : 0 ≤ (3 : Int) := (by omega)
                            have q133 : 3 < (y126.length : Int) := of_decide_eq_true (by first | (with_reducible assumption) | assumption)
                            obtain ⟨ad133, e133, hx133_0⟩ := Kd.at_int (Kd.R_reads' HO_4.out).2.2 3 p133 q133
                            obtain rfl : ad130 = ad133 := (by injection e133)
                            (try simp only [show (3 : Int).toNat = 3 from rfl, Nat.reduceMul, Nat.reduceEqDiff, Go.Addr.add, ↓reduceIte] at hx133_0)
                            have qi133 : (3 < y126.length) = True := eq_true (by omega)
                            (try rw [show ((3 : Int)).toNat = 3 from rfl] at hx133_0)
                            replace p133 := eq_true p133
                            replace q133 := eq_true q133
                            have p134 : 0 ≤ (4 : Int) := (by omega)
                            have q134 : 4 < (y126.length : Int) := of_decide_eq_true (by first | (with_reducible assumption) | assumption)
                            obtain ⟨ad134, e134, hx134_0⟩ := Kd.at_int (Kd.R_reads' HO_4.out).2.2 4 p134 q134
                            obtain rfl : ad130 = ad134 := (by injection e134)
                            (try simp only [show (4 : Int).toNat = 4 from rfl, Nat.reduceMul, Nat.reduceEqDiff, Go.Addr.add, ↓reduceIte] at hx134_0)
                            have qi134 : (4 < y126.length) = True := eq_true (by omega)
                            (try rw [show ((4 : Int)).toNat = 4 from rfl] at hx134_0)
                            replace p134 := eq_true p134
                            replace q134 := eq_true q134
                            refine start_ (n := 23) (S := fun w' => w'.cell? ad130 = some (.int .i64 (rd y126 0)) ∧ w'.cell? ⟨ad130.block, ad130.off + 1, none⟩ = some (.int .i64 (rd y126 1)) ∧ w'.cell? ⟨ad130.block, ad130.off + 2, none⟩ = some (.int .i64 (rd y126 2)) ∧ w'.cell? ⟨ad130.block, ad130.off + 3, none⟩ = some (.int .i64 (rd y126 3)) ∧ w'.cell? ⟨ad130.block, ad130.off + 4, none⟩ = some (.int .i64 (rd y126 4))) (ds := []) #[false, false, false, false, false, false, false, false, false, false, false, false, false, false, false, false, false, false, false, false, false, false, false] (by kernel_rfl) rfl rfl ⟨hx130_0, hx131_0, hx132_0, hx133_0, hx134_0⟩ (fun hHeld => ?_); refine with_tabW spec_ReadCpu.tab10 spec_ReadCpu.bits10 (fun HT_ HW_ => ?_)
                            generalize wr.drew = w49 at HO_4 BK120 HB hx130_0 hx131_0 hx132_0 hx133_0 hx134_0 hHeld ⊢
                            refine pure_ (i := 0) (N := some 40) (v := ?_) (a' := ?_) #[true, false, false, false, false, false, false, false, false, false, false, false, false, false, false, false, false, false, false, false, false, false, false] rfl rfl (any_of HT_.out (by kernel_rfl)) (fun _ _ _ h => h) (Or.inl ⟨by rfl, ?_⟩) ?_ ?_
                            rotate_left
                            ·intro w'
                             go_simp
                             with_reducible rfl
                            rotate_left
                            ·simp only [Act.put, List.setIfInBounds_toArray, List.set_cons_zero, List.set_cons_succ, i64_w, i32_w]
                             rfl
                            refine pure_ (i := 1) (N := some 41) (v := ?_) (a' := ?_) #[true, true, false, false, false, false, false, false, false, false, false, false, false, false, false, false, false, false, false, false, false, false, false] rfl rfl (any_of HT_.out (by kernel_rfl)) (fun _ _ _ h => h) (Or.inl ⟨by rfl, ?_⟩) ?_ ?_
                            rotate_left
                            ·intro w'
                             go_simp
                             with_reducible rfl
                            rotate_left
                            ·simp only [Act.put, List.setIfInBounds_toArray, List.set_cons_zero, List.set_cons_succ, i64_w, i32_w]
                             rfl
                            refine pure_ (i := 4) (N := some 44) (v := ?_) (a' := ?_) #[true, true, false, false, true, false, false, false, false, false, false, false, false, false, false, false, false, false, false, false, false, false, false] rfl rfl (any_of HT_.out (by kernel_rfl)) (fun _ _ _ h => h) (Or.inl ⟨by rfl, ?_⟩) ?_ ?_
                            rotate_left
                            ·intro w'
                             go_simp
                             with_reducible rfl
                            rotate_left
                            ·simp only [Act.put, List.setIfInBounds_toArray, List.set_cons_zero, List.set_cons_succ, i64_w, i32_w]
                             rfl
                            refine pure_ (i := 5) (N := some 45) (v := ?_) (a' := ?_) #[true, true, false, false, true, true, false, false, false, false, false, false, false, false, false, false, false, false, false, false, false, false, false] rfl rfl (any_of HT_.out (by kernel_rfl)) (fun _ _ _ h => h) (Or.inl ⟨by rfl, ?_⟩) ?_ ?_
                            rotate_left
                            ·intro w'
                             go_simp
                             with_reducible rfl
                            rotate_left
                            ·simp only [Act.put, List.setIfInBounds_toArray, List.set_cons_zero, List.set_cons_succ, i64_w, i32_w]
                             rfl
                            refine pure_ (i := 8) (N := some 48) (v := ?_) (a' := ?_) #[true, true, false, false, true, true, false, false, true, false, false, false, false, false, false, false, false, false, false, false, false, false, false] rfl rfl (any_of HT_.out (by kernel_rfl)) (fun _ _ _ h => h) (Or.inl ⟨by rfl, ?_⟩) ?_ ?_
                            rotate_left
                            ·intro w'
                             go_simp
                             with_reducible rfl
                            rotate_left
                            ·simp only [Act.put, List.setIfInBounds_toArray, List.set_cons_zero, List.set_cons_succ, i64_w, i32_w]
                             rfl
                            refine pure_ (i := 9) (N := some 49) (v := ?_) (a' := ?_) #[true, true, false, false, true, true, false, false, true, true, false, false, false, false, false, false, false, false, false, false, false, false, false] rfl rfl (any_of HT_.out (by kernel_rfl)) (fun _ _ _ h => h) (Or.inl ⟨by rfl, ?_⟩) ?_ ?_
                            rotate_left
                            ·intro w'
                             go_simp
                             with_reducible rfl
                            rotate_left
                            ·simp only [Act.put, List.setIfInBounds_toArray, List.set_cons_zero, List.set_cons_succ, i64_w, i32_w]
                             rfl
                            refine pure_ (i := 12) (N := some 52) (v := ?_) (a' := ?_) #[true, true, false, false, true, true, false, false, true, true, false, false, true, false, false, false, false, false, false, false, false, false, false] rfl rfl (any_of HT_.out (by kernel_rfl)) (fun _ _ _ h => h) (Or.inl ⟨by rfl, ?_⟩) ?_ ?_
                            rotate_left
                            ·intro w'
                             go_simp
                             with_reducible rfl
                            rotate_left
                            ·simp only [Act.put, List.setIfInBounds_toArray, List.set_cons_zero, List.set_cons_succ, i64_w, i32_w]
                             rfl
                            refine pure_ (i := 13) (N := some 53) (v := ?_) (a' := ?_) #[true, true, false, false, true, true, false, false, true, true, false, false, true, true, false, false, false, false, false, false, false, false, false] rfl rfl (any_of HT_.out (by kernel_rfl)) (fun _ _ _ h => h) (Or.inl ⟨by rfl, ?_⟩) ?_ ?_
                            rotate_left
                            ·intro w'
                             go_simp
                             with_reducible rfl
                            rotate_left
                            ·simp only [Act.put, List.setIfInBounds_toArray, List.set_cons_zero, List.set_cons_succ, i64_w, i32_w]
                             rfl
                            refine pure_ (i := 16) (N := some 56) (v := ?_) (a' := ?_) #[true, true, false, false, true, true, false, false, true, true, false, false, true, true, false, false, true, false, false, false, false, false, false] rfl rfl (any_of HT_.out (by kernel_rfl)) (fun _ _ _ h => h) (Or.inl ⟨by rfl, ?_⟩) ?_ ?_
                            rotate_left
                            ·intro w'
                             go_simp
                             with_reducible rfl
                            rotate_left
                            ·simp only [Act.put, List.setIfInBounds_toArray, List.set_cons_zero, List.set_cons_succ, i64_w, i32_w]
                             rfl
                            refine pure_ (i := 17) (N := some 57) (v := ?_) (a' := ?_) #[true, true, false, false, true, true, false, false, true, true, false, false, true, true, false, false, true, true, false, false, false, false, false] rfl rfl (any_of HT_.out (by kernel_rfl)) (fun _ _ _ h => h) (Or.inl ⟨by rfl, ?_⟩) ?_ ?_
                            rotate_left
                            ·intro w'
                             go_simp
                             with_reducible rfl
                            rotate_left
                            ·simp only [Act.put, List.setIfInBounds_toArray, List.set_cons_zero, List.set_cons_succ, i64_w, i32_w]
                             rfl
                            refine take_ (i := 2) (N := some 42) (v := ?_) (a' := ?_) #[true, true, true, false, true, true, false, false, true, true, false, false, true, true, false, false, true, true, false, false, false, false, false] rfl rfl (take_ofW HT_.out HW_.out (by kernel_rfl)) (fun _ _ _ h => h) (Or.inl ⟨by rfl, ?_⟩) hHeld ?_ ?_
                            rotate_left
                            ·rintro w' ⟨s0, s1, s2, s3, s4⟩
                             go_simp
                             with_reducible rfl
                            rotate_left
                            ·simp only [Act.put, List.setIfInBounds_toArray, List.set_cons_zero, List.set_cons_succ, i64_w, i32_w]
                             rfl
                            refine pure_ (i := 3) (N := some 43) (v := ?_) (a' := ?_) #[true, true, true, true, true, true, false, false, true, true, false, false, true, true, false, false, true, true, false, false, false, false, false] rfl rfl (any_of HT_.out (by kernel_rfl)) (fun _ _ _ h => h) (Or.inl ⟨by rfl, ?_⟩) ?_ ?_
                            rotate_left
                            ·intro w'
                             go_simp
                             with_reducible rfl
                            rotate_left
                            ·simp only [Act.put, List.setIfInBounds_toArray, List.set_cons_zero, List.set_cons_succ, i64_w, i32_w]
                             rfl
                            refine take_ (i := 6) (N := some 46) (v := ?_) (a' := ?_) #[true, true, true, true, true, true, true, false, true, true, false, false, true, true, false, false, true, true, false, false, false, false, false] rfl rfl (take_ofW HT_.out HW_.out (by kernel_rfl)) (fun _ _ _ h => h) (Or.inl ⟨by rfl, ?_⟩) hHeld ?_ ?_
                            rotate_left
                            ·rintro w' ⟨s0, s1, s2, s3, s4⟩
                             go_simp
                             with_reducible rfl
                            rotate_left
                            ·simp only [Act.put, List.setIfInBounds_toArray, List.set_cons_zero, List.set_cons_succ, i64_w, i32_w]
                             rfl
                            refine pure_ (i := 7) (N := some 47) (v := ?_) (a' := ?_) #[true, true, true, true, true, true, true, true, true, true, false, false, true, true, false, false, true, true, false, false, false, false, false] rfl rfl (any_of HT_.out (by kernel_rfl)) (fun _ _ _ h => h) (Or.inl ⟨by rfl, ?_⟩) ?_ ?_
                            rotate_left
                            ·intro w'
                             go_simp
                             with_reducible rfl
                            rotate_left
                            ·simp only [Act.put, List.setIfInBounds_toArray, List.set_cons_zero, List.set_cons_succ, i64_w, i32_w]
                             rfl
                            refine take_ (i := 10) (N := some 50) (v := ?_) (a' := ?_) #[true, true, true, true, true, true, true, true, true, true, true, false, true, true, false, false, true, true, false, false, false, false, false] rfl rfl (take_ofW HT_.out HW_.out (by kernel_rfl)) (fun _ _ _ h => h) (Or.inl ⟨by rfl, ?_⟩) hHeld ?_ ?_
                            rotate_left
                            ·rintro w' ⟨s0, s1, s2, s3, s4⟩
                             go_simp
                             with_reducible rfl
                            rotate_left
                            ·simp only [Act.put, List.setIfInBounds_toArray, List.set_cons_zero, List.set_cons_succ, i64_w, i32_w]
                             rfl
                            refine pure_ (i := 11) (N := some 51) (v := ?_) (a' := ?_) #[true, true, true, true, true, true, true, true, true, true, true, true, true, true, false, false, true, true, false, false, false, false, false] rfl rfl (any_of HT_.out (by kernel_rfl)) (fun _ _ _ h => h) (Or.inl ⟨by rfl, ?_⟩) ?_ ?_
                            rotate_left
                            ·intro w'
                             go_simp
                             with_reducible rfl
                            rotate_left
                            ·simp only [Act.put, List.setIfInBounds_toArray, List.set_cons_zero, List.set_cons_succ, i64_w, i32_w]
                             rfl
                            refine take_ (i := 14) (N := some 54) (v := ?_) (a' := ?_) #[true, true, true, true, true, true, true, true, true, true, true, true, true, true, true, false, true, true, false, false, false, false, false] rfl rfl (take_ofW HT_.out HW_.out (by kernel_rfl)) (fun _ _ _ h => h) (Or.inl ⟨by rfl, ?_⟩) hHeld ?_ ?_
                            rotate_left
                            ·rintro w' ⟨s0, s1, s2, s3, s4⟩
                             go_simp
                             with_reducible rfl
                            rotate_left
                            ·simp only [Act.put, List.setIfInBounds_toArray, List.set_cons_zero, List.set_cons_succ, i64_w, i32_w]
                             rfl
                            refine pure_ (i := 15) (N := some 55) (v := ?_) (a' := ?_) #[true, true, true, true, true, true, true, true, true, true, true, true, true, true, true, true, true, true, false, false, false, false, false] rfl rfl (any_of HT_.out (by kernel_rfl)) (fun _ _ _ h => h) (Or.inl ⟨by rfl, ?_⟩) ?_ ?_
                            rotate_left
                            ·intro w'
                             go_simp
                             with_reducible rfl
                            rotate_left
                            ·simp only [Act.put, List.setIfInBounds_toArray, List.set_cons_zero, List.set_cons_succ, i64_w, i32_w]
                             rfl
                            refine take_ (i := 18) (N := some 58) (v := ?_) (a' := ?_) #[true, true, true, true, true, true, true, true, true, true, true, true, true, true, true, true, true, true, true, false, false, false, false] rfl rfl (take_ofW HT_.out HW_.out (by kernel_rfl)) (fun _ _ _ h => h) (Or.inl ⟨by rfl, ?_⟩) hHeld ?_ ?_
                            rotate_left
                            ·rintro w' ⟨s0, s1, s2, s3, s4⟩
                             go_simp
                             with_reducible rfl
                            rotate_left
                            ·simp only [Act.put, List.setIfInBounds_toArray, List.set_cons_zero, List.set_cons_succ, i64_w, i32_w]
                             rfl
                            refine pure_ (i := 19) (N := some 59) (v := ?_) (a' := ?_) #[true, true, true, true, true, true, true, true, true, true, true, true, true, true, true, true, true, true, true, true, false, false, false] rfl rfl (any_of HT_.out (by kernel_rfl)) (fun _ _ _ h => h) (Or.inl ⟨by rfl, ?_⟩) ?_ ?_
                            rotate_left
                            ·intro w'
                             go_simp
                             with_reducible rfl
                            rotate_left
                            ·simp only [Act.put, List.setIfInBounds_toArray, List.set_cons_zero, List.set_cons_succ, i64_w, i32_w]
                             rfl
                            refine pure_ (i := 20) (N := some 60) (v := ?_) (a' := ?_) #[true, true, true, true, true, true, true, true, true, true, true, true, true, true, true, true, true, true, true, true, true, false, false] rfl rfl (any_of HT_.out (by kernel_rfl)) (fun _ _ _ h => h) (Or.inl ⟨by rfl, ?_⟩) ?_ ?_
                            rotate_left
                            ·intro w'
                             go_simp
                             with_reducible rfl
                            rotate_left
                            ·simp only [Act.put, List.setIfInBounds_toArray, List.set_cons_zero, List.set_cons_succ, i64_w, i32_w]
                             rfl
                            refine one_ (i := 21) (N := some 7) #[true, true, true, true, true, true, true, true, true, true, true, true, true, true, true, true, true, true, true, true, true, true, false] rfl rfl (one_of HT_.out (by kernel_rfl)) (by decide) (fun K hK => ?_)
                            refine box_step ?hg (N := 7) ?hd (cs := #[.int .u8 0, .int .u8 0, .int .u8 0, .int .u8 0, .int .u16 0, .bool false, .bool false, .bool false, .bool false, .bool false, .bool false]) (t := 32) ?hr ?_; (case hd => rfl); (case hg => rfl); (case hr => first | (go_simp; done) | (go_simp; rfl))
                            intro gb135 hg w51 hbox hb
                            have HS0_ := (hb.cell (World.block_lt_of_cell? _ _ (hHeld.1))).trans (hHeld.1)
                            have HS1_ := (hb.cell (World.block_lt_of_cell? _ _ (hHeld.2.1))).trans (hHeld.2.1)
                            have HS2_ := (hb.cell (World.block_lt_of_cell? _ _ (hHeld.2.2.1))).trans (hHeld.2.2.1)
                            have HS3_ := (hb.cell (World.block_lt_of_cell? _ _ (hHeld.2.2.2.1))).trans (hHeld.2.2.2.1)
                            have HS4_ := (hb.cell (World.block_lt_of_cell? _ _ (hHeld.2.2.2.2))).trans (hHeld.2.2.2.2)
                            have n0_ := Aside0.mk (Kd.R_below (by (with_reducible repeat (first | apply Kd.R_alloc | apply Kd.R_drewN | apply Kd.R_drew)); exact HO_4.out) hb)
                            have n1_ := Aside0.mk (blk_below (g := gb120) (o := .cells #[.int .u8 x121000_1, .int .u8 x121001_1, .int .u8 x121002_1, .int .u8 x121003_1, .int .u16 x121004_1, .bool x121005_1, .bool x121006_1, .bool x121007_1, .bool x121008_1, .bool x121009_1, .bool x121010_1] 32 (0, 0)) (by (with_reducible repeat (first | refine blk_drewN ?_ _ | refine blk_drew ?_ | refine blk_alloc ?_ _)); exact BK120.out) hb)
                            have n2_ := Aside0.mk (below_step (by repeat (first | (with_reducible first | exact HB.out | apply below_alloc | apply pw_below_drewN | apply below_drew1 | refine below_set ?_ GE120.out) | exact HB.out)) hb)
                            have n3_ := Aside0.mk (hbox)
                            have n4_ := Aside0.mk ((by rw [hg]; exact (below_size (by repeat (first | (with_reducible first | exact HB.out | apply below_alloc | apply pw_below_drewN | apply below_drew1 | refine below_set ?_ GE120.out) | exact HB.out))) : w.heap.size ≤ gb135))
                            have n5_ := Aside0.mk ((by rw [hg]; exact (below_size (by repeat (first | (with_reducible first | exact HB.out | apply below_alloc | apply pw_below_drewN | apply below_drew1 | refine below_set ?_ GE120.out) | exact HB.out))) : w.heap.size ≤ gb135))
                            have n6_ := Aside0.mk ((by rw [hg]; exact Nat.ne_of_lt (blk_lt (g := gb120) (o := .cells #[.int .u8 x121000_1, .int .u8 x121001_1, .int .u8 x121002_1, .int .u8 x121003_1, .int .u16 x121004_1, .bool x121005_1, .bool x121006_1, .bool x121007_1, .bool x121008_1, .bool x121009_1, .bool x121010_1] 32 (0, 0)) (by (with_reducible repeat (first | refine blk_drewN ?_ _ | refine blk_drew ?_ | refine blk_alloc ?_ _)); exact BK120.out)) : gb120 ≠ gb135))
                            have n7_ := Aside0.mk ((by rw [hg]; exact Nat.ne_of_gt (blk_lt (g := gb120) (o := .cells #[.int .u8 x121000_1, .int .u8 x121001_1, .int .u8 x121002_1, .int .u8 x121003_1, .int .u16 x121004_1, .bool x121005_1, .bool x121006_1, .bool x121007_1, .bool x121008_1, .bool x121009_1, .bool x121010_1] 32 (0, 0)) (by (with_reducible repeat (first | refine blk_drewN ?_ _ | refine blk_drew ?_ | refine blk_alloc ?_ _)); exact BK120.out)) : gb135 ≠ gb120))
                            clear HO_4
                            clear BK120
                            clear HB
                            have HO_4 := n0_
                            have BK120 := n1_
                            have HB := n2_
                            have BK135 := n3_
                            have GW135 := n4_
                            have GE135 := n5_
                            have NB120_135 := n6_
                            have NB135_120 := n7_
                            clear n0_ n1_ n2_ n3_ n4_ n5_ n6_ n7_
                            clear hb hbox hg
                            refine hK.out _ _ ⟨HS0_, HS1_, HS2_, HS3_, HS4_⟩ (fun hHeld => ?_)
                            clear hK K
                            refine norm_ (a' := ?_) ?_ ?_
                            rotate_left
                            ·show Act.put _ (some 7) _ = _
                             simp only [Act.put, List.setIfInBounds_toArray, List.set_cons_zero, List.set_cons_succ, i64_w, i32_w]
                             rfl
                            refine one_ (i := 22) (N := none) #[true, true, true, true, true, true, true, true, true, true, true, true, true, true, true, true, true, true, true, true, true, true, true] rfl rfl (one_of HT_.out (by kernel_rfl)) (by decide) (fun K hK => ?_)
                            have hs52 : w51.cell? ⟨gb135, 0, none⟩ = some (.int .u8 0) := (blk_cell BK135.out 0).trans rfl
                            have hfs52 := blk_frozen BK135.out 0
                            have hns52_0 := NB120_135.out
                            have hms52_0 := NB135_120.out
                            have hs53 : w51.cell? ⟨gb135, 1, none⟩ = some (.int .u8 0) := (blk_cell BK135.out 1).trans rfl
                            have hfs53 := blk_frozen BK135.out 1
                            have hns53_0 := NB120_135.out
                            have hms53_0 := NB135_120.out
                            have hs54 : w51.cell? ⟨gb135, 2, none⟩ = some (.int .u8 0) := (blk_cell BK135.out 2).trans rfl
                            have hfs54 := blk_frozen BK135.out 2
                            have hns54_0 := NB120_135.out
                            have hms54_0 := NB135_120.out
                            have hs55 : w51.cell? ⟨gb135, 3, none⟩ = some (.int .u8 0) := (blk_cell BK135.out 3).trans rfl
                            have hfs55 := blk_frozen BK135.out 3
                            have hns55_0 := NB120_135.out
                            have hms55_0 := NB135_120.out
                            have hs56 : w51.cell? ⟨gb135, 4, none⟩ = some (.int .u16 0) := (blk_cell BK135.out 4).trans rfl
                            have hfs56 := blk_frozen BK135.out 4
                            have hns56_0 := NB120_135.out
                            have hms56_0 := NB135_120.out
                            have hs57 : w51.cell? ⟨gb135, 5, none⟩ = some (.bool false) := (blk_cell BK135.out 5).trans rfl
                            have hfs57 := blk_frozen BK135.out 5
                            have hns57_0 := NB120_135.out
                            have hms57_0 := NB135_120.out
                            have hs58 : w51.cell? ⟨gb135, 6, none⟩ = some (.bool false) := (blk_cell BK135.out 6).trans rfl
                            have hfs58 := blk_frozen BK135.out 6
                            have hns58_0 := NB120_135.out
                            have hms58_0 := NB135_120.out
                            have hs59 : w51.cell? ⟨gb135, 7, none⟩ = some (.bool false) := (blk_cell BK135.out 7).trans rfl
                            have hfs59 := blk_frozen BK135.out 7
                            have hns59_0 := NB120_135.out
                            have hms59_0 := NB135_120.out
                            have hs60 : w51.cell? ⟨gb135, 8, none⟩ = some (.bool false) := (blk_cell BK135.out 8).trans rfl
                            have hfs60 := blk_frozen BK135.out 8
                            have hns60_0 := NB120_135.out
                            have hms60_0 := NB135_120.out
                            have hs61 : w51.cell? ⟨gb135, 9, none⟩ = some (.bool false) := (blk_cell BK135.out 9).trans rfl
                            have hfs61 := blk_frozen BK135.out 9
                            have hns61_0 := NB120_135.out
                            have hms61_0 := NB135_120.out
                            have hs62 : w51.cell? ⟨gb135, 10, none⟩ = some (.bool false) := (blk_cell BK135.out 10).trans rfl
                            have hfs62 := blk_frozen BK135.out 10
                            have hns62_0 := NB120_135.out
                            have hms62_0 := NB135_120.out
                            with_reducible refine skip_ (w1 := ?wz1_) ?hw1_ ?hN1_ ?hr1_ ?hh1_
                            case hw1_ => rfl
                            case hN1_ => rfl
                            case hr1_ => (go_simp; (try simp only [IntKind.wrap_u8]); rfl)
                            have qf0_ := Kd.own_blk (Kd.R_ne HO_4.out BK135.out (by decide))
                            refine hK.out _ _ ⟨(Two.far_ qf0_ (Two.far_ qf0_ (Two.far_ qf0_ (Two.far_ qf0_ (Two.far_ qf0_ (Two.far_ qf0_ (Two.far_ qf0_ (Two.far_ qf0_ (Two.far_ qf0_ (Two.far_ qf0_ (Two.far_ qf0_ hHeld.1))))))))))), (Two.far_ qf0_ (Two.far_ qf0_ (Two.far_ qf0_ (Two.far_ qf0_ (Two.far_ qf0_ (Two.far_ qf0_ (Two.far_ qf0_ (Two.far_ qf0_ (Two.far_ qf0_ (Two.far_ qf0_ (Two.far_ qf0_ hHeld.2.1))))))))))), (Two.far_ qf0_ (Two.far_ qf0_ (Two.far_ qf0_ (Two.far_ qf0_ (Two.far_ qf0_ (Two.far_ qf0_ (Two.far_ qf0_ (Two.far_ qf0_ (Two.far_ qf0_ (Two.far_ qf0_ (Two.far_ qf0_ hHeld.2.2.1))))))))))), (Two.far_ qf0_ (Two.far_ qf0_ (Two.far_ qf0_ (Two.far_ qf0_ (Two.far_ qf0_ (Two.far_ qf0_ (Two.far_ qf0_ (Two.far_ qf0_ (Two.far_ qf0_ (Two.far_ qf0_ (Two.far_ qf0_ hHeld.2.2.2.1))))))))))), (Two.far_ qf0_ (Two.far_ qf0_ (Two.far_ qf0_ (Two.far_ qf0_ (Two.far_ qf0_ (Two.far_ qf0_ (Two.far_ qf0_ (Two.far_ qf0_ (Two.far_ qf0_ (Two.far_ qf0_ (Two.far_ qf0_ hHeld.2.2.2.2)))))))))))⟩ (fun hHeld => ?_)
                            clear qf0_
                            clear hK K
                            refine done_ (done_of HT_.out (by kernel_rfl)) ?_
                            try go_wp2
                            have n0_ : Aside0 (Kd.R (Kd.int .i64) 3 (((((((((((w51.setCell ⟨gb135, 0, none⟩ (.int .u8 ((rd y126 0) % 256))).setCell ⟨gb135, 1, none⟩ (.int .u8 ((rd y126 1) % 256))).setCell ⟨gb135, 2, none⟩ (.int .u8 ((rd y126 2) % 256))).setCell ⟨gb135, 3, none⟩ (.int .u8 ((rd y126 3) % 256))).setCell ⟨gb135, 4, none⟩ (.int .u16 (IntKind.u16.wrap (rd y126 4)))).setCell ⟨gb135, 5, none⟩ (.bool false)).setCell ⟨gb135, 6, none⟩ (.bool false)).setCell ⟨gb135, 7, none⟩ (.bool false)).setCell ⟨gb135, 8, none⟩ (.bool false)).setCell ⟨gb135, 9, none⟩ (.bool false)).setCell ⟨gb135, 10, none⟩ (.bool false)) w.heap.size (fun _ => True) (.slice (some ad130) y126.length co50) y126) := ⟨by (with_reducible repeat (first | apply Kd.R_alloc | apply Kd.R_drewN | apply Kd.R_drew)); exact Kd.R_mono (Kd.R_far (p := ⟨gb135, 10, none⟩) (Kd.R_far (p := ⟨gb135, 9, none⟩) (Kd.R_far (p := ⟨gb135, 8, none⟩) (Kd.R_far (p := ⟨gb135, 7, none⟩) (Kd.R_far (p := ⟨gb135, 6, none⟩) (Kd.R_far (p := ⟨gb135, 5, none⟩) (Kd.R_far (p := ⟨gb135, 4, none⟩) (Kd.R_far (p := ⟨gb135, 3, none⟩) (Kd.R_far (p := ⟨gb135, 2, none⟩) (Kd.R_far (p := ⟨gb135, 1, none⟩) (Kd.R_far (p := ⟨gb135, 0, none⟩) (Kd.R_types HO_4.out BK135.out (by decide)) (fun _ hk => hk.2) (.int .u8 ((rd y126 0) % 256))) (fun _ hk => hk.2) (.int .u8 ((rd y126 1) % 256))) (fun _ hk => hk.2) (.int .u8 ((rd y126 2) % 256))) (fun _ hk => hk.2) (.int .u8 ((rd y126 3) % 256))) (fun _ hk => hk.2) (.int .u16 (IntKind.u16.wrap (rd y126 4)))) (fun _ hk => hk.2) (.bool false)) (fun _ hk => hk.2) (.bool false)) (fun _ hk => hk.2) (.bool false)) (fun _ hk => hk.2) (.bool false)) (fun _ hk => hk.2) (.bool false)) (fun _ hk => hk.2) (.bool false)) (fun _ hk => trivial)⟩
                            have n1_ : Aside0 ((((((((((((w51.setCell ⟨gb135, 0, none⟩ (.int .u8 ((rd y126 0) % 256))).setCell ⟨gb135, 1, none⟩ (.int .u8 ((rd y126 1) % 256))).setCell ⟨gb135, 2, none⟩ (.int .u8 ((rd y126 2) % 256))).setCell ⟨gb135, 3, none⟩ (.int .u8 ((rd y126 3) % 256))).setCell ⟨gb135, 4, none⟩ (.int .u16 (IntKind.u16.wrap (rd y126 4)))).setCell ⟨gb135, 5, none⟩ (.bool false)).setCell ⟨gb135, 6, none⟩ (.bool false)).setCell ⟨gb135, 7, none⟩ (.bool false)).setCell ⟨gb135, 8, none⟩ (.bool false)).setCell ⟨gb135, 9, none⟩ (.bool false)).setCell ⟨gb135, 10, none⟩ (.bool false)).heap[gb120]? = some (.cells #[.int .u8 x121000_1, .int .u8 x121001_1, .int .u8 x121002_1, .int .u8 x121003_1, .int .u16 x121004_1, .bool x121005_1, .bool x121006_1, .bool x121007_1, .bool x121008_1, .bool x121009_1, .bool x121010_1] 32 (0, 0))) := ⟨by (with_reducible repeat (first | refine blk_drewN ?_ _ | refine blk_drew ?_ | refine blk_alloc ?_ _)); refine blk_far ?_ NB120_135.out _; (with_reducible repeat (first | refine blk_drewN ?_ _ | refine blk_drew ?_ | refine blk_alloc ?_ _)); refine blk_far ?_ NB120_135.out _; (with_reducible repeat (first | refine blk_drewN ?_ _ | refine blk_drew ?_ | refine blk_alloc ?_ _)); refine blk_far ?_ NB120_135.out _; (with_reducible repeat (first | refine blk_drewN ?_ _ | refine blk_drew ?_ | refine blk_alloc ?_ _)); refine blk_far ?_ NB120_135.out _; (with_reducible repeat (first | refine blk_drewN ?_ _ | refine blk_drew ?_ | refine blk_alloc ?_ _)); refine blk_far ?_ NB120_135.out _; (with_reducible repeat (first | refine blk_drewN ?_ _ | refine blk_drew ?_ | refine blk_alloc ?_ _)); refine blk_far ?_ NB120_135.out _; (with_reducible repeat (first | refine blk_drewN ?_ _ | refine blk_drew ?_ | refine blk_alloc ?_ _)); refine blk_far ?_ NB120_135.out _; (with_reducible repeat (first | refine blk_drewN ?_ _ | refine blk_drew ?_ | refine blk_alloc ?_ _)); refine blk_far ?_ NB120_135.out _; (with_reducible repeat (first | refine blk_drewN ?_ _ | refine blk_drew ?_ | refine blk_alloc ?_ _)); refine blk_far ?_ NB120_135.out _; (with_reducible repeat (first | refine blk_drewN ?_ _ | refine blk_drew ?_ | refine blk_alloc ?_ _)); refine blk_far ?_ NB120_135.out _; (with_reducible repeat (first | refine blk_drewN ?_ _ | refine blk_drew ?_ | refine blk_alloc ?_ _)); refine blk_far ?_ NB120_135.out _; (with_reducible repeat (first | refine blk_drewN ?_ _ | refine blk_drew ?_ | refine blk_alloc ?_ _)); exact BK120.out⟩
                            have n2_ : Aside0 ((((((((((((w51.setCell ⟨gb135, 0, none⟩ (.int .u8 ((rd y126 0) % 256))).setCell ⟨gb135, 1, none⟩ (.int .u8 ((rd y126 1) % 256))).setCell ⟨gb135, 2, none⟩ (.int .u8 ((rd y126 2) % 256))).setCell ⟨gb135, 3, none⟩ (.int .u8 ((rd y126 3) % 256))).setCell ⟨gb135, 4, none⟩ (.int .u16 (IntKind.u16.wrap (rd y126 4)))).setCell ⟨gb135, 5, none⟩ (.bool false)).setCell ⟨gb135, 6, none⟩ (.bool false)).setCell ⟨gb135, 7, none⟩ (.bool false)).setCell ⟨gb135, 8, none⟩ (.bool false)).setCell ⟨gb135, 9, none⟩ (.bool false)).setCell ⟨gb135, 10, none⟩ (.bool false)).heap[gb135]? = some (.cells #[.int .u8 ((rd y126 0) % 256), .int .u8 ((rd y126 1) % 256), .int .u8 ((rd y126 2) % 256), .int .u8 ((rd y126 3) % 256), .int .u16 (IntKind.u16.wrap (rd y126 4)), .bool false, .bool false, .bool false, .bool false, .bool false, .bool false] 32 (0, 0))) := ⟨by (with_reducible repeat (first | refine blk_drewN ?_ _ | refine blk_drew ?_ | refine blk_alloc ?_ _)); refine blk_put (cs := #[.int .u8 ((rd y126 0) % 256), .int .u8 ((rd y126 1) % 256), .int .u8 ((rd y126 2) % 256), .int .u8 ((rd y126 3) % 256), .int .u16 (IntKind.u16.wrap (rd y126 4)), .bool false, .bool false, .bool false, .bool false, .bool false, .bool false]) ?_ 10 _ rfl; (with_reducible repeat (first | refine blk_drewN ?_ _ | refine blk_drew ?_ | refine blk_alloc ?_ _)); refine blk_put (cs := #[.int .u8 ((rd y126 0) % 256), .int .u8 ((rd y126 1) % 256), .int .u8 ((rd y126 2) % 256), .int .u8 ((rd y126 3) % 256), .int .u16 (IntKind.u16.wrap (rd y126 4)), .bool false, .bool false, .bool false, .bool false, .bool false, .bool false]) ?_ 9 _ rfl; (with_reducible repeat (first | refine blk_drewN ?_ _ | refine blk_drew ?_ | refine blk_alloc ?_ _)); refine blk_put (cs := #[.int .u8 ((rd y126 0) % 256), .int .u8 ((rd y126 1) % 256), .int .u8 ((rd y126 2) % 256), .int .u8 ((rd y126 3) % 256), .int .u16 (IntKind.u16.wrap (rd y126 4)), .bool false, .bool false, .bool false, .bool false, .bool false, .bool false]) ?_ 8 _ rfl; (with_reducible repeat (first | refine blk_drewN ?_ _ | refine blk_drew ?_ | refine blk_alloc ?_ _)); refine blk_put (cs := #[.int .u8 ((rd y126 0) % 256), .int .u8 ((rd y126 1) % 256), .int .u8 ((rd y126 2) % 256), .int .u8 ((rd y126 3) % 256), .int .u16 (IntKind.u16.wrap (rd y126 4)), .bool false, .bool false, .bool false, .bool false, .bool false, .bool false]) ?_ 7 _ rfl; (with_reducible repeat (first | refine blk_drewN ?_ _ | refine blk_drew ?_ | refine blk_alloc ?_ _)); refine blk_put (cs := #[.int .u8 ((rd y126 0) % 256), .int .u8 ((rd y126 1) % 256), .int .u8 ((rd y126 2) % 256), .int .u8 ((rd y126 3) % 256), .int .u16 (IntKind.u16.wrap (rd y126 4)), .bool false, .bool false, .bool false, .bool false, .bool false, .bool false]) ?_ 6 _ rfl; (with_reducible repeat (first | refine blk_drewN ?_ _ | refine blk_drew ?_ | refine blk_alloc ?_ _)); refine blk_put (cs := #[.int .u8 ((rd y126 0) % 256), .int .u8 ((rd y126 1) % 256), .int .u8 ((rd y126 2) % 256), .int .u8 ((rd y126 3) % 256), .int .u16 (IntKind.u16.wrap (rd y126 4)), .bool false, .bool false, .bool false, .bool false, .bool false, .bool false]) ?_ 5 _ rfl; (with_reducible repeat (first | refine blk_drewN ?_ _ | refine blk_drew ?_ | refine blk_alloc ?_ _)); refine blk_put (cs := #[.int .u8 ((rd y126 0) % 256), .int .u8 ((rd y126 1) % 256), .int .u8 ((rd y126 2) % 256), .int .u8 ((rd y126 3) % 256), .int .u16 0, .bool false, .bool false, .bool false, .bool false, .bool false, .bool false]) ?_ 4 _ rfl; (with_reducible repeat (first | refine blk_drewN ?_ _ | refine blk_drew ?_ | refine blk_alloc ?_ _)); refine blk_put (cs := #[.int .u8 ((rd y126 0) % 256), .int .u8 ((rd y126 1) % 256), .int .u8 ((rd y126 2) % 256), .int .u8 0, .int .u16 0, .bool false, .bool false, .bool false, .bool false, .bool false, .bool false]) ?_ 3 _ rfl; (with_reducible repeat (first | refine blk_drewN ?_ _ | refine blk_drew ?_ | refine blk_alloc ?_ _)); refine blk_put (cs := #[.int .u8 ((rd y126 0) % 256), .int .u8 ((rd y126 1) % 256), .int .u8 0, .int .u8 0, .int .u16 0, .bool false, .bool false, .bool false, .bool false, .bool false, .bool false]) ?_ 2 _ rfl; (with_reducible repeat (first | refine blk_drewN ?_ _ | refine blk_drew ?_ | refine blk_alloc ?_ _)); refine blk_put (cs := #[.int .u8 ((rd y126 0) % 256), .int .u8 0, .int .u8 0, .int .u8 0, .int .u16 0, .bool false, .bool false, .bool false, .bool false, .bool false, .bool false]) ?_ 1 _ rfl; (with_reducible repeat (first | refine blk_drewN ?_ _ | refine blk_drew ?_ | refine blk_alloc ?_ _)); refine blk_put (cs := #[.int .u8 0, .int .u8 0, .int .u8 0, .int .u8 0, .int .u16 0, .bool false, .bool false, .bool false, .bool false, .bool false, .bool false]) ?_ 0 _ rfl; (with_reducible repeat (first | refine blk_drewN ?_ _ | refine blk_drew ?_ | refine blk_alloc ?_ _)); exact BK135.out⟩
                            have n3_ : Aside0 (Below w.heap.size w (((((((((((w51.setCell ⟨gb135, 0, none⟩ (.int .u8 ((rd y126 0) % 256))).setCell ⟨gb135, 1, none⟩ (.int .u8 ((rd y126 1) % 256))).setCell ⟨gb135, 2, none⟩ (.int .u8 ((rd y126 2) % 256))).setCell ⟨gb135, 3, none⟩ (.int .u8 ((rd y126 3) % 256))).setCell ⟨gb135, 4, none⟩ (.int .u16 (IntKind.u16.wrap (rd y126 4)))).setCell ⟨gb135, 5, none⟩ (.bool false)).setCell ⟨gb135, 6, none⟩ (.bool false)).setCell ⟨gb135, 7, none⟩ (.bool false)).setCell ⟨gb135, 8, none⟩ (.bool false)).setCell ⟨gb135, 9, none⟩ (.bool false)).setCell ⟨gb135, 10, none⟩ (.bool false))) := ⟨by repeat (first | (with_reducible first | exact HB.out | apply below_alloc | apply pw_below_drewN | apply below_drew1 | refine below_set ?_ GE120.out | refine below_set ?_ GE135.out) | exact HB.out)⟩
                            (try clear HO_4)
                            (try clear BK120)
                            (try clear BK135)
                            (try clear HB)
                            generalize (((((((((((w51.setCell ⟨gb135, 0, none⟩ (.int .u8 ((rd y126 0) % 256))).setCell ⟨gb135, 1, none⟩ (.int .u8 ((rd y126 1) % 256))).setCell ⟨gb135, 2, none⟩ (.int .u8 ((rd y126 2) % 256))).setCell ⟨gb135, 3, none⟩ (.int .u8 ((rd y126 3) % 256))).setCell ⟨gb135, 4, none⟩ (.int .u16 (IntKind.u16.wrap (rd y126 4)))).setCell ⟨gb135, 5, none⟩ (.bool false)).setCell ⟨gb135, 6, none⟩ (.bool false)).setCell ⟨gb135, 7, none⟩ (.bool false)).setCell ⟨gb135, 8, none⟩ (.bool false)).setCell ⟨gb135, 9, none⟩ (.bool false)).setCell ⟨gb135, 10, none⟩ (.bool false)) = w63 at n0_ n1_ n2_ n3_ ⊢
                            have HO_4 := n0_
                            have BK120 := n1_
                            have BK135 := n2_
                            have HB := n3_
                            clear n0_ n1_ n2_ n3_
                            have n0_ := Aside0.mk (Kd.R_drew HO_4.out)
                            have n1_ := Aside0.mk (blk_drew BK120.out)
                            have n2_ := Aside0.mk (blk_drew BK135.out)
                            have n3_ := Aside0.mk (below_drew1 HB.out)
                            clear HO_4
                            clear BK120
                            clear BK135
                            clear HB
                            have HO_4 := n0_
                            have BK120 := n1_
                            have BK135 := n2_
                            have HB := n3_
                            clear n0_ n1_ n2_ n3_
                            have p36 : 0 ≤ (0 : Int) := (by omega)
                            have q36 : 0 < sx_.size := (by have : (0 : Int) < (sx_.size : Int) := of_decide_eq_true (by first | (with_reducible assumption) | assumption); omega)
                            have hx36 : ∀ h : 0 < sx_.size, ((sx_[0]'h).toNat : Int) = bt sx_ 0 := bt_at sx_ 0
                            clear p36
                            have qi36 : (0 < (sx_.size : Int)) = True := eq_true (of_decide_eq_true (by first | (with_reducible assumption) | assumption))
                            replace q36 := eq_true q36
                            have p38 : 0 ≤ (1 : Int) := (by omega)
                            have q38 : 1 < sx_.size := (by have : (1 : Int) < (sx_.size : Int) := of_decide_eq_true (by first | (with_reducible assumption) | assumption); omega)
                            have hx38 : ∀ h : 1 < sx_.size, ((sx_[1]'h).toNat : Int) = bt sx_ 1 := bt_at sx_ 1
                            clear p38
                            have qi38 : (1 < (sx_.size : Int)) = True := eq_true (of_decide_eq_true (by first | (with_reducible assumption) | assumption))
                            replace q38 := eq_true q38
                            have p40 : 0 ≤ (2 : Int) := (by omega)
                            have q40 : 2 < sx_.size := (by have : (2 : Int) < (sx_.size : Int) := of_decide_eq_true (by first | (with_reducible assumption) | assumption); omega)
                            have hx40 : ∀ h : 2 < sx_.size, ((sx_[2]'h).toNat : Int) = bt sx_ 2 := bt_at sx_ 2
                            clear p40
                            have qi40 : (2 < (sx_.size : Int)) = True := eq_true (of_decide_eq_true (by first | (with_reducible assumption) | assumption))
                            replace q40 := eq_true q40
                            have p42 : 0 ≤ (3 : Int) := (by omega)
                            have q42 : 3 < sx_.size := (by have : (3 : Int) < (sx_.size : Int) := of_decide_eq_true (by first | (with_reducible assumption) | assumption); omega)
                            have hx42 : ∀ h : 3 < sx_.size, ((sx_[3]'h).toNat : Int) = bt sx_ 3 := bt_at sx_ 3
                            clear p42
                            have qi42 : (3 < (sx_.size : Int)) = True := eq_true (of_decide_eq_true (by first | (with_reducible assumption) | assumption))
                            replace q42 := eq_true q42
                            have p44 : 0 ≤ (4 : Int) := (by omega)
                            have q44 : 4 < sx_.size := (by have : (4 : Int) < (sx_.size : Int) := of_decide_eq_true (by first | (with_reducible assumption) | assumption); omega)
                            have hx44 : ∀ h : 4 < sx_.size, ((sx_[4]'h).toNat : Int) = bt sx_ 4 := bt_at sx_ 4
                            clear p44
                            have qi44 : (4 < (sx_.size : Int)) = True := eq_true (of_decide_eq_true (by first | (with_reducible assumption) | assumption))
                            replace q44 := eq_true q44
                            have p46 : 0 ≤ (5 : Int) := (by omega)
                            have q46 : 5 < sx_.size := (by have : (5 : Int) < (sx_.size : Int) := of_decide_eq_true (by first | (with_reducible assumption) | assumption); omega)
                            have hx46 : ∀ h : 5 < sx_.size, ((sx_[5]'h).toNat : Int) = bt sx_ 5 := bt_at sx_ 5
                            clear p46
                            have qi46 : (5 < (sx_.size : Int)) = True := eq_true (of_decide_eq_true (by first | (with_reducible assumption) | assumption))
                            replace q46 := eq_true q46
                            refine start_ (n := 21) (S := fun w' => True) (ds := []) #[false, false, false, false, false, false, false, false, false, false, false, false, false, false, false, false, false, false, false, false, false] (by kernel_rfl) rfl rfl trivial (fun hHeld => ?_); refine with_tabW spec_ReadCpu.tab11 spec_ReadCpu.bits11 (fun HT_ HW_ => ?_)
                            generalize w63.drew = w64 at HO_4 BK120 BK135 HB hHeld ⊢
                            refine pure_ (i := 0) (N := some 61) (v := ?_) (a' := ?_) #[true, false, false, false, false, false, false, false, false, false, false, false, false, false, false, false, false, false, false, false, false] rfl rfl (any_of HT_.out (by kernel_rfl)) (fun _ _ _ h => h) (Or.inl ⟨by rfl, ?_⟩) ?_ ?_
                            rotate_left
                            ·intro w'
                             go_simp
                             with_reducible rfl
                            rotate_left
                            ·simp only [Act.put, List.setIfInBounds_toArray, List.set_cons_zero, List.set_cons_succ, i64_w, i32_w]
                             rfl
                            refine pure_ (i := 3) (N := some 64) (v := ?_) (a' := ?_) #[true, false, false, true, false, false, false, false, false, false, false, false, false, false, false, false, false, false, false, false, false] rfl rfl (any_of HT_.out (by kernel_rfl)) (fun _ _ _ h => h) (Or.inl ⟨by rfl, ?_⟩) ?_ ?_
                            rotate_left
                            ·intro w'
                             go_simp
                             with_reducible rfl
                            rotate_left
                            ·simp only [Act.put, List.setIfInBounds_toArray, List.set_cons_zero, List.set_cons_succ, i64_w, i32_w]
                             rfl
                            refine pure_ (i := 6) (N := some 67) (v := ?_) (a' := ?_) #[true, false, false, true, false, false, true, false, false, false, false, false, false, false, false, false, false, false, false, false, false] rfl rfl (any_of HT_.out (by kernel_rfl)) (fun _ _ _ h => h) (Or.inl ⟨by rfl, ?_⟩) ?_ ?_
                            rotate_left
                            ·intro w'
                             go_simp
                             with_reducible rfl
                            rotate_left
                            ·simp only [Act.put, List.setIfInBounds_toArray, List.set_cons_zero, List.set_cons_succ, i64_w, i32_w]
                             rfl
                            refine pure_ (i := 9) (N := some 70) (v := ?_) (a' := ?_) #[true, false, false, true, false, false, true, false, false, true, false, false, false, false, false, false, false, false, false, false, false] rfl rfl (any_of HT_.out (by kernel_rfl)) (fun _ _ _ h => h) (Or.inl ⟨by rfl, ?_⟩) ?_ ?_
                            rotate_left
                            ·intro w'
                             go_simp
                             with_reducible rfl
                            rotate_left
                            ·simp only [Act.put, List.setIfInBounds_toArray, List.set_cons_zero, List.set_cons_succ, i64_w, i32_w]
                             rfl
                            refine pure_ (i := 12) (N := some 73) (v := ?_) (a' := ?_) #[true, false, false, true, false, false, true, false, false, true, false, false, true, false, false, false, false, false, false, false, false] rfl rfl (any_of HT_.out (by kernel_rfl)) (fun _ _ _ h => h) (Or.inl ⟨by rfl, ?_⟩) ?_ ?_
                            rotate_left
                            ·intro w'
                             go_simp
                             with_reducible rfl
                            rotate_left
                            ·simp only [Act.put, List.setIfInBounds_toArray, List.set_cons_zero, List.set_cons_succ, i64_w, i32_w]
                             rfl
                            refine pure_ (i := 15) (N := some 76) (v := ?_) (a' := ?_) #[true, false, false, true, false, false, true, false, false, true, false, false, true, false, false, true, false, false, false, false, false] rfl rfl (any_of HT_.out (by kernel_rfl)) (fun _ _ _ h => h) (Or.inl ⟨by rfl, ?_⟩) ?_ ?_
                            rotate_left
                            ·intro w'
                             go_simp
                             with_reducible rfl
                            rotate_left
                            ·simp only [Act.put, List.setIfInBounds_toArray, List.set_cons_zero, List.set_cons_succ, i64_w, i32_w]
                             rfl
                            refine take_ (i := 1) (N := some 62) (v := ?_) (a' := ?_) #[true, true, false, true, false, false, true, false, false, true, false, false, true, false, false, true, false, false, false, false, false] rfl rfl (take_ofW HT_.out HW_.out (by kernel_rfl)) (fun _ _ _ h => h) (Or.inl ⟨by rfl, ?_⟩) hHeld ?_ ?_
                            rotate_left
                            ·intro w' _
                             go_simp
                             with_reducible rfl
                            rotate_left
                            ·simp only [Act.put, List.setIfInBounds_toArray, List.set_cons_zero, List.set_cons_succ, i64_w, i32_w]
                             rfl
                            refine pure_ (i := 2) (N := some 63) (v := ?_) (a' := ?_) #[true, true, true, true, false, false, true, false, false, true, false, false, true, false, false, true, false, false, false, false, false] rfl rfl (any_of HT_.out (by kernel_rfl)) (fun _ _ _ h => h) (Or.inl ⟨by rfl, ?_⟩) ?_ ?_
                            rotate_left
                            ·intro w'
                             go_simp
                             with_reducible rfl
                            rotate_left
                            ·simp only [Act.put, List.setIfInBounds_toArray, List.set_cons_zero, List.set_cons_succ, i64_w, i32_w]
                             rfl
                            refine take_ (i := 4) (N := some 65) (v := ?_) (a' := ?_) #[true, true, true, true, true, false, true, false, false, true, false, false, true, false, false, true, false, false, false, false, false] rfl rfl (take_ofW HT_.out HW_.out (by kernel_rfl)) (fun _ _ _ h => h) (Or.inl ⟨by rfl, ?_⟩) hHeld ?_ ?_
                            rotate_left
                            ·intro w' _
                             go_simp
                             with_reducible rfl
                            rotate_left
                            ·simp only [Act.put, List.setIfInBounds_toArray, List.set_cons_zero, List.set_cons_succ, i64_w, i32_w]
                             rfl
                            refine pure_ (i := 5) (N := some 66) (v := ?_) (a' := ?_) #[true, true, true, true, true, true, true, false, false, true, false, false, true, false, false, true, false, false, false, false, false] rfl rfl (any_of HT_.out (by kernel_rfl)) (fun _ _ _ h => h) (Or.inl ⟨by rfl, ?_⟩) ?_ ?_
                            rotate_left
                            ·intro w'
                             go_simp
                             with_reducible rfl
                            rotate_left
                            ·simp only [Act.put, List.setIfInBounds_toArray, List.set_cons_zero, List.set_cons_succ, i64_w, i32_w]
                             rfl
                            refine take_ (i := 7) (N := some 68) (v := ?_) (a' := ?_) #[true, true, true, true, true, true, true, true, false, true, false, false, true, false, false, true, false, false, false, false, false] rfl rfl (take_ofW HT_.out HW_.out (by kernel_rfl)) (fun _ _ _ h => h) (Or.inl ⟨by rfl, ?_⟩) hHeld ?_ ?_
                            rotate_left
                            ·intro w' _
                             go_simp
                             with_reducible rfl
                            rotate_left
                            ·simp only [Act.put, List.setIfInBounds_toArray, List.set_cons_zero, List.set_cons_succ, i64_w, i32_w]
                             rfl
                            refine pure_ (i := 8) (N := some 69) (v := ?_) (a' := ?_) #[true, true, true, true, true, true, true, true, true, true, false, false, true, false, false, true, false, false, false, false, false] rfl rfl (any_of HT_.out (by kernel_rfl)) (fun _ _ _ h => h) (Or.inl ⟨by rfl, ?_⟩) ?_ ?_
                            rotate_left
                            ·intro w'
                             go_simp
                             with_reducible rfl
                            rotate_left
                            ·simp only [Act.put, List.setIfInBounds_toArray, List.set_cons_zero, List.set_cons_succ, i64_w, i32_w]
                             rfl
                            refine take_ (i := 10) (N := some 71) (v := ?_) (a' := ?_) #[true, true, true, true, true, true, true, true, true, true, true, false, true, false, false, true, false, false, false, false, false] rfl rfl (take_ofW HT_.out HW_.out (by kernel_rfl)) (fun _ _ _ h => h) (Or.inl ⟨by rfl, ?_⟩) hHeld ?_ ?_
                            rotate_left
                            ·intro w' _
                             go_simp
                             with_reducible rfl
                            rotate_left
                            ·simp only [Act.put, List.setIfInBounds_toArray, List.set_cons_zero, List.set_cons_succ, i64_w, i32_w]
                             rfl
                            refine pure_ (i := 11) (N := some 72) (v := ?_) (a' := ?_) #[true, true, true, true, true, true, true, true, true, true, true, true, true, false, false, true, false, false, false, false, false] rfl rfl (any_of HT_.out (by kernel_rfl)) (fun _ _ _ h => h) (Or.inl ⟨by rfl, ?_⟩) ?_ ?_
                            rotate_left
                            ·intro w'
                             go_simp
                             with_reducible rfl
                            rotate_left
                            ·simp only [Act.put, List.setIfInBounds_toArray, List.set_cons_zero, List.set_cons_succ, i64_w, i32_w]
                             rfl
                            refine take_ (i := 13) (N := some 74) (v := ?_) (a' := ?_) #[true, true, true, true, true, true, true, true, true, true, true, true, true, true, false, true, false, false, false, false, false] rfl rfl (take_ofW HT_.out HW_.out (by kernel_rfl)) (fun _ _ _ h => h) (Or.inl ⟨by rfl, ?_⟩) hHeld ?_ ?_
                            rotate_left
                            ·intro w' _
                             go_simp
                             with_reducible rfl
                            rotate_left
                            ·simp only [Act.put, List.setIfInBounds_toArray, List.set_cons_zero, List.set_cons_succ, i64_w, i32_w]
                             rfl
                            refine pure_ (i := 14) (N := some 75) (v := ?_) (a' := ?_) #[true, true, true, true, true, true, true, true, true, true, true, true, true, true, true, true, false, false, false, false, false] rfl rfl (any_of HT_.out (by kernel_rfl)) (fun _ _ _ h => h) (Or.inl ⟨by rfl, ?_⟩) ?_ ?_
                            rotate_left
                            ·intro w'
                             go_simp
                             with_reducible rfl
                            rotate_left
                            ·simp only [Act.put, List.setIfInBounds_toArray, List.set_cons_zero, List.set_cons_succ, i64_w, i32_w]
                             rfl
                            refine take_ (i := 16) (N := some 77) (v := ?_) (a' := ?_) #[true, true, true, true, true, true, true, true, true, true, true, true, true, true, true, true, true, false, false, false, false] rfl rfl (take_ofW HT_.out HW_.out (by kernel_rfl)) (fun _ _ _ h => h) (Or.inl ⟨by rfl, ?_⟩) hHeld ?_ ?_
                            rotate_left
                            ·intro w' _
                             go_simp
                             with_reducible rfl
                            rotate_left
                            ·simp only [Act.put, List.setIfInBounds_toArray, List.set_cons_zero, List.set_cons_succ, i64_w, i32_w]
                             rfl
                            refine pure_ (i := 17) (N := some 78) (v := ?_) (a' := ?_) #[true, true, true, true, true, true, true, true, true, true, true, true, true, true, true, true, true, true, false, false, false] rfl rfl (any_of HT_.out (by kernel_rfl)) (fun _ _ _ h => h) (Or.inl ⟨by rfl, ?_⟩) ?_ ?_
                            rotate_left
                            ·intro w'
                             go_simp
                             with_reducible rfl
                            rotate_left
                            ·simp only [Act.put, List.setIfInBounds_toArray, List.set_cons_zero, List.set_cons_succ, i64_w, i32_w]
                             rfl
                            refine pure_ (i := 18) (N := some 79) (v := ?_) (a' := ?_) #[true, true, true, true, true, true, true, true, true, true, true, true, true, true, true, true, true, true, true, false, false] rfl rfl (any_of HT_.out (by kernel_rfl)) (fun _ _ _ h => h) (Or.inl ⟨by rfl, ?_⟩) ?_ ?_
                            rotate_left
                            ·intro w'
                             go_simp
                             with_reducible rfl
                            rotate_left
                            ·simp only [Act.put, List.setIfInBounds_toArray, List.set_cons_zero, List.set_cons_succ, i64_w, i32_w]
                             rfl
                            refine pure_ (i := 19) (N := some 80) (v := ?_) (a' := ?_) #[true, true, true, true, true, true, true, true, true, true, true, true, true, true, true, true, true, true, true, true, false] rfl rfl (any_of HT_.out (by kernel_rfl)) (fun _ _ _ h => h) (Or.inl ⟨by rfl, ?_⟩) ?_ ?_
                            rotate_left
                            ·intro w'
                             go_simp
                             with_reducible rfl
                            rotate_left
                            ·simp only [Act.put, List.setIfInBounds_toArray, List.set_cons_zero, List.set_cons_succ, i64_w, i32_w]
                             rfl
                            refine one_ (i := 20) (N := none) #[true, true, true, true, true, true, true, true, true, true, true, true, true, true, true, true, true, true, true, true, true] rfl rfl (one_of HT_.out (by kernel_rfl)) (by decide) (fun K hK => ?_)
                            have hs65 : w64.cell? ⟨gb135, 5, none⟩ = some (.bool false) := (blk_cell BK135.out 5).trans rfl
                            have hfs65 := blk_frozen BK135.out 5
                            have hns65_0 := NB120_135.out
                            have hms65_0 := NB135_120.out
                            have hs66 : w64.cell? ⟨gb135, 6, none⟩ = some (.bool false) := (blk_cell BK135.out 6).trans rfl
                            have hfs66 := blk_frozen BK135.out 6
                            have hns66_0 := NB120_135.out
                            have hms66_0 := NB135_120.out
                            have hs67 : w64.cell? ⟨gb135, 7, none⟩ = some (.bool false) := (blk_cell BK135.out 7).trans rfl
                            have hfs67 := blk_frozen BK135.out 7
                            have hns67_0 := NB120_135.out
                            have hms67_0 := NB135_120.out
                            have hs68 : w64.cell? ⟨gb135, 8, none⟩ = some (.bool false) := (blk_cell BK135.out 8).trans rfl
                            have hfs68 := blk_frozen BK135.out 8
                            have hns68_0 := NB120_135.out
                            have hms68_0 := NB135_120.out
                            have hs69 : w64.cell? ⟨gb135, 9, none⟩ = some (.bool false) := (blk_cell BK135.out 9).trans rfl
                            have hfs69 := blk_frozen BK135.out 9
                            have hns69_0 := NB120_135.out
                            have hms69_0 := NB135_120.out
                            have hs70 : w64.cell? ⟨gb135, 10, none⟩ = some (.bool false) := (blk_cell BK135.out 10).trans rfl
                            have hfs70 := blk_frozen BK135.out 10
                            have hns70_0 := NB120_135.out
                            have hms70_0 := NB135_120.out
                            with_reducible refine skip_ (w1 := ?wz2_) ?hw2_ ?hN2_ ?hr2_ ?hh2_
                            case hw2_ => rfl
                            case hN2_ => rfl
                            case hr2_ => (go_simp; (try simp only [IntKind.wrap_u8]); rfl)
                            refine hK.out _ _ trivial (fun hHeld => ?_)
                            clear hK K
                            refine done_ (done_of HT_.out (by kernel_rfl)) ?_
                            go_upto_region 12 with (fail)
                            refine FK.gen_ (fun w' => w'.heap[gb120]? = some (.cells #[.int .u8 x121000_1, .int .u8 x121001_1, .int .u8 x121002_1, .int .u8 x121003_1, .int .u16 x121004_1, .bool x121005_1, .bool x121006_1, .bool x121007_1, .bool x121008_1, .bool x121009_1, .bool x121010_1] 32 (0, 0)) ∧ w'.heap[gb135]? = some (.cells #[.int .u8 ((rd y126 0) % 256), .int .u8 ((rd y126 1) % 256), .int .u8 ((rd y126 2) % 256), .int .u8 ((rd y126 3) % 256), .int .u16 (IntKind.u16.wrap (rd y126 4)), .bool ((bt sx_ 0) == 78), .bool ((bt sx_ 1) == 86), .bool ((bt sx_ 2) == 68), .bool ((bt sx_ 3) == 73), .bool ((bt sx_ 4) == 90), .bool ((bt sx_ 5) == 67)] 32 (0, 0)) ∧ Below w.heap.size w w') ⟨(by (with_reducible repeat (first | refine blk_drewN ?_ _ | refine blk_drew ?_ | refine blk_alloc ?_ _)); refine blk_far ?_ NB120_135.out _; (with_reducible repeat (first | refine blk_drewN ?_ _ | refine blk_drew ?_ | refine blk_alloc ?_ _)); refine blk_far ?_ NB120_135.out _; (with_reducible repeat (first | refine blk_drewN ?_ _ | refine blk_drew ?_ | refine blk_alloc ?_ _)); refine blk_far ?_ NB120_135.out _; (with_reducible repeat (first | refine blk_drewN ?_ _ | refine blk_drew ?_ | refine blk_alloc ?_ _)); refine blk_far ?_ NB120_135.out _; (with_reducible repeat (first | refine blk_drewN ?_ _ | refine blk_drew ?_ | refine blk_alloc ?_ _)); refine blk_far ?_ NB120_135.out _; (with_reducible repeat (first | refine blk_drewN ?_ _ | refine blk_drew ?_ | refine blk_alloc ?_ _)); refine blk_far ?_ NB120_135.out _; (with_reducible repeat (first | refine blk_drewN ?_ _ | refine blk_drew ?_ | refine blk_alloc ?_ _)); exact BK120.out), (by (with_reducible repeat (first | refine blk_drewN ?_ _ | refine blk_drew ?_ | refine blk_alloc ?_ _)); refine blk_put (cs := #[.int .u8 ((rd y126 0) % 256), .int .u8 ((rd y126 1) % 256), .int .u8 ((rd y126 2) % 256), .int .u8 ((rd y126 3) % 256), .int .u16 (IntKind.u16.wrap (rd y126 4)), .bool ((bt sx_ 0) == 78), .bool ((bt sx_ 1) == 86), .bool ((bt sx_ 2) == 68), .bool ((bt sx_ 3) == 73), .bool ((bt sx_ 4) == 90), .bool false]) ?_ 10 _ rfl; (with_reducible repeat (first | refine blk_drewN ?_ _ | refine blk_drew ?_ | refine blk_alloc ?_ _)); refine blk_put (cs := #[.int .u8 ((rd y126 0) % 256), .int .u8 ((rd y126 1) % 256), .int .u8 ((rd y126 2) % 256), .int .u8 ((rd y126 3) % 256), .int .u16 (IntKind.u16.wrap (rd y126 4)), .bool ((bt sx_ 0) == 78), .bool ((bt sx_ 1) == 86), .bool ((bt sx_ 2) == 68), .bool ((bt sx_ 3) == 73), .bool false, .bool false]) ?_ 9 _ rfl; (with_reducible repeat (first | refine blk_drewN ?_ _ | refine blk_drew ?_ | refine blk_alloc ?_ _)); refine blk_put (cs := #[.int .u8 ((rd y126 0) % 256), .int .u8 ((rd y126 1) % 256), .int .u8 ((rd y126 2) % 256), .int .u8 ((rd y126 3) % 256), .int .u16 (IntKind.u16.wrap (rd y126 4)), .bool ((bt sx_ 0) == 78), .bool ((bt sx_ 1) == 86), .bool ((bt sx_ 2) == 68), .bool false, .bool false, .bool false]) ?_ 8 _ rfl; (with_reducible repeat (first | refine blk_drewN ?_ _ | refine blk_drew ?_ | refine blk_alloc ?_ _)); refine blk_put (cs := #[.int .u8 ((rd y126 0) % 256), .int .u8 ((rd y126 1) % 256), .int .u8 ((rd y126 2) % 256), .int .u8 ((rd y126 3) % 256), .int .u16 (IntKind.u16.wrap (rd y126 4)), .bool ((bt sx_ 0) == 78), .bool ((bt sx_ 1) == 86), .bool false, .bool false, .bool false, .bool false]) ?_ 7 _ rfl; (with_reducible repeat (first | refine blk_drewN ?_ _ | refine blk_drew ?_ | refine blk_alloc ?_ _)); refine blk_put (cs := #[.int .u8 ((rd y126 0) % 256), .int .u8 ((rd y126 1) % 256), .int .u8 ((rd y126 2) % 256), .int .u8 ((rd y126 3) % 256), .int .u16 (IntKind.u16.wrap (rd y126 4)), .bool ((bt sx_ 0) == 78), .bool false, .bool false, .bool false, .bool false, .bool false]) ?_ 6 _ rfl; (with_reducible repeat (first | refine blk_drewN ?_ _ | refine blk_drew ?_ | refine blk_alloc ?_ _)); refine blk_put (cs := #[.int .u8 ((rd y126 0) % 256), .int .u8 ((rd y126 1) % 256), .int .u8 ((rd y126 2) % 256), .int .u8 ((rd y126 3) % 256), .int .u16 (IntKind.u16.wrap (rd y126 4)), .bool false, .bool false, .bool false, .bool false, .bool false, .bool false]) ?_ 5 _ rfl; (with_reducible repeat (first | refine blk_drewN ?_ _ | refine blk_drew ?_ | refine blk_alloc ?_ _)); exact BK135.out), (by repeat (first | (with_reducible first | exact HB.out | apply below_alloc | apply pw_below_drewN | apply below_drew1 | refine below_set ?_ GE120.out | refine below_set ?_ GE135.out) | exact HB.out))⟩ ?_
                            rintro wz_ ⟨n0_, n1_, n2_⟩
                            (try clear HO_4)
                            clear BK120 BK135 HB
                            have BK120 := Aside0.mk n0_
                            have BK135 := Aside0.mk n1_
                            have HB := Aside0.mk n2_
                            clear n0_ n1_ n2_
                            have hcy_0 : wz_.cell? ⟨gb135, 0, none⟩ = some (.int .u8 ((rd y126 0) % 256)) := (blk_cell BK135.out 0).trans rfl
                            have hcy_1 : wz_.cell? ⟨gb135, 1, none⟩ = some (.int .u8 ((rd y126 1) % 256)) := (blk_cell BK135.out 1).trans rfl
                            have hcy_2 : wz_.cell? ⟨gb135, 2, none⟩ = some (.int .u8 ((rd y126 2) % 256)) := (blk_cell BK135.out 2).trans rfl
                            have hcy_3 : wz_.cell? ⟨gb135, 3, none⟩ = some (.int .u8 ((rd y126 3) % 256)) := (blk_cell BK135.out 3).trans rfl
                            have hcy_4 : wz_.cell? ⟨gb135, 4, none⟩ = some (.int .u16 (IntKind.u16.wrap (rd y126 4))) := (blk_cell BK135.out 4).trans rfl
                            have hcy_5 : wz_.cell? ⟨gb135, 5, none⟩ = some (.bool ((bt sx_ 0) == 78)) := (blk_cell BK135.out 5).trans rfl
                            have hcy_6 : wz_.cell? ⟨gb135, 6, none⟩ = some (.bool ((bt sx_ 1) == 86)) := (blk_cell BK135.out 6).trans rfl
                            have hcy_7 : wz_.cell? ⟨gb135, 7, none⟩ = some (.bool ((bt sx_ 2) == 68)) := (blk_cell BK135.out 7).trans rfl
                            have hcy_8 : wz_.cell? ⟨gb135, 8, none⟩ = some (.bool ((bt sx_ 3) == 73)) := (blk_cell BK135.out 8).trans rfl
                            have hcy_9 : wz_.cell? ⟨gb135, 9, none⟩ = some (.bool ((bt sx_ 4) == 90)) := (blk_cell BK135.out 9).trans rfl
                            have hcy_10 : wz_.cell? ⟨gb135, 10, none⟩ = some (.bool ((bt sx_ 5) == 67)) := (blk_cell BK135.out 10).trans rfl
                            try go_wp2_with (first | ((with_reducible refine gate_callee (f := 18) rfl ?_); refine goesL_ (some 82) rfl rfl Try.func18 (by kernel_rfl) rfl #[.agg #[.int .u8 ((rd y126 0) % 256), .int .u8 ((rd y126 1) % 256), .int .u8 ((rd y126 2) % 256), .int .u8 ((rd y126 3) % 256), .int .u16 (IntKind.u16.wrap (rd y126 4)), .bool ((bt sx_ 0) == 78), .bool ((bt sx_ 1) == 86), .bool ((bt sx_ 2) == 68), .bool ((bt sx_ 3) == 73), .bool ((bt sx_ 4) == 90), .bool ((bt sx_ 5) == 67)]] rfl (by (try simp only [List.map_toArray, List.map_cons, List.map_nil]); first | done | rfl | (simp only [List.length_drop, List.length_take]; rfl)) ?_; (with_reducible refine (spec_CpuText.calls k1 ((rd y126 0) % 256) ((rd y126 1) % 256) ((rd y126 2) % 256) ((rd y126 3) % 256) (IntKind.u16.wrap (rd y126 4)) ((bt sx_ 0) == 78) ((bt sx_ 1) == 86) ((bt sx_ 2) == 68) ((bt sx_ 3) == 73) ((bt sx_ 4) == 90) ((bt sx_ 5) == 67) t136 _ A47.out).mono ?_); rintro e w73 ⟨rfl, hb⟩; refine ⟨_, rfl, ?_⟩; have n1_ := Aside0.mk (blk_below (g := gb120) (o := .cells #[.int .u8 x121000_1, .int .u8 x121001_1, .int .u8 x121002_1, .int .u8 x121003_1, .int .u16 x121004_1, .bool x121005_1, .bool x121006_1, .bool x121007_1, .bool x121008_1, .bool x121009_1, .bool x121010_1] 32 (0, 0)) (by (with_reducible repeat (first | refine blk_drewN ?_ _ | refine blk_drew ?_ | refine blk_alloc ?_ _)); exact BK120.out) hb); have n2_ := Aside0.mk (blk_below (g := gb135) (o := .cells #[.int .u8 ((rd y126 0) % 256), .int .u8 ((rd y126 1) % 256), .int .u8 ((rd y126 2) % 256), .int .u8 ((rd y126 3) % 256), .int .u16 (IntKind.u16.wrap (rd y126 4)), .bool ((bt sx_ 0) == 78), .bool ((bt sx_ 1) == 86), .bool ((bt sx_ 2) == 68), .bool ((bt sx_ 3) == 73), .bool ((bt sx_ 4) == 90), .bool ((bt sx_ 5) == 67)] 32 (0, 0)) (by (with_reducible repeat (first | refine blk_drewN ?_ _ | refine blk_drew ?_ | refine blk_alloc ?_ _)); exact BK135.out) hb); have n3_ := Aside0.mk (below_step (by repeat (first | (with_reducible first | exact HB.out | apply below_alloc | apply pw_below_drewN | apply below_drew1 | refine below_set ?_ GE120.out | refine below_set ?_ GE135.out) | exact HB.out)) hb); clear BK120; clear BK135; clear HB; have BK120 := n1_; have BK135 := n2_; have HB := n3_; clear n1_ n2_ n3_; (try clear hb); (try clear hb2); (try clear hk); (try clear hi); have hcz74_0 : w73.cell? ⟨gb135, 0, none⟩ = some (.int .u8 ((rd y126 0) % 256)) := (blk_cell BK135.out 0).trans rfl; have hcz74_1 : w73.cell? ⟨gb135, 1, none⟩ = some (.int .u8 ((rd y126 1) % 256)) := (blk_cell BK135.out 1).trans rfl; have hcz74_2 : w73.cell? ⟨gb135, 2, none⟩ = some (.int .u8 ((rd y126 2) % 256)) := (blk_cell BK135.out 2).trans rfl; have hcz74_3 : w73.cell? ⟨gb135, 3, none⟩ = some (.int .u8 ((rd y126 3) % 256)) := (blk_cell BK135.out 3).trans rfl; have hcz74_4 : w73.cell? ⟨gb135, 4, none⟩ = some (.int .u16 (IntKind.u16.wrap (rd y126 4))) := (blk_cell BK135.out 4).trans rfl; have hcz74_5 : w73.cell? ⟨gb135, 5, none⟩ = some (.bool ((bt sx_ 0) == 78)) := (blk_cell BK135.out 5).trans rfl; have hcz74_6 : w73.cell? ⟨gb135, 6, none⟩ = some (.bool ((bt sx_ 1) == 86)) := (blk_cell BK135.out 6).trans rfl; have hcz74_7 : w73.cell? ⟨gb135, 7, none⟩ = some (.bool ((bt sx_ 2) == 68)) := (blk_cell BK135.out 7).trans rfl; have hcz74_8 : w73.cell? ⟨gb135, 8, none⟩ = some (.bool ((bt sx_ 3) == 73)) := (blk_cell BK135.out 8).trans rfl; have hcz74_9 : w73.cell? ⟨gb135, 9, none⟩ = some (.bool ((bt sx_ 4) == 90)) := (blk_cell BK135.out 9).trans rfl; have hcz74_10 : w73.cell? ⟨gb135, 10, none⟩ = some (.bool ((bt sx_ 5) == 67)) := (blk_cell BK135.out 10).trans rfl; have hfz74_0 := blk_frozen BK135.out 0; have hfz74_1 := blk_frozen BK135.out 1; have hfz74_2 := blk_frozen BK135.out 2; have hfz74_3 := blk_frozen BK135.out 3; have hfz74_4 := blk_frozen BK135.out 4; have hfz74_5 := blk_frozen BK135.out 5; have hfz74_6 := blk_frozen BK135.out 6; have hfz74_7 := blk_frozen BK135.out 7; have hfz74_8 := blk_frozen BK135.out 8; have hfz74_9 := blk_frozen BK135.out 9; have hfz74_10 := blk_frozen BK135.out 10; have hcz75_0 : w73.cell? ⟨gb120, 0, none⟩ = some (.int .u8 x121000_1) := (blk_cell BK120.out 0).trans rfl; have hcz75_1 : w73.cell? ⟨gb120, 1, none⟩ = some (.int .u8 x121001_1) := (blk_cell BK120.out 1).trans rfl; have hcz75_2 : w73.cell? ⟨gb120, 2, none⟩ = some (.int .u8 x121002_1) := (blk_cell BK120.out 2).trans rfl; have hcz75_3 : w73.cell? ⟨gb120, 3, none⟩ = some (.int .u8 x121003_1) := (blk_cell BK120.out 3).trans rfl; have hcz75_4 : w73.cell? ⟨gb120, 4, none⟩ = some (.int .u16 x121004_1) := (blk_cell BK120.out 4).trans rfl; have hcz75_5 : w73.cell? ⟨gb120, 5, none⟩ = some (.bool x121005_1) := (blk_cell BK120.out 5).trans rfl; have hcz75_6 : w73.cell? ⟨gb120, 6, none⟩ = some (.bool x121006_1) := (blk_cell BK120.out 6).trans rfl; have hcz75_7 : w73.cell? ⟨gb120, 7, none⟩ = some (.bool x121007_1) := (blk_cell BK120.out 7).trans rfl; have hcz75_8 : w73.cell? ⟨gb120, 8, none⟩ = some (.bool x121008_1) := (blk_cell BK120.out 8).trans rfl; have hcz75_9 : w73.cell? ⟨gb120, 9, none⟩ = some (.bool x121009_1) := (blk_cell BK120.out 9).trans rfl; have hcz75_10 : w73.cell? ⟨gb120, 10, none⟩ = some (.bool x121010_1) := (blk_cell BK120.out 10).trans rfl; have hfz75_0 := blk_frozen BK120.out 0; have hfz75_1 := blk_frozen BK120.out 1; have hfz75_2 := blk_frozen BK120.out 2; have hfz75_3 := blk_frozen BK120.out 3; have hfz75_4 := blk_frozen BK120.out 4; have hfz75_5 := blk_frozen BK120.out 5; have hfz75_6 := blk_frozen BK120.out 6; have hfz75_7 := blk_frozen BK120.out 7; have hfz75_8 := blk_frozen BK120.out 8; have hfz75_9 := blk_frozen BK120.out 9; have hfz75_10 := blk_frozen BK120.out 10))
                            refine bodyPost_ret (results_ct rfl _ _ gb120 32 #[.int .u8 ((rd y126 0) % 256), .int .u8 ((rd y126 1) % 256), .int .u8 ((rd y126 2) % 256), .int .u8 ((rd y126 3) % 256), .int .u16 (IntKind.u16.wrap (rd y126 4)), .bool ((bt sx_ 0) == 78), .bool ((bt sx_ 1) == 86), .bool ((bt sx_ 2) == 68), .bool ((bt sx_ 3) == 73), .bool ((bt sx_ 4) == 90), .bool ((bt sx_ 5) == 67)] (0, 0) _ rfl (by (with_reducible repeat (first | refine blk_drewN ?_ _ | refine blk_drew ?_ | refine blk_alloc ?_ _)); refine blk_put (cs := #[.int .u8 ((rd y126 0) % 256), .int .u8 ((rd y126 1) % 256), .int .u8 ((rd y126 2) % 256), .int .u8 ((rd y126 3) % 256), .int .u16 (IntKind.u16.wrap (rd y126 4)), .bool ((bt sx_ 0) == 78), .bool ((bt sx_ 1) == 86), .bool ((bt sx_ 2) == 68), .bool ((bt sx_ 3) == 73), .bool ((bt sx_ 4) == 90), .bool x121010_1]) ?_ 10 _ rfl; (with_reducible repeat (first | refine blk_drewN ?_ _ | refine blk_drew ?_ | refine blk_alloc ?_ _)); refine blk_put (cs := #[.int .u8 ((rd y126 0) % 256), .int .u8 ((rd y126 1) % 256), .int .u8 ((rd y126 2) % 256), .int .u8 ((rd y126 3) % 256), .int .u16 (IntKind.u16.wrap (rd y126 4)), .bool ((bt sx_ 0) == 78), .bool ((bt sx_ 1) == 86), .bool ((bt sx_ 2) == 68), .bool ((bt sx_ 3) == 73), .bool x121009_1, .bool x121010_1]) ?_ 9 _ rfl; (with_reducible repeat (first | refine blk_drewN ?_ _ | refine blk_drew ?_ | refine blk_alloc ?_ _)); refine blk_put (cs := #[.int .u8 ((rd y126 0) % 256), .int .u8 ((rd y126 1) % 256), .int .u8 ((rd y126 2) % 256), .int .u8 ((rd y126 3) % 256), .int .u16 (IntKind.u16.wrap (rd y126 4)), .bool ((bt sx_ 0) == 78), .bool ((bt sx_ 1) == 86), .bool ((bt sx_ 2) == 68), .bool x121008_1, .bool x121009_1, .bool x121010_1]) ?_ 8 _ rfl; (with_reducible repeat (first | refine blk_drewN ?_ _ | refine blk_drew ?_ | refine blk_alloc ?_ _)); refine blk_put (cs := #[.int .u8 ((rd y126 0) % 256), .int .u8 ((rd y126 1) % 256), .int .u8 ((rd y126 2) % 256), .int .u8 ((rd y126 3) % 256), .int .u16 (IntKind.u16.wrap (rd y126 4)), .bool ((bt sx_ 0) == 78), .bool ((bt sx_ 1) == 86), .bool x121007_1, .bool x121008_1, .bool x121009_1, .bool x121010_1]) ?_ 7 _ rfl; (with_reducible repeat (first | refine blk_drewN ?_ _ | refine blk_drew ?_ | refine blk_alloc ?_ _)); refine blk_put (cs := #[.int .u8 ((rd y126 0) % 256), .int .u8 ((rd y126 1) % 256), .int .u8 ((rd y126 2) % 256), .int .u8 ((rd y126 3) % 256), .int .u16 (IntKind.u16.wrap (rd y126 4)), .bool ((bt sx_ 0) == 78), .bool x121006_1, .bool x121007_1, .bool x121008_1, .bool x121009_1, .bool x121010_1]) ?_ 6 _ rfl; (with_reducible repeat (first | refine blk_drewN ?_ _ | refine blk_drew ?_ | refine blk_alloc ?_ _)); refine blk_put (cs := #[.int .u8 ((rd y126 0) % 256), .int .u8 ((rd y126 1) % 256), .int .u8 ((rd y126 2) % 256), .int .u8 ((rd y126 3) % 256), .int .u16 (IntKind.u16.wrap (rd y126 4)), .bool x121005_1, .bool x121006_1, .bool x121007_1, .bool x121008_1, .bool x121009_1, .bool x121010_1]) ?_ 5 _ rfl; (with_reducible repeat (first | refine blk_drewN ?_ _ | refine blk_drew ?_ | refine blk_alloc ?_ _)); refine blk_put (cs := #[.int .u8 ((rd y126 0) % 256), .int .u8 ((rd y126 1) % 256), .int .u8 ((rd y126 2) % 256), .int .u8 ((rd y126 3) % 256), .int .u16 x121004_1, .bool x121005_1, .bool x121006_1, .bool x121007_1, .bool x121008_1, .bool x121009_1, .bool x121010_1]) ?_ 4 _ rfl; (with_reducible repeat (first | refine blk_drewN ?_ _ | refine blk_drew ?_ | refine blk_alloc ?_ _)); refine blk_put (cs := #[.int .u8 ((rd y126 0) % 256), .int .u8 ((rd y126 1) % 256), .int .u8 ((rd y126 2) % 256), .int .u8 x121003_1, .int .u16 x121004_1, .bool x121005_1, .bool x121006_1, .bool x121007_1, .bool x121008_1, .bool x121009_1, .bool x121010_1]) ?_ 3 _ rfl; (with_reducible repeat (first | refine blk_drewN ?_ _ | refine blk_drew ?_ | refine blk_alloc ?_ _)); refine blk_put (cs := #[.int .u8 ((rd y126 0) % 256), .int .u8 ((rd y126 1) % 256), .int .u8 x121002_1, .int .u8 x121003_1, .int .u16 x121004_1, .bool x121005_1, .bool x121006_1, .bool x121007_1, .bool x121008_1, .bool x121009_1, .bool x121010_1]) ?_ 2 _ rfl; (with_reducible repeat (first | refine blk_drewN ?_ _ | refine blk_drew ?_ | refine blk_alloc ?_ _)); refine blk_put (cs := #[.int .u8 ((rd y126 0) % 256), .int .u8 x121001_1, .int .u8 x121002_1, .int .u8 x121003_1, .int .u16 x121004_1, .bool x121005_1, .bool x121006_1, .bool x121007_1, .bool x121008_1, .bool x121009_1, .bool x121010_1]) ?_ 1 _ rfl; (with_reducible repeat (first | refine blk_drewN ?_ _ | refine blk_drew ?_ | refine blk_alloc ?_ _)); refine blk_put (cs := #[.int .u8 x121000_1, .int .u8 x121001_1, .int .u8 x121002_1, .int .u8 x121003_1, .int .u16 x121004_1, .bool x121005_1, .bool x121006_1, .bool x121007_1, .bool x121008_1, .bool x121009_1, .bool x121010_1]) ?_ 0 _ rfl; (with_reducible repeat (first | refine blk_drewN ?_ _ | refine blk_drew ?_ | refine blk_alloc ?_ _)); exact BK120.out) Try.underlying32 rfl (by kernel_rfl)) rfl ?_
                            have hsx_ := HSX.out
                            subst hsx_
                            exact ⟨by first | rfl | (simp [errW_none, errW_some] <;> rfl) | (simp [*, errW_none, errW_some] <;> rfl), by repeat (first | (with_reducible first | exact HB.out | apply below_alloc | apply pw_below_drewN | apply below_drew1 | refine below_set ?_ GE120.out | refine below_set ?_ GE135.out) | exact HB.out)⟩
                           ·rw [if_neg c48] at H
                            have c48b0 : (t136.toList == a0.toList) = false := beq_eq_false_iff_ne.mpr c48
                            have c48b1 : (t136.toList != a0.toList) = true := bne_iff_ne.mpr c48
                            simp only [Option.some.injEq, Prod.mk.injEq] at H
                            obtain ⟨rfl, rfl, rfl, rfl, rfl, rfl, rfl, rfl, rfl, rfl, rfl, rfl⟩ := H
                            try go_wp2
                            generalize hsx_ : a0.extract 28 a0.size = sx_ at *
                            have HSX := Aside0.mk hsx_
                            clear hsx_
                            have n0_ := Aside0.mk (Kd.R_drew HO_4.out)
                            have n1_ := Aside0.mk (blk_drew BK120.out)
                            have n2_ := Aside0.mk (below_drew1 HB.out)
                            clear HO_4
                            clear BK120
                            clear HB
                            have HO_4 := n0_
                            have BK120 := n1_
                            have HB := n2_
                            clear n0_ n1_ n2_
                            obtain ⟨Ao77, co77, eo77⟩ := Kd.R_slice HO_4.out
                            (first | subst eo77 | (injection eo77 with f1_ f2_ f3_; have f4_ := f1_.symm; have f5_ := f3_.symm; clear f1_ f2_ f3_; subst f4_; subst f5_))
                            have p130 : 0 ≤ (0 : Int) := (by omega)
                            have q130 : 0 < (y126.length : Int) := of_decide_eq_true (by first | (with_reducible assumption) | assumption)
                            obtain ⟨ad130, e130, hx130_0⟩ := Kd.at_int (Kd.R_reads' HO_4.out).2.2 0 p130 q130
                            cases e130
                            have qi130 : (0 < y126.length) = True := eq_true (by omega)
                            (try rw [show ((0 : Int)).toNat = 0 from rfl] at hx130_0)
                            (try rw [Addr.add_zero'] at hx130_0)
                            replace p130 := eq_true p130
                            replace q130 := eq_true q130
                            have p131 : 0 ≤ (1 : Int) := (by omega)
                            have q131 : 1 < (y126.length : Int) := of_decide_eq_true (by first | (with_reducible assumption) | assumption)
                            obtain ⟨ad131, e131, hx131_0⟩ := Kd.at_int (Kd.R_reads' HO_4.out).2.2 1 p131 q131
                            obtain rfl : ad130 = ad131 := (by injection e131)
                            (try simp only [show (1 : Int).toNat = 1 from rfl, Nat.reduceMul, Nat.reduceEqDiff, Go.Addr.add, ↓reduceIte] at hx131_0)
                            have qi131 : (1 < y126.length) = True := eq_true (by omega)
                            (try rw [show ((1 : Int)).toNat = 1 from rfl] at hx131_0)
                            replace p131 := eq_true p131
                            replace q131 := eq_true q131
                            have p132 : 0 ≤ (2 : Int) := (by omega)
                            have q132 : 2 < (y126.length : Int) := of_decide_eq_true (by first | (with_reducible assumption) | assumption)
                            obtain ⟨ad132, e132, hx132_0⟩ := Kd.at_int (Kd.R_reads' HO_4.out).2.2 2 p132 q132
                            obtain rfl : ad130 = ad132 := (by injection e132)
                            (try simp only [show (2 : Int).toNat = 2 from rfl, Nat.reduceMul, Nat.reduceEqDiff, Go.Addr.add, ↓reduceIte] at hx132_0)
                            have qi132 : (2 < y126.length) = True := eq_true (by omega)
                            (try rw [show ((2 : Int)).toNat = 2 from rfl] at hx132_0)
                            replace p132 := eq_true p132
                            replace q132 := eq_true q132
                            have p133 : 0 ≤ (3 : Int) := (by omega)
                            have q133 : 3 < (y126.length : Int) := of_decide_eq_true (by first | (with_reducible assumption) | assumption)
                            obtain ⟨ad133, e133, hx133_0⟩ := Kd.at_int (Kd.R_reads' HO_4.out).2.2 3 p133 q133
                            obtain rfl : ad130 = ad133 := (by injection e133)
                            (try simp only [show (3 : Int).toNat = 3 from rfl, Nat.reduceMul, Nat.reduceEqDiff, Go.Addr.add, ↓reduceIte] at hx133_0)
                            have qi133 : (3 < y126.length) = True := eq_true (by omega)
                            (try rw [show ((3 : Int)).toNat = 3 from rfl] at hx133_0)
                            replace p133 := eq_true p133
                            replace q133 := eq_true q133
                            have p134 : 0 ≤ (4 : Int) := (by omega)
                            have q134 : 4 < (y126.length : Int) := of_decide_eq_true (by first | (with_reducible assumption) | assumption)
                            obtain ⟨ad134, e134, hx134_0⟩ := Kd.at_int (Kd.R_reads' HO_4.out).2.2 4 p134 q134
                            obtain rfl : ad130 = ad134 := (by injection e134)
                            (try simp only [show (4 : Int).toNat = 4 from rfl, Nat.reduceMul, Nat.reduceEqDiff, Go.Addr.add, ↓reduceIte] at hx134_0)
                            have qi134 : (4 < y126.length) = True := eq_true (by omega)
                            (try rw [show ((4 : Int)).toNat = 4 from rfl] at hx134_0)
                            replace p134 := eq_true p134
                            replace q134 := eq_true q134
                            refine start_ (n := 23) (S := fun w' => w'.cell? ad130 = some (.int .i64 (rd y126 0)) ∧ w'.cell? ⟨ad130.block, ad130.off + 1, none⟩ = some (.int .i64 (rd y126 1)) ∧ w'.cell? ⟨ad130.block, ad130.off + 2, none⟩ = some (.int .i64 (rd y126 2)) ∧ w'.cell? ⟨ad130.block, ad130.off + 3, none⟩ = some (.int .i64 (rd y126 3)) ∧ w'.cell? ⟨ad130.block, ad130.off + 4, none⟩ = some (.int .i64 (rd y126 4))) (ds := []) #[false, false, false, false, false, false, false, false, false, false, false, false, false, false, false, false, false, false, false, false, false, false, false] (by kernel_rfl) rfl rfl ⟨hx130_0, hx131_0, hx132_0, hx133_0, hx134_0⟩ (fun hHeld => ?_); refine with_tabW spec_ReadCpu.tab10 spec_ReadCpu.bits10 (fun HT_ HW_ => ?_)
                            generalize wr.drew = w76 at HO_4 BK120 HB hx130_0 hx131_0 hx132_0 hx133_0 hx134_0 hHeld ⊢
                            refine pure_ (i := 0) (N := some 40) (v := ?_) (a' := ?_) #[true, false, false, false, false, false, false, false, false, false, false, false, false, false, false, false, false, false, false, false, false, false, false] rfl rfl (any_of HT_.out (by kernel_rfl)) (fun _ _ _ h => h) (Or.inl ⟨by rfl, ?_⟩) ?_ ?_
                            rotate_left
                            ·intro w'
                             go_simp
                             with_reducible rfl
                            rotate_left
                            ·simp only [Act.put, List.setIfInBounds_toArray, List.set_cons_zero, List.set_cons_succ, i64_w, i32_w]
                             rfl
                            refine pure_ (i := 1) (N := some 41) (v := ?_) (a' := ?_) #[true, true, false, false, false, false, false, false, false, false, false, false, false, false, false, false, false, false, false, false, false, false, false] rfl rfl (any_of HT_.out (by kernel_rfl)) (fun _ _ _ h => h) (Or.inl ⟨by rfl, ?_⟩) ?_ ?_
                            rotate_left
                            ·intro w'
                             go_simp
                             with_reducible rfl
                            rotate_left
                            ·simp only [Act.put, List.setIfInBounds_toArray, List.set_cons_zero, List.set_cons_succ, i64_w, i32_w]
                             rfl
                            refine pure_ (i := 4) (N := some 44) (v := ?_) (a' := ?_) #[true, true, false, false, true, false, false, false, false, false, false, false, false, false, false, false, false, false, false, false, false, false, false] rfl rfl (any_of HT_.out (by kernel_rfl)) (fun _ _ _ h => h) (Or.inl ⟨by rfl, ?_⟩) ?_ ?_
                            rotate_left
                            ·intro w'
                             go_simp
                             with_reducible rfl
                            rotate_left
                            ·simp only [Act.put, List.setIfInBounds_toArray, List.set_cons_zero, List.set_cons_succ, i64_w, i32_w]
                             rfl
                            refine pure_ (i := 5) (N := some 45) (v := ?_) (a' := ?_) #[true, true, false, false, true, true, false, false, false, false, false, false, false, false, false, false, false, false, false, false, false, false, false] rfl rfl (any_of HT_.out (by kernel_rfl)) (fun _ _ _ h => h) (Or.inl ⟨by rfl, ?_⟩) ?_ ?_
                            rotate_left
                            ·intro w'
                             go_simp
                             with_reducible rfl
                            rotate_left
                            ·simp only [Act.put, List.setIfInBounds_toArray, List.set_cons_zero, List.set_cons_succ, i64_w, i32_w]
                             rfl
                            refine pure_ (i := 8) (N := some 48) (v := ?_) (a' := ?_) #[true, true, false, false, true, true, false, false, true, false, false, false, false, false, false, false, false, false, false, false, false, false, false] rfl rfl (any_of HT_.out (by kernel_rfl)) (fun _ _ _ h => h) (Or.inl ⟨by rfl, ?_⟩) ?_ ?_
                            rotate_left
                            ·intro w'
                             go_simp
                             with_reducible rfl
                            rotate_left
                            ·simp only [Act.put, List.setIfInBounds_toArray, List.set_cons_zero, List.set_cons_succ, i64_w, i32_w]
                             rfl
                            refine pure_ (i := 9) (N := some 49) (v := ?_) (a' := ?_) #[true, true, false, false, true, true, false, false, true, true, false, false, false, false, false, false, false, false, false, false, false, false, false] rfl rfl (any_of HT_.out (by kernel_rfl)) (fun _ _ _ h => h) (Or.inl ⟨by rfl, ?_⟩) ?_ ?_
                            rotate_left
                            ·intro w'
                             go_simp
                             with_reducible rfl
                            rotate_left
                            ·simp only [Act.put, List.setIfInBounds_toArray, List.set_cons_zero, List.set_cons_succ, i64_w, i32_w]
                             rfl
                            refine pure_ (i := 12) (N := some 52) (v := ?_) (a' := ?_) #[true, true, false, false, true, true, false, false, true, true, false, false, true, false, false, false, false, false, false, false, false, false, false] rfl rfl (any_of HT_.out (by kernel_rfl)) (fun _ _ _ h => h) (Or.inl ⟨by rfl, ?_⟩) ?_ ?_
                            rotate_left
                            ·intro w'
                             go_simp
                             with_reducible rfl
                            rotate_left
                            ·simp only [Act.put, List.setIfInBounds_toArray, List.set_cons_zero, List.set_cons_succ, i64_w, i32_w]
                             rfl
                            refine pure_ (i := 13) (N := some 53) (v := ?_) (a' := ?_) #[true, true, false, false, true, true, false, false, true, true, false, false, true, true, false, false, false, false, false, false, false, false, false] rfl rfl (any_of HT_.out (by kernel_rfl)) (fun _ _ _ h => h) (Or.inl ⟨by rfl, ?_⟩) ?_ ?_
                            rotate_left
                            ·intro w'
                             go_simp
                             with_reducible rfl
                            rotate_left
                            ·simp only [Act.put, List.setIfInBounds_toArray, List.set_cons_zero, List.set_cons_succ, i64_w, i32_w]
                             rfl
                            refine pure_ (i := 16) (N := some 56) (v := ?_) (a' := ?_) #[true, true, false, false, true, true, false, false, true, true, false, false, true, true, false, false, true, false, false, false, false, false, false] rfl rfl (any_of HT_.out (by kernel_rfl)) (fun _ _ _ h => h) (Or.inl ⟨by rfl, ?_⟩) ?_ ?_
                            rotate_left
                            ·intro w'
                             go_simp
                             with_reducible rfl
                            rotate_left
                            ·simp only [Act.put, List.setIfInBounds_toArray, List.set_cons_zero, List.set_cons_succ, i64_w, i32_w]
                             rfl
                            refine pure_ (i := 17) (N := some 57) (v := ?_) (a' := ?_) #[true, true, false, false, true, true, false, false, true, true, false, false, true, true, false, false, true, true, false, false, false, false, false] rfl rfl (any_of HT_.out (by kernel_rfl)) (fun _ _ _ h => h) (Or.inl ⟨by rfl, ?_⟩) ?_ ?_
                            rotate_left
                            ·intro w'
                             go_simp
                             with_reducible rfl
                            rotate_left
                            ·simp only [Act.put, List.setIfInBounds_toArray, List.set_cons_zero, List.set_cons_succ, i64_w, i32_w]
                             rfl
                            refine take_ (i := 2) (N := some 42) (v := ?_) (a' := ?_) #[true, true, true, false, true, true, false, false, true, true, false, false, true, true, false, false, true, true, false, false, false, false, false] rfl rfl (take_ofW HT_.out HW_.out (by kernel_rfl)) (fun _ _ _ h => h) (Or.inl ⟨by rfl, ?_⟩) hHeld ?_ ?_
                            rotate_left
                            ·rintro w' ⟨s0, s1, s2, s3, s4⟩
                             go_simp
                             with_reducible rfl
                            rotate_left
                            ·simp only [Act.put, List.setIfInBounds_toArray, List.set_cons_zero, List.set_cons_succ, i64_w, i32_w]
                             rfl
                            refine pure_ (i := 3) (N := some 43) (v := ?_) (a' := ?_) #[true, true, true, true, true, true, false, false, true, true, false, false, true, true, false, false, true, true, false, false, false, false, false] rfl rfl (any_of HT_.out (by kernel_rfl)) (fun _ _ _ h => h) (Or.inl ⟨by rfl, ?_⟩) ?_ ?_
                            rotate_left
                            ·intro w'
                             go_simp
                             with_reducible rfl
                            rotate_left
                            ·simp only [Act.put, List.setIfInBounds_toArray, List.set_cons_zero, List.set_cons_succ, i64_w, i32_w]
                             rfl
                            refine take_ (i := 6) (N := some 46) (v := ?_) (a' := ?_) #[true, true, true, true, true, true, true, false, true, true, false, false, true, true, false, false, true, true, false, false, false, false, false] rfl rfl (take_ofW HT_.out HW_.out (by kernel_rfl)) (fun _ _ _ h => h) (Or.inl ⟨by rfl, ?_⟩) hHeld ?_ ?_
                            rotate_left
                            ·rintro w' ⟨s0, s1, s2, s3, s4⟩
                             go_simp
                             with_reducible rfl
                            rotate_left
                            ·simp only [Act.put, List.setIfInBounds_toArray, List.set_cons_zero, List.set_cons_succ, i64_w, i32_w]
                             rfl
                            refine pure_ (i := 7) (N := some 47) (v := ?_) (a' := ?_) #[true, true, true, true, true, true, true, true, true, true, false, false, true, true, false, false, true, true, false, false, false, false, false] rfl rfl (any_of HT_.out (by kernel_rfl)) (fun _ _ _ h => h) (Or.inl ⟨by rfl, ?_⟩) ?_ ?_
                            rotate_left
                            ·intro w'
                             go_simp
                             with_reducible rfl
                            rotate_left
                            ·simp only [Act.put, List.setIfInBounds_toArray, List.set_cons_zero, List.set_cons_succ, i64_w, i32_w]
                             rfl
                            refine take_ (i := 10) (N := some 50) (v := ?_) (a' := ?_) #[true, true, true, true, true, true, true, true, true, true, true, false, true, true, false, false, true, true, false, false, false, false, false] rfl rfl (take_ofW HT_.out HW_.out (by kernel_rfl)) (fun _ _ _ h => h) (Or.inl ⟨by rfl, ?_⟩) hHeld ?_ ?_
                            rotate_left
                            ·rintro w' ⟨s0, s1, s2, s3, s4⟩
                             go_simp
                             with_reducible rfl
                            rotate_left
                            ·simp only [Act.put, List.setIfInBounds_toArray, List.set_cons_zero, List.set_cons_succ, i64_w, i32_w]
                             rfl
                            refine pure_ (i := 11) (N := some 51) (v := ?_) (a' := ?_) #[true, true, true, true, true, true, true, true, true, true, true, true, true, true, false, false, true, true, false, false, false, false, false] rfl rfl (any_of HT_.out (by kernel_rfl)) (fun _ _ _ h => h) (Or.inl ⟨by rfl, ?_⟩) ?_ ?_
                            rotate_left
                            ·intro w'
                             go_simp
                             with_reducible rfl
                            rotate_left
                            ·simp only [Act.put, List.setIfInBounds_toArray, List.set_cons_zero, List.set_cons_succ, i64_w, i32_w]
                             rfl
                            refine take_ (i := 14) (N := some 54) (v := ?_) (a' := ?_) #[true, true, true, true, true, true, true, true, true, true, true, true, true, true, true, false, true, true, false, false, false, false, false] rfl rfl (take_ofW HT_.out HW_.out (by kernel_rfl)) (fun _ _ _ h => h) (Or.inl ⟨by rfl, ?_⟩) hHeld ?_ ?_
                            rotate_left
                            ·rintro w' ⟨s0, s1, s2, s3, s4⟩
                             go_simp
                             with_reducible rfl
                            rotate_left
                            ·simp only [Act.put, List.setIfInBounds_toArray, List.set_cons_zero, List.set_cons_succ, i64_w, i32_w]
                             rfl
                            refine pure_ (i := 15) (N := some 55) (v := ?_) (a' := ?_) #[true, true, true, true, true, true, true, true, true, true, true, true, true, true, true, true, true, true, false, false, false, false, false] rfl rfl (any_of HT_.out (by kernel_rfl)) (fun _ _ _ h => h) (Or.inl ⟨by rfl, ?_⟩) ?_ ?_
                            rotate_left
                            ·intro w'
                             go_simp
                             with_reducible rfl
                            rotate_left
                            ·simp only [Act.put, List.setIfInBounds_toArray, List.set_cons_zero, List.set_cons_succ, i64_w, i32_w]
                             rfl
                            refine take_ (i := 18) (N := some 58) (v := ?_) (a' := ?_) #[true, true, true, true, true, true, true, true, true, true, true, true, true, true, true, true, true, true, true, false, false, false, false] rfl rfl (take_ofW HT_.out HW_.out (by kernel_rfl)) (fun _ _ _ h => h) (Or.inl ⟨by rfl, ?_⟩) hHeld ?_ ?_
                            rotate_left
                            ·rintro w' ⟨s0, s1, s2, s3, s4⟩
                             go_simp
                             with_reducible rfl
                            rotate_left
                            ·simp only [Act.put, List.setIfInBounds_toArray, List.set_cons_zero, List.set_cons_succ, i64_w, i32_w]
                             rfl
                            refine pure_ (i := 19) (N := some 59) (v := ?_) (a' := ?_) #[true, true, true, true, true, true, true, true, true, true, true, true, true, true, true, true, true, true, true, true, false, false, false] rfl rfl (any_of HT_.out (by kernel_rfl)) (fun _ _ _ h => h) (Or.inl ⟨by rfl, ?_⟩) ?_ ?_
                            rotate_left
                            ·intro w'
                             go_simp
                             with_reducible rfl
                            rotate_left
                            ·simp only [Act.put, List.setIfInBounds_toArray, List.set_cons_zero, List.set_cons_succ, i64_w, i32_w]
                             rfl
                            refine pure_ (i := 20) (N := some 60) (v := ?_) (a' := ?_) #[true, true, true, true, true, true, true, true, true, true, true, true, true, true, true, true, true, true, true, true, true, false, false] rfl rfl (any_of HT_.out (by kernel_rfl)) (fun _ _ _ h => h) (Or.inl ⟨by rfl, ?_⟩) ?_ ?_
                            rotate_left
                            ·intro w'
                             go_simp
                             with_reducible rfl
                            rotate_left
                            ·simp only [Act.put, List.setIfInBounds_toArray, List.set_cons_zero, List.set_cons_succ, i64_w, i32_w]
                             rfl
                            refine one_ (i := 21) (N := some 7) #[true, true, true, true, true, true, true, true, true, true, true, true, true, true, true, true, true, true, true, true, true, true, false] rfl rfl (one_of HT_.out (by kernel_rfl)) (by decide) (fun K hK => ?_)
                            refine box_step ?hg (N := 7) ?hd (cs := #[.int .u8 0, .int .u8 0, .int .u8 0, .int .u8 0, .int .u16 0, .bool false, .bool false, .bool false, .bool false, .bool false, .bool false]) (t := 32) ?hr ?_; (case hd => rfl); (case hg => rfl); (case hr => first | (go_simp; done) | (go_simp; rfl))
                            intro gb135 hg w78 hbox hb
                            have HS0_ := (hb.cell (World.block_lt_of_cell? _ _ (hHeld.1))).trans (hHeld.1)
                            have HS1_ := (hb.cell (World.block_lt_of_cell? _ _ (hHeld.2.1))).trans (hHeld.2.1)
                            have HS2_ := (hb.cell (World.block_lt_of_cell? _ _ (hHeld.2.2.1))).trans (hHeld.2.2.1)
                            have HS3_ := (hb.cell (World.block_lt_of_cell? _ _ (hHeld.2.2.2.1))).trans (hHeld.2.2.2.1)
                            have HS4_ := (hb.cell (World.block_lt_of_cell? _ _ (hHeld.2.2.2.2))).trans (hHeld.2.2.2.2)
                            have n0_ := Aside0.mk (Kd.R_below (by (with_reducible repeat (first | apply Kd.R_alloc | apply Kd.R_drewN | apply Kd.R_drew)); exact HO_4.out) hb)
                            have n1_ := Aside0.mk (blk_below (g := gb120) (o := .cells #[.int .u8 x121000_1, .int .u8 x121001_1, .int .u8 x121002_1, .int .u8 x121003_1, .int .u16 x121004_1, .bool x121005_1, .bool x121006_1, .bool x121007_1, .bool x121008_1, .bool x121009_1, .bool x121010_1] 32 (0, 0)) (by (with_reducible repeat (first | refine blk_drewN ?_ _ | refine blk_drew ?_ | refine blk_alloc ?_ _)); exact BK120.out) hb)
                            have n2_ := Aside0.mk (below_step (by repeat (first | (with_reducible first | exact HB.out | apply below_alloc | apply pw_below_drewN | apply below_drew1 | refine below_set ?_ GE120.out) | exact HB.out)) hb)
                            have n3_ := Aside0.mk (hbox)
                            have n4_ := Aside0.mk ((by rw [hg]; exact (below_size (by repeat (first | (with_reducible first | exact HB.out | apply below_alloc | apply pw_below_drewN | apply below_drew1 | refine below_set ?_ GE120.out) | exact HB.out))) : w.heap.size ≤ gb135))
                            have n5_ := Aside0.mk ((by rw [hg]; exact (below_size (by repeat (first | (with_reducible first | exact HB.out | apply below_alloc | apply pw_below_drewN | apply below_drew1 | refine below_set ?_ GE120.out) | exact HB.out))) : w.heap.size ≤ gb135))
                            have n6_ := Aside0.mk ((by rw [hg]; exact Nat.ne_of_lt (blk_lt (g := gb120) (o := .cells #[.int .u8 x121000_1, .int .u8 x121001_1, .int .u8 x121002_1, .int .u8 x121003_1, .int .u16 x121004_1, .bool x121005_1, .bool x121006_1, .bool x121007_1, .bool x121008_1, .bool x121009_1, .bool x121010_1] 32 (0, 0)) (by (with_reducible repeat (first | refine blk_drewN ?_ _ | refine blk_drew ?_ | refine blk_alloc ?_ _)); exact BK120.out)) : gb120 ≠ gb135))
                            have n7_ := Aside0.mk ((by rw [hg]; exact Nat.ne_of_gt (blk_lt (g := gb120) (o := .cells #[.int .u8 x121000_1, .int .u8 x121001_1, .int .u8 x121002_1, .int .u8 x121003_1, .int .u16 x121004_1, .bool x121005_1, .bool x121006_1, .bool x121007_1, .bool x121008_1, .bool x121009_1, .bool x121010_1] 32 (0, 0)) (by (with_reducible repeat (first | refine blk_drewN ?_ _ | refine blk_drew ?_ | refine blk_alloc ?_ _)); exact BK120.out)) : gb135 ≠ gb120))
                            clear HO_4
                            clear BK120
                            clear HB
                            have HO_4 := n0_
                            have BK120 := n1_
                            have HB := n2_
                            have BK135 := n3_
                            have GW135 := n4_
                            have GE135 := n5_
                            have NB120_135 := n6_
                            have NB135_120 := n7_
                            clear n0_ n1_ n2_ n3_ n4_ n5_ n6_ n7_
                            clear hb hbox hg
                            refine hK.out _ _ ⟨HS0_, HS1_, HS2_, HS3_, HS4_⟩ (fun hHeld => ?_)
                            clear hK K
                            refine norm_ (a' := ?_) ?_ ?_
                            rotate_left
                            ·show Act.put _ (some 7) _ = _
                             simp only [Act.put, List.setIfInBounds_toArray, List.set_cons_zero, List.set_cons_succ, i64_w, i32_w]
                             rfl
                            refine one_ (i := 22) (N := none) #[true, true, true, true, true, true, true, true, true, true, true, true, true, true, true, true, true, true, true, true, true, true, true] rfl rfl (one_of HT_.out (by kernel_rfl)) (by decide) (fun K hK => ?_)
                            have hs79 : w78.cell? ⟨gb135, 0, none⟩ = some (.int .u8 0) := (blk_cell BK135.out 0).trans rfl
                            have hfs79 := blk_frozen BK135.out 0
                            have hns79_0 := NB120_135.out
                            have hms79_0 := NB135_120.out
                            have hs80 : w78.cell? ⟨gb135, 1, none⟩ = some (.int .u8 0) := (blk_cell BK135.out 1).trans rfl
                            have hfs80 := blk_frozen BK135.out 1
                            have hns80_0 := NB120_135.out
                            have hms80_0 := NB135_120.out
                            have hs81 : w78.cell? ⟨gb135, 2, none⟩ = some (.int .u8 0) := (blk_cell BK135.out 2).trans rfl
                            have hfs81 := blk_frozen BK135.out 2
                            have hns81_0 := NB120_135.out
                            have hms81_0 := NB135_120.out
                            have hs82 : w78.cell? ⟨gb135, 3, none⟩ = some (.int .u8 0) := (blk_cell BK135.out 3).trans rfl
                            have hfs82 := blk_frozen BK135.out 3
                            have hns82_0 := NB120_135.out
                            have hms82_0 := NB135_120.out
                            have hs83 : w78.cell? ⟨gb135, 4, none⟩ = some (.int .u16 0) := (blk_cell BK135.out 4).trans rfl
                            have hfs83 := blk_frozen BK135.out 4
                            have hns83_0 := NB120_135.out
                            have hms83_0 := NB135_120.out
                            have hs84 : w78.cell? ⟨gb135, 5, none⟩ = some (.bool false) := (blk_cell BK135.out 5).trans rfl
                            have hfs84 := blk_frozen BK135.out 5
                            have hns84_0 := NB120_135.out
                            have hms84_0 := NB135_120.out
                            have hs85 : w78.cell? ⟨gb135, 6, none⟩ = some (.bool false) := (blk_cell BK135.out 6).trans rfl
                            have hfs85 := blk_frozen BK135.out 6
                            have hns85_0 := NB120_135.out
                            have hms85_0 := NB135_120.out
                            have hs86 : w78.cell? ⟨gb135, 7, none⟩ = some (.bool false) := (blk_cell BK135.out 7).trans rfl
                            have hfs86 := blk_frozen BK135.out 7
                            have hns86_0 := NB120_135.out
                            have hms86_0 := NB135_120.out
                            have hs87 : w78.cell? ⟨gb135, 8, none⟩ = some (.bool false) := (blk_cell BK135.out 8).trans rfl
                            have hfs87 := blk_frozen BK135.out 8
                            have hns87_0 := NB120_135.out
                            have hms87_0 := NB135_120.out
                            have hs88 : w78.cell? ⟨gb135, 9, none⟩ = some (.bool false) := (blk_cell BK135.out 9).trans rfl
                            have hfs88 := blk_frozen BK135.out 9
                            have hns88_0 := NB120_135.out
                            have hms88_0 := NB135_120.out
                            have hs89 : w78.cell? ⟨gb135, 10, none⟩ = some (.bool false) := (blk_cell BK135.out 10).trans rfl
                            have hfs89 := blk_frozen BK135.out 10
                            have hns89_0 := NB120_135.out
                            have hms89_0 := NB135_120.out
                            with_reducible refine skip_ (w1 := ?wz3_) ?hw3_ ?hN3_ ?hr3_ ?hh3_
                            case hw3_ => rfl
                            case hN3_ => rfl
                            case hr3_ => (go_simp; (try simp only [IntKind.wrap_u8]); rfl)
                            have qf0_ := Kd.own_blk (Kd.R_ne HO_4.out BK135.out (by decide))
                            refine hK.out _ _ ⟨(Two.far_ qf0_ (Two.far_ qf0_ (Two.far_ qf0_ (Two.far_ qf0_ (Two.far_ qf0_ (Two.far_ qf0_ (Two.far_ qf0_ (Two.far_ qf0_ (Two.far_ qf0_ (Two.far_ qf0_ (Two.far_ qf0_ hHeld.1))))))))))), (Two.far_ qf0_ (Two.far_ qf0_ (Two.far_ qf0_ (Two.far_ qf0_ (Two.far_ qf0_ (Two.far_ qf0_ (Two.far_ qf0_ (Two.far_ qf0_ (Two.far_ qf0_ (Two.far_ qf0_ (Two.far_ qf0_ hHeld.2.1))))))))))), (Two.far_ qf0_ (Two.far_ qf0_ (Two.far_ qf0_ (Two.far_ qf0_ (Two.far_ qf0_ (Two.far_ qf0_ (Two.far_ qf0_ (Two.far_ qf0_ (Two.far_ qf0_ (Two.far_ qf0_ (Two.far_ qf0_ hHeld.2.2.1))))))))))), (Two.far_ qf0_ (Two.far_ qf0_ (Two.far_ qf0_ (Two.far_ qf0_ (Two.far_ qf0_ (Two.far_ qf0_ (Two.far_ qf0_ (Two.far_ qf0_ (Two.far_ qf0_ (Two.far_ qf0_ (Two.far_ qf0_ hHeld.2.2.2.1))))))))))), (Two.far_ qf0_ (Two.far_ qf0_ (Two.far_ qf0_ (Two.far_ qf0_ (Two.far_ qf0_ (Two.far_ qf0_ (Two.far_ qf0_ (Two.far_ qf0_ (Two.far_ qf0_ (Two.far_ qf0_ (Two.far_ qf0_ hHeld.2.2.2.2)))))))))))⟩ (fun hHeld => ?_)
                            clear qf0_
                            clear hK K
                            refine done_ (done_of HT_.out (by kernel_rfl)) ?_
                            try go_wp2
                            have n0_ : Aside0 (Kd.R (Kd.int .i64) 3 (((((((((((w78.setCell ⟨gb135, 0, none⟩ (.int .u8 ((rd y126 0) % 256))).setCell ⟨gb135, 1, none⟩ (.int .u8 ((rd y126 1) % 256))).setCell ⟨gb135, 2, none⟩ (.int .u8 ((rd y126 2) % 256))).setCell ⟨gb135, 3, none⟩ (.int .u8 ((rd y126 3) % 256))).setCell ⟨gb135, 4, none⟩ (.int .u16 (IntKind.u16.wrap (rd y126 4)))).setCell ⟨gb135, 5, none⟩ (.bool false)).setCell ⟨gb135, 6, none⟩ (.bool false)).setCell ⟨gb135, 7, none⟩ (.bool false)).setCell ⟨gb135, 8, none⟩ (.bool false)).setCell ⟨gb135, 9, none⟩ (.bool false)).setCell ⟨gb135, 10, none⟩ (.bool false)) w.heap.size (fun _ => True) (.slice (some ad130) y126.length co77) y126) := ⟨by (with_reducible repeat (first | apply Kd.R_alloc | apply Kd.R_drewN | apply Kd.R_drew)); exact Kd.R_mono (Kd.R_far (p := ⟨gb135, 10, none⟩) (Kd.R_far (p := ⟨gb135, 9, none⟩) (Kd.R_far (p := ⟨gb135, 8, none⟩) (Kd.R_far (p := ⟨gb135, 7, none⟩) (Kd.R_far (p := ⟨gb135, 6, none⟩) (Kd.R_far (p := ⟨gb135, 5, none⟩) (Kd.R_far (p := ⟨gb135, 4, none⟩) (Kd.R_far (p := ⟨gb135, 3, none⟩) (Kd.R_far (p := ⟨gb135, 2, none⟩) (Kd.R_far (p := ⟨gb135, 1, none⟩) (Kd.R_far (p := ⟨gb135, 0, none⟩) (Kd.R_types HO_4.out BK135.out (by decide)) (fun _ hk => hk.2) (.int .u8 ((rd y126 0) % 256))) (fun _ hk => hk.2) (.int .u8 ((rd y126 1) % 256))) (fun _ hk => hk.2) (.int .u8 ((rd y126 2) % 256))) (fun _ hk => hk.2) (.int .u8 ((rd y126 3) % 256))) (fun _ hk => hk.2) (.int .u16 (IntKind.u16.wrap (rd y126 4)))) (fun _ hk => hk.2) (.bool false)) (fun _ hk => hk.2) (.bool false)) (fun _ hk => hk.2) (.bool false)) (fun _ hk => hk.2) (.bool false)) (fun _ hk => hk.2) (.bool false)) (fun _ hk => hk.2) (.bool false)) (fun _ hk => trivial)⟩
                            have n1_ : Aside0 ((((((((((((w78.setCell ⟨gb135, 0, none⟩ (.int .u8 ((rd y126 0) % 256))).setCell ⟨gb135, 1, none⟩ (.int .u8 ((rd y126 1) % 256))).setCell ⟨gb135, 2, none⟩ (.int .u8 ((rd y126 2) % 256))).setCell ⟨gb135, 3, none⟩ (.int .u8 ((rd y126 3) % 256))).setCell ⟨gb135, 4, none⟩ (.int .u16 (IntKind.u16.wrap (rd y126 4)))).setCell ⟨gb135, 5, none⟩ (.bool false)).setCell ⟨gb135, 6, none⟩ (.bool false)).setCell ⟨gb135, 7, none⟩ (.bool false)).setCell ⟨gb135, 8, none⟩ (.bool false)).setCell ⟨gb135, 9, none⟩ (.bool false)).setCell ⟨gb135, 10, none⟩ (.bool false)).heap[gb120]? = some (.cells #[.int .u8 x121000_1, .int .u8 x121001_1, .int .u8 x121002_1, .int .u8 x121003_1, .int .u16 x121004_1, .bool x121005_1, .bool x121006_1, .bool x121007_1, .bool x121008_1, .bool x121009_1, .bool x121010_1] 32 (0, 0))) := ⟨by (with_reducible repeat (first | refine blk_drewN ?_ _ | refine blk_drew ?_ | refine blk_alloc ?_ _)); refine blk_far ?_ NB120_135.out _; (with_reducible repeat (first | refine blk_drewN ?_ _ | refine blk_drew ?_ | refine blk_alloc ?_ _)); refine blk_far ?_ NB120_135.out _; (with_reducible repeat (first | refine blk_drewN ?_ _ | refine blk_drew ?_ | refine blk_alloc ?_ _)); refine blk_far ?_ NB120_135.out _; (with_reducible repeat (first | refine blk_drewN ?_ _ | refine blk_drew ?_ | refine blk_alloc ?_ _)); refine blk_far ?_ NB120_135.out _; (with_reducible repeat (first | refine blk_drewN ?_ _ | refine blk_drew ?_ | refine blk_alloc ?_ _)); refine blk_far ?_ NB120_135.out _; (with_reducible repeat (first | refine blk_drewN ?_ _ | refine blk_drew ?_ | refine blk_alloc ?_ _)); refine blk_far ?_ NB120_135.out _; (with_reducible repeat (first | refine blk_drewN ?_ _ | refine blk_drew ?_ | refine blk_alloc ?_ _)); refine blk_far ?_ NB120_135.out _; (with_reducible repeat (first | refine blk_drewN ?_ _ | refine blk_drew ?_ | refine blk_alloc ?_ _)); refine blk_far ?_ NB120_135.out _; (with_reducible repeat (first | refine blk_drewN ?_ _ | refine blk_drew ?_ | refine blk_alloc ?_ _)); refine blk_far ?_ NB120_135.out _; (with_reducible repeat (first | refine blk_drewN ?_ _ | refine blk_drew ?_ | refine blk_alloc ?_ _)); refine blk_far ?_ NB120_135.out _; (with_reducible repeat (first | refine blk_drewN ?_ _ | refine blk_drew ?_ | refine blk_alloc ?_ _)); refine blk_far ?_ NB120_135.out _; (with_reducible repeat (first | refine blk_drewN ?_ _ | refine blk_drew ?_ | refine blk_alloc ?_ _)); exact BK120.out⟩
                            have n2_ : Aside0 ((((((((((((w78.setCell ⟨gb135, 0, none⟩ (.int .u8 ((rd y126 0) % 256))).setCell ⟨gb135, 1, none⟩ (.int .u8 ((rd y126 1) % 256))).setCell ⟨gb135, 2, none⟩ (.int .u8 ((rd y126 2) % 256))).setCell ⟨gb135, 3, none⟩ (.int .u8 ((rd y126 3) % 256))).setCell ⟨gb135, 4, none⟩ (.int .u16 (IntKind.u16.wrap (rd y126 4)))).setCell ⟨gb135, 5, none⟩ (.bool false)).setCell ⟨gb135, 6, none⟩ (.bool false)).setCell ⟨gb135, 7, none⟩ (.bool false)).setCell ⟨gb135, 8, none⟩ (.bool false)).setCell ⟨gb135, 9, none⟩ (.bool false)).setCell ⟨gb135, 10, none⟩ (.bool false)).heap[gb135]? = some (.cells #[.int .u8 ((rd y126 0) % 256), .int .u8 ((rd y126 1) % 256), .int .u8 ((rd y126 2) % 256), .int .u8 ((rd y126 3) % 256), .int .u16 (IntKind.u16.wrap (rd y126 4)), .bool false, .bool false, .bool false, .bool false, .bool false, .bool false] 32 (0, 0))) := ⟨by (with_reducible repeat (first | refine blk_drewN ?_ _ | refine blk_drew ?_ | refine blk_alloc ?_ _)); refine blk_put (cs := #[.int .u8 ((rd y126 0) % 256), .int .u8 ((rd y126 1) % 256), .int .u8 ((rd y126 2) % 256), .int .u8 ((rd y126 3) % 256), .int .u16 (IntKind.u16.wrap (rd y126 4)), .bool false, .bool false, .bool false, .bool false, .bool false, .bool false]) ?_ 10 _ rfl; (with_reducible repeat (first | refine blk_drewN ?_ _ | refine blk_drew ?_ | refine blk_alloc ?_ _)); refine blk_put (cs := #[.int .u8 ((rd y126 0) % 256), .int .u8 ((rd y126 1) % 256), .int .u8 ((rd y126 2) % 256), .int .u8 ((rd y126 3) % 256), .int .u16 (IntKind.u16.wrap (rd y126 4)), .bool false, .bool false, .bool false, .bool false, .bool false, .bool false]) ?_ 9 _ rfl; (with_reducible repeat (first | refine blk_drewN ?_ _ | refine blk_drew ?_ | refine blk_alloc ?_ _)); refine blk_put (cs := #[.int .u8 ((rd y126 0) % 256), .int .u8 ((rd y126 1) % 256), .int .u8 ((rd y126 2) % 256), .int .u8 ((rd y126 3) % 256), .int .u16 (IntKind.u16.wrap (rd y126 4)), .bool false, .bool false, .bool false, .bool false, .bool false, .bool false]) ?_ 8 _ rfl; (with_reducible repeat (first | refine blk_drewN ?_ _ | refine blk_drew ?_ | refine blk_alloc ?_ _)); refine blk_put (cs := #[.int .u8 ((rd y126 0) % 256), .int .u8 ((rd y126 1) % 256), .int .u8 ((rd y126 2) % 256), .int .u8 ((rd y126 3) % 256), .int .u16 (IntKind.u16.wrap (rd y126 4)), .bool false, .bool false, .bool false, .bool false, .bool false, .bool false]) ?_ 7 _ rfl; (with_reducible repeat (first | refine blk_drewN ?_ _ | refine blk_drew ?_ | refine blk_alloc ?_ _)); refine blk_put (cs := #[.int .u8 ((rd y126 0) % 256), .int .u8 ((rd y126 1) % 256), .int .u8 ((rd y126 2) % 256), .int .u8 ((rd y126 3) % 256), .int .u16 (IntKind.u16.wrap (rd y126 4)), .bool false, .bool false, .bool false, .bool false, .bool false, .bool false]) ?_ 6 _ rfl; (with_reducible repeat (first | refine blk_drewN ?_ _ | refine blk_drew ?_ | refine blk_alloc ?_ _)); refine blk_put (cs := #[.int .u8 ((rd y126 0) % 256), .int .u8 ((rd y126 1) % 256), .int .u8 ((rd y126 2) % 256), .int .u8 ((rd y126 3) % 256), .int .u16 (IntKind.u16.wrap (rd y126 4)), .bool false, .bool false, .bool false, .bool false, .bool false, .bool false]) ?_ 5 _ rfl; (with_reducible repeat (first | refine blk_drewN ?_ _ | refine blk_drew ?_ | refine blk_alloc ?_ _)); refine blk_put (cs := #[.int .u8 ((rd y126 0) % 256), .int .u8 ((rd y126 1) % 256), .int .u8 ((rd y126 2) % 256), .int .u8 ((rd y126 3) % 256), .int .u16 0, .bool false, .bool false, .bool false, .bool false, .bool false, .bool false]) ?_ 4 _ rfl; (with_reducible repeat (first | refine blk_drewN ?_ _ | refine blk_drew ?_ | refine blk_alloc ?_ _)); refine blk_put (cs := #[.int .u8 ((rd y126 0) % 256), .int .u8 ((rd y126 1) % 256), .int .u8 ((rd y126 2) % 256), .int .u8 0, .int .u16 0, .bool false, .bool false, .bool false, .bool false, .bool false, .bool false]) ?_ 3 _ rfl; (with_reducible repeat (first | refine blk_drewN ?_ _ | refine blk_drew ?_ | refine blk_alloc ?_ _)); refine blk_put (cs := #[.int .u8 ((rd y126 0) % 256), .int .u8 ((rd y126 1) % 256), .int .u8 0, .int .u8 0, .int .u16 0, .bool false, .bool false, .bool false, .bool false, .bool false, .bool false]) ?_ 2 _ rfl; (with_reducible repeat (first | refine blk_drewN ?_ _ | refine blk_drew ?_ | refine blk_alloc ?_ _)); refine blk_put (cs := #[.int .u8 ((rd y126 0) % 256), .int .u8 0, .int .u8 0, .int .u8 0, .int .u16 0, .bool false, .bool false, .bool false, .bool false, .bool false, .bool false]) ?_ 1 _ rfl; (with_reducible repeat (first | refine blk_drewN ?_ _ | refine blk_drew ?_ | refine blk_alloc ?_ _)); refine blk_put (cs := #[.int .u8 0, .int .u8 0, .int .u8 0, .int .u8 0, .int .u16 0, .bool false, .bool false, .bool false, .bool false, .bool false, .bool false]) ?_ 0 _ rfl; (with_reducible repeat (first | refine blk_drewN ?_ _ | refine blk_drew ?_ | refine blk_alloc ?_ _)); exact BK135.out⟩
                            have n3_ : Aside0 (Below w.heap.size w (((((((((((w78.setCell ⟨gb135, 0, none⟩ (.int .u8 ((rd y126 0) % 256))).setCell ⟨gb135, 1, none⟩ (.int .u8 ((rd y126 1) % 256))).setCell ⟨gb135, 2, none⟩ (.int .u8 ((rd y126 2) % 256))).setCell ⟨gb135, 3, none⟩ (.int .u8 ((rd y126 3) % 256))).setCell ⟨gb135, 4, none⟩ (.int .u16 (IntKind.u16.wrap (rd y126 4)))).setCell ⟨gb135, 5, none⟩ (.bool false)).setCell ⟨gb135, 6, none⟩ (.bool false)).setCell ⟨gb135, 7, none⟩ (.bool false)).setCell ⟨gb135, 8, none⟩ (.bool false)).setCell ⟨gb135, 9, none⟩ (.bool false)).setCell ⟨gb135, 10, none⟩ (.bool false))) := ⟨by repeat (first | (with_reducible first | exact HB.out | apply below_alloc | apply pw_below_drewN | apply below_drew1 | refine below_set ?_ GE120.out | refine below_set ?_ GE135.out) | exact HB.out)⟩
                            (try clear HO_4)
                            (try clear BK120)
                            (try clear BK135)
                            (try clear HB)
                            generalize (((((((((((w78.setCell ⟨gb135, 0, none⟩ (.int .u8 ((rd y126 0) % 256))).setCell ⟨gb135, 1, none⟩ (.int .u8 ((rd y126 1) % 256))).setCell ⟨gb135, 2, none⟩ (.int .u8 ((rd y126 2) % 256))).setCell ⟨gb135, 3, none⟩ (.int .u8 ((rd y126 3) % 256))).setCell ⟨gb135, 4, none⟩ (.int .u16 (IntKind.u16.wrap (rd y126 4)))).setCell ⟨gb135, 5, none⟩ (.bool false)).setCell ⟨gb135, 6, none⟩ (.bool false)).setCell ⟨gb135, 7, none⟩ (.bool false)).setCell ⟨gb135, 8, none⟩ (.bool false)).setCell ⟨gb135, 9, none⟩ (.bool false)).setCell ⟨gb135, 10, none⟩ (.bool false)) = w90 at n0_ n1_ n2_ n3_ ⊢
                            have HO_4 := n0_
                            have BK120 := n1_
                            have BK135 := n2_
                            have HB := n3_
                            clear n0_ n1_ n2_ n3_
                            have n0_ := Aside0.mk (Kd.R_drew HO_4.out)
                            have n1_ := Aside0.mk (blk_drew BK120.out)
                            have n2_ := Aside0.mk (blk_drew BK135.out)
                            have n3_ := Aside0.mk (below_drew1 HB.out)
                            clear HO_4
                            clear BK120
                            clear BK135
                            clear HB
                            have HO_4 := n0_
                            have BK120 := n1_
                            have BK135 := n2_
                            have HB := n3_
                            clear n0_ n1_ n2_ n3_
                            have p36 : 0 ≤ (0 : Int) := (by omega)
                            have q36 : 0 < sx_.size := (by have : (0 : Int) < (sx_.size : Int) := of_decide_eq_true (by first | (with_reducible assumption) | assumption); omega)
                            have hx36 : ∀ h : 0 < sx_.size, ((sx_[0]'h).toNat : Int) = bt sx_ 0 := bt_at sx_ 0
                            clear p36
                            have qi36 : (0 < (sx_.size : Int)) = True := eq_true (of_decide_eq_true (by first | (with_reducible assumption) | assumption))
                            replace q36 := eq_true q36
                            have p38 : 0 ≤ (1 : Int) := (by omega)
                            have q38 : 1 < sx_.size := (by have : (1 : Int) < (sx_.size : Int) := of_decide_eq_true (by first | (with_reducible assumption) | assumption); omega)
                            have hx38 : ∀ h : 1 < sx_.size, ((sx_[1]'h).toNat : Int) = bt sx_ 1 := bt_at sx_ 1
                            clear p38
                            have qi38 : (1 < (sx_.size : Int)) = True := eq_true (of_decide_eq_true (by first | (with_reducible assumption) | assumption))
                            replace q38 := eq_true q38
                            have p40 : 0 ≤ (2 : Int) := (by omega)
                            have q40 : 2 < sx_.size := (by have : (2 : Int) < (sx_.size : Int) := of_decide_eq_true (by first | (with_reducible assumption) | assumption); omega)
                            have hx40 : ∀ h : 2 < sx_.size, ((sx_[2]'h).toNat : Int) = bt sx_ 2 := bt_at sx_ 2
                            clear p40
                            have qi40 : (2 < (sx_.size : Int)) = True := eq_true (of_decide_eq_true (by first | (with_reducible assumption) | assumption))
                            replace q40 := eq_true q40
                            have p42 : 0 ≤ (3 : Int) := (by omega)
                            have q42 : 3 < sx_.size := (by have : (3 : Int) < (sx_.size : Int) := of_decide_eq_true (by first | (with_reducible assumption) | assumption); omega)
                            have hx42 : ∀ h : 3 < sx_.size, ((sx_[3]'h).toNat : Int) = bt sx_ 3 := bt_at sx_ 3
                            clear p42
                            have qi42 : (3 < (sx_.size : Int)) = True := eq_true (of_decide_eq_true (by first | (with_reducible assumption) | assumption))
                            replace q42 := eq_true q42
                            have p44 : 0 ≤ (4 : Int) := (by omega)
                            have q44 : 4 < sx_.size := (by have : (4 : Int) < (sx_.size : Int) := of_decide_eq_true (by first | (with_reducible assumption) | assumption); omega)
                            have hx44 : ∀ h : 4 < sx_.size, ((sx_[4]'h).toNat : Int) = bt sx_ 4 := bt_at sx_ 4
                            clear p44
                            have qi44 : (4 < (sx_.size : Int)) = True := eq_true (of_decide_eq_true (by first | (with_reducible assumption) | assumption))
                            replace q44 := eq_true q44
                            have p46 : 0 ≤ (5 : Int) := (by omega)
                            have q46 : 5 < sx_.size := (by have : (5 : Int) < (sx_.size : Int) := of_decide_eq_true (by first | (with_reducible assumption) | assumption); omega)
                            have hx46 : ∀ h : 5 < sx_.size, ((sx_[5]'h).toNat : Int) = bt sx_ 5 := bt_at sx_ 5
                            clear p46
                            have qi46 : (5 < (sx_.size : Int)) = True := eq_true (of_decide_eq_true (by first | (with_reducible assumption) | assumption))
                            replace q46 := eq_true q46
                            refine start_ (n := 21) (S := fun w' => True) (ds := []) #[false, false, false, false, false, false, false, false, false, false, false, false, false, false, false, false, false, false, false, false, false] (by kernel_rfl) rfl rfl trivial (fun hHeld => ?_); refine with_tabW spec_ReadCpu.tab11 spec_ReadCpu.bits11 (fun HT_ HW_ => ?_)
                            generalize w90.drew = w91 at HO_4 BK120 BK135 HB hHeld ⊢
                            refine pure_ (i := 0) (N := some 61) (v := ?_) (a' := ?_) #[true, false, false, false, false, false, false, false, false, false, false, false, false, false, false, false, false, false, false, false, false] rfl rfl (any_of HT_.out (by kernel_rfl)) (fun _ _ _ h => h) (Or.inl ⟨by rfl, ?_⟩) ?_ ?_
                            rotate_left
                            ·intro w'
                             go_simp
                             with_reducible rfl
                            rotate_left
                            ·simp only [Act.put, List.setIfInBounds_toArray, List.set_cons_zero, List.set_cons_succ, i64_w, i32_w]
                             rfl
                            refine pure_ (i := 3) (N := some 64) (v := ?_) (a' := ?_) #[true, false, false, true, false, false, false, false, false, false, false, false, false, false, false, false, false, false, false, false, false] rfl rfl (any_of HT_.out (by kernel_rfl)) (fun _ _ _ h => h) (Or.inl ⟨by rfl, ?_⟩) ?_ ?_
                            rotate_left
                            ·intro w'
                             go_simp
                             with_reducible rfl
                            rotate_left
                            ·simp only [Act.put, List.setIfInBounds_toArray, List.set_cons_zero, List.set_cons_succ, i64_w, i32_w]
                             rfl
                            refine pure_ (i := 6) (N := some 67) (v := ?_) (a' := ?_) #[true, false, false, true, false, false, true, false, false, false, false, false, false, false, false, false, false, false, false, false, false] rfl rfl (any_of HT_.out (by kernel_rfl)) (fun _ _ _ h => h) (Or.inl ⟨by rfl, ?_⟩) ?_ ?_
                            rotate_left
                            ·intro w'
                             go_simp
                             with_reducible rfl
                            rotate_left
                            ·simp only [Act.put, List.setIfInBounds_toArray, List.set_cons_zero, List.set_cons_succ, i64_w, i32_w]
                             rfl
                            refine pure_ (i := 9) (N := some 70) (v := ?_) (a' := ?_) #[true, false, false, true, false, false, true, false, false, true, false, false, false, false, false, false, false, false, false, false, false] rfl rfl (any_of HT_.out (by kernel_rfl)) (fun _ _ _ h => h) (Or.inl ⟨by rfl, ?_⟩) ?_ ?_
                            rotate_left
                            ·intro w'
                             go_simp
                             with_reducible rfl
                            rotate_left
                            ·simp only [Act.put, List.setIfInBounds_toArray, List.set_cons_zero, List.set_cons_succ, i64_w, i32_w]
                             rfl
                            refine pure_ (i := 12) (N := some 73) (v := ?_) (a' := ?_) #[true, false, false, true, false, false, true, false, false, true, false, false, true, false, false, false, false, false, false, false, false] rfl rfl (any_of HT_.out (by kernel_rfl)) (fun _ _ _ h => h) (Or.inl ⟨by rfl, ?_⟩) ?_ ?_
                            rotate_left
                            ·intro w'
                             go_simp
                             with_reducible rfl
                            rotate_left
                            ·simp only [Act.put, List.setIfInBounds_toArray, List.set_cons_zero, List.set_cons_succ, i64_w, i32_w]
                             rfl
                            refine pure_ (i := 15) (N := some 76) (v := ?_) (a' := ?_) #[true, false, false, true, false, false, true, false, false, true, false, false, true, false, false, true, false, false, false, false, false] rfl rfl (any_of HT_.out (by kernel_rfl)) (fun _ _ _ h => h) (Or.inl ⟨by rfl, ?_⟩) ?_ ?_
                            rotate_left
                            ·intro w'
                             go_simp
                             with_reducible rfl
                            rotate_left
                            ·simp only [Act.put, List.setIfInBounds_toArray, List.set_cons_zero, List.set_cons_succ, i64_w, i32_w]
                             rfl
                            refine take_ (i := 1) (N := some 62) (v := ?_) (a' := ?_) #[true, true, false, true, false, false, true, false, false, true, false, false, true, false, false, true, false, false, false, false, false] rfl rfl (take_ofW HT_.out HW_.out (by kernel_rfl)) (fun _ _ _ h => h) (Or.inl ⟨by rfl, ?_⟩) hHeld ?_ ?_
                            rotate_left
                            ·intro w' _
                             go_simp
                             with_reducible rfl
                            rotate_left
                            ·simp only [Act.put, List.setIfInBounds_toArray, List.set_cons_zero, List.set_cons_succ, i64_w, i32_w]
                             rfl
                            refine pure_ (i := 2) (N := some 63) (v := ?_) (a' := ?_) #[true, true, true, true, false, false, true, false, false, true, false, false, true, false, false, true, false, false, false, false, false] rfl rfl (any_of HT_.out (by kernel_rfl)) (fun _ _ _ h => h) (Or.inl ⟨by rfl, ?_⟩) ?_ ?_
                            rotate_left
                            ·intro w'
                             go_simp
                             with_reducible rfl
                            rotate_left
                            ·simp only [Act.put, List.setIfInBounds_toArray, List.set_cons_zero, List.set_cons_succ, i64_w, i32_w]
                             rfl
                            refine take_ (i := 4) (N := some 65) (v := ?_) (a' := ?_) #[true, true, true, true, true, false, true, false, false, true, false, false, true, false, false, true, false, false, false, false, false] rfl rfl (take_ofW HT_.out HW_.out (by kernel_rfl)) (fun _ _ _ h => h) (Or.inl ⟨by rfl, ?_⟩) hHeld ?_ ?_
                            rotate_left
                            ·intro w' _
                             go_simp
                             with_reducible rfl
                            rotate_left
                            ·simp only [Act.put, List.setIfInBounds_toArray, List.set_cons_zero, List.set_cons_succ, i64_w, i32_w]
                             rfl
                            refine pure_ (i := 5) (N := some 66) (v := ?_) (a' := ?_) #[true, true, true, true, true, true, true, false, false, true, false, false, true, false, false, true, false, false, false, false, false] rfl rfl (any_of HT_.out (by kernel_rfl)) (fun _ _ _ h => h) (Or.inl ⟨by rfl, ?_⟩) ?_ ?_
                            rotate_left
                            ·intro w'
                             go_simp
                             with_reducible rfl
                            rotate_left
                            ·simp only [Act.put, List.setIfInBounds_toArray, List.set_cons_zero, List.set_cons_succ, i64_w, i32_w]
                             rfl
                            refine take_ (i := 7) (N := some 68) (v := ?_) (a' := ?_) #[true, true, true, true, true, true, true, true, false, true, false, false, true, false, false, true, false, false, false, false, false] rfl rfl (take_ofW HT_.out HW_.out (by kernel_rfl)) (fun _ _ _ h => h) (Or.inl ⟨by rfl, ?_⟩) hHeld ?_ ?_
                            rotate_left
                            ·intro w' _
                             go_simp
                             with_reducible rfl
                            rotate_left
                            ·simp only [Act.put, List.setIfInBounds_toArray, List.set_cons_zero, List.set_cons_succ, i64_w, i32_w]
                             rfl
                            refine pure_ (i := 8) (N := some 69) (v := ?_) (a' := ?_) #[true, true, true, true, true, true, true, true, true, true, false, false, true, false, false, true, false, false, false, false, false] rfl rfl (any_of HT_.out (by kernel_rfl)) (fun _ _ _ h => h) (Or.inl ⟨by rfl, ?_⟩) ?_ ?_
                            rotate_left
                            ·intro w'
                             go_simp
                             with_reducible rfl
                            rotate_left
                            ·simp only [Act.put, List.setIfInBounds_toArray, List.set_cons_zero, List.set_cons_succ, i64_w, i32_w]
                             rfl
                            refine take_ (i := 10) (N := some 71) (v := ?_) (a' := ?_) #[true, true, true, true, true, true, true, true, true, true, true, false, true, false, false, true, false, false, false, false, false] rfl rfl (take_ofW HT_.out HW_.out (by kernel_rfl)) (fun _ _ _ h => h) (Or.inl ⟨by rfl, ?_⟩) hHeld ?_ ?_
                            rotate_left
                            ·intro w' _
                             go_simp
                             with_reducible rfl
                            rotate_left
                            ·simp only [Act.put, List.setIfInBounds_toArray, List.set_cons_zero, List.set_cons_succ, i64_w, i32_w]
                             rfl
                            refine pure_ (i := 11) (N := some 72) (v := ?_) (a' := ?_) #[true, true, true, true, true, true, true, true, true, true, true, true, true, false, false, true, false, false, false, false, false] rfl rfl (any_of HT_.out (by kernel_rfl)) (fun _ _ _ h => h) (Or.inl ⟨by rfl, ?_⟩) ?_ ?_
                            rotate_left
                            ·intro w'
                             go_simp
                             with_reducible rfl
                            rotate_left
                            ·simp only [Act.put, List.setIfInBounds_toArray, List.set_cons_zero, List.set_cons_succ, i64_w, i32_w]
                             rfl
                            refine take_ (i := 13) (N := some 74) (v := ?_) (a' := ?_) #[true, true, true, true, true, true, true, true, true, true, true, true, true, true, false, true, false, false, false, false, false] rfl rfl (take_ofW HT_.out HW_.out (by kernel_rfl)) (fun _ _ _ h => h) (Or.inl ⟨by rfl, ?_⟩) hHeld ?_ ?_
                            rotate_left
                            ·intro w' _
                             go_simp
                             with_reducible rfl
                            rotate_left
                            ·simp only [Act.put, List.setIfInBounds_toArray, List.set_cons_zero, List.set_cons_succ, i64_w, i32_w]
                             rfl
                            refine pure_ (i := 14) (N := some 75) (v := ?_) (a' := ?_) #[true, true, true, true, true, true, true, true, true, true, true, true, true, true, true, true, false, false, false, false, false] rfl rfl (any_of HT_.out (by kernel_rfl)) (fun _ _ _ h => h) (Or.inl ⟨by rfl, ?_⟩) ?_ ?_
                            rotate_left
                            ·intro w'
                             go_simp
                             with_reducible rfl
                            rotate_left
                            ·simp only [Act.put, List.setIfInBounds_toArray, List.set_cons_zero, List.set_cons_succ, i64_w, i32_w]
                             rfl
                            refine take_ (i := 16) (N := some 77) (v := ?_) (a' := ?_) #[true, true, true, true, true, true, true, true, true, true, true, true, true, true, true, true, true, false, false, false, false] rfl rfl (take_ofW HT_.out HW_.out (by kernel_rfl)) (fun _ _ _ h => h) (Or.inl ⟨by rfl, ?_⟩) hHeld ?_ ?_
                            rotate_left
                            ·intro w' _
                             go_simp
                             with_reducible rfl
                            rotate_left
                            ·simp only [Act.put, List.setIfInBounds_toArray, List.set_cons_zero, List.set_cons_succ, i64_w, i32_w]
                             rfl
                            refine pure_ (i := 17) (N := some 78) (v := ?_) (a' := ?_) #[true, true, true, true, true, true, true, true, true, true, true, true, true, true, true, true, true, true, false, false, false] rfl rfl (any_of HT_.out (by kernel_rfl)) (fun _ _ _ h => h) (Or.inl ⟨by rfl, ?_⟩) ?_ ?_
                            rotate_left
                            ·intro w'
                             go_simp
                             with_reducible rfl
                            rotate_left
                            ·simp only [Act.put, List.setIfInBounds_toArray, List.set_cons_zero, List.set_cons_succ, i64_w, i32_w]
                             rfl
                            refine pure_ (i := 18) (N := some 79) (v := ?_) (a' := ?_) #[true, true, true, true, true, true, true, true, true, true, true, true, true, true, true, true, true, true, true, false, false] rfl rfl (any_of HT_.out (by kernel_rfl)) (fun _ _ _ h => h) (Or.inl ⟨by rfl, ?_⟩) ?_ ?_
                            rotate_left
                            ·intro w'
                             go_simp
                             with_reducible rfl
                            rotate_left
                            ·simp only [Act.put, List.setIfInBounds_toArray, List.set_cons_zero, List.set_cons_succ, i64_w, i32_w]
                             rfl
                            refine pure_ (i := 19) (N := some 80) (v := ?_) (a' := ?_) #[true, true, true, true, true, true, true, true, true, true, true, true, true, true, true, true, true, true, true, true, false] rfl rfl (any_of HT_.out (by kernel_rfl)) (fun _ _ _ h => h) (Or.inl ⟨by rfl, ?_⟩) ?_ ?_
                            rotate_left
                            ·intro w'
                             go_simp
                             with_reducible rfl
                            rotate_left
                            ·simp only [Act.put, List.setIfInBounds_toArray, List.set_cons_zero, List.set_cons_succ, i64_w, i32_w]
                             rfl
                            refine one_ (i := 20) (N := none) #[true, true, true, true, true, true, true, true, true, true, true, true, true, true, true, true, true, true, true, true, true] rfl rfl (one_of HT_.out (by kernel_rfl)) (by decide) (fun K hK => ?_)
                            have hs92 : w91.cell? ⟨gb135, 5, none⟩ = some (.bool false) := (blk_cell BK135.out 5).trans rfl
                            have hfs92 := blk_frozen BK135.out 5
                            have hns92_0 := NB120_135.out
                            have hms92_0 := NB135_120.out
                            have hs93 : w91.cell? ⟨gb135, 6, none⟩ = some (.bool false) := (blk_cell BK135.out 6).trans rfl
                            have hfs93 := blk_frozen BK135.out 6
                            have hns93_0 := NB120_135.out
                            have hms93_0 := NB135_120.out
                            have hs94 : w91.cell? ⟨gb135, 7, none⟩ = some (.bool false) := (blk_cell BK135.out 7).trans rfl
                            have hfs94 := blk_frozen BK135.out 7
                            have hns94_0 := NB120_135.out
                            have hms94_0 := NB135_120.out
                            have hs95 : w91.cell? ⟨gb135, 8, none⟩ = some (.bool false) := (blk_cell BK135.out 8).trans rfl
                            have hfs95 := blk_frozen BK135.out 8
                            have hns95_0 := NB120_135.out
                            have hms95_0 := NB135_120.out
                            have hs96 : w91.cell? ⟨gb135, 9, none⟩ = some (.bool false) := (blk_cell BK135.out 9).trans rfl
                            have hfs96 := blk_frozen BK135.out 9
                            have hns96_0 := NB120_135.out
                            have hms96_0 := NB135_120.out
                            have hs97 : w91.cell? ⟨gb135, 10, none⟩ = some (.bool false) := (blk_cell BK135.out 10).trans rfl
                            have hfs97 := blk_frozen BK135.out 10
                            have hns97_0 := NB120_135.out
                            have hms97_0 := NB135_120.out
                            with_reducible refine skip_ (w1 := ?wz4_) ?hw4_ ?hN4_ ?hr4_ ?hh4_
                            case hw4_ => rfl
                            case hN4_ => rfl
                            case hr4_ => (go_simp; (try simp only [IntKind.wrap_u8]); rfl)
                            refine hK.out _ _ trivial (fun hHeld => ?_)
                            clear hK K
                            refine done_ (done_of HT_.out (by kernel_rfl)) ?_
                            go_upto_region 12 with (fail)
                            refine FK.gen_ (fun w' => w'.heap[gb120]? = some (.cells #[.int .u8 x121000_1, .int .u8 x121001_1, .int .u8 x121002_1, .int .u8 x121003_1, .int .u16 x121004_1, .bool x121005_1, .bool x121006_1, .bool x121007_1, .bool x121008_1, .bool x121009_1, .bool x121010_1] 32 (0, 0)) ∧ w'.heap[gb135]? = some (.cells #[.int .u8 ((rd y126 0) % 256), .int .u8 ((rd y126 1) % 256), .int .u8 ((rd y126 2) % 256), .int .u8 ((rd y126 3) % 256), .int .u16 (IntKind.u16.wrap (rd y126 4)), .bool ((bt sx_ 0) == 78), .bool ((bt sx_ 1) == 86), .bool ((bt sx_ 2) == 68), .bool ((bt sx_ 3) == 73), .bool ((bt sx_ 4) == 90), .bool ((bt sx_ 5) == 67)] 32 (0, 0)) ∧ Below w.heap.size w w') ⟨(by (with_reducible repeat (first | refine blk_drewN ?_ _ | refine blk_drew ?_ | refine blk_alloc ?_ _)); refine blk_far ?_ NB120_135.out _; (with_reducible repeat (first | refine blk_drewN ?_ _ | refine blk_drew ?_ | refine blk_alloc ?_ _)); refine blk_far ?_ NB120_135.out _; (with_reducible repeat (first | refine blk_drewN ?_ _ | refine blk_drew ?_ | refine blk_alloc ?_ _)); refine blk_far ?_ NB120_135.out _; (with_reducible repeat (first | refine blk_drewN ?_ _ | refine blk_drew ?_ | refine blk_alloc ?_ _)); refine blk_far ?_ NB120_135.out _; (with_reducible repeat (first | refine blk_drewN ?_ _ | refine blk_drew ?_ | refine blk_alloc ?_ _)); refine blk_far ?_ NB120_135.out _; (with_reducible repeat (first | refine blk_drewN ?_ _ | refine blk_drew ?_ | refine blk_alloc ?_ _)); refine blk_far ?_ NB120_135.out _; (with_reducible repeat (first | refine blk_drewN ?_ _ | refine blk_drew ?_ | refine blk_alloc ?_ _)); exact BK120.out), (by (with_reducible repeat (first | refine blk_drewN ?_ _ | refine blk_drew ?_ | refine blk_alloc ?_ _)); refine blk_put (cs := #[.int .u8 ((rd y126 0) % 256), .int .u8 ((rd y126 1) % 256), .int .u8 ((rd y126 2) % 256), .int .u8 ((rd y126 3) % 256), .int .u16 (IntKind.u16.wrap (rd y126 4)), .bool ((bt sx_ 0) == 78), .bool ((bt sx_ 1) == 86), .bool ((bt sx_ 2) == 68), .bool ((bt sx_ 3) == 73), .bool ((bt sx_ 4) == 90), .bool false]) ?_ 10 _ rfl; (with_reducible repeat (first | refine blk_drewN ?_ _ | refine blk_drew ?_ | refine blk_alloc ?_ _)); refine blk_put (cs := #[.int .u8 ((rd y126 0) % 256), .int .u8 ((rd y126 1) % 256), .int .u8 ((rd y126 2) % 256), .int .u8 ((rd y126 3) % 256), .int .u16 (IntKind.u16.wrap (rd y126 4)), .bool ((bt sx_ 0) == 78), .bool ((bt sx_ 1) == 86), .bool ((bt sx_ 2) == 68), .bool ((bt sx_ 3) == 73), .bool false, .bool false]) ?_ 9 _ rfl; (with_reducible repeat (first | refine blk_drewN ?_ _ | refine blk_drew ?_ | refine blk_alloc ?_ _)); refine blk_put (cs := #[.int .u8 ((rd y126 0) % 256), .int .u8 ((rd y126 1) % 256), .int .u8 ((rd y126 2) % 256), .int .u8 ((rd y126 3) % 256), .int .u16 (IntKind.u16.wrap (rd y126 4)), .bool ((bt sx_ 0) == 78), .bool ((bt sx_ 1) == 86), .bool ((bt sx_ 2) == 68), .bool false, .bool false, .bool false]) ?_ 8 _ rfl; (with_reducible repeat (first | refine blk_drewN ?_ _ | refine blk_drew ?_ | refine blk_alloc ?_ _)); refine blk_put (cs := #[.int .u8 ((rd y126 0) % 256), .int .u8 ((rd y126 1) % 256), .int .u8 ((rd y126 2) % 256), .int .u8 ((rd y126 3) % 256), .int .u16 (IntKind.u16.wrap (rd y126 4)), .bool ((bt sx_ 0) == 78), .bool ((bt sx_ 1) == 86), .bool false, .bool false, .bool false, .bool false]) ?_ 7 _ rfl; (with_reducible repeat (first | refine blk_drewN ?_ _ | refine blk_drew ?_ | refine blk_alloc ?_ _)); refine blk_put (cs := #[.int .u8 ((rd y126 0) % 256), .int .u8 ((rd y126 1) % 256), .int .u8 ((rd y126 2) % 256), .int .u8 ((rd y126 3) % 256), .int .u16 (IntKind.u16.wrap (rd y126 4)), .bool ((bt sx_ 0) == 78), .bool false, .bool false, .bool false, .bool false, .bool false]) ?_ 6 _ rfl; (with_reducible repeat (first | refine blk_drewN ?_ _ | refine blk_drew ?_ | refine blk_alloc ?_ _)); refine blk_put (cs := #[.int .u8 ((rd y126 0) % 256), .int .u8 ((rd y126 1) % 256), .int .u8 ((rd y126 2) % 256), .int .u8 ((rd y126 3) % 256), .int .u16 (IntKind.u16.wrap (rd y126 4)), .bool false, .bool false, .bool false, .bool false, .bool false, .bool false]) ?_ 5 _ rfl; (with_reducible repeat (first | refine blk_drewN ?_ _ | refine blk_drew ?_ | refine blk_alloc ?_ _)); exact BK135.out), (by repeat (first | (with_reducible first | exact HB.out | apply below_alloc | apply pw_below_drewN | apply below_drew1 | refine below_set ?_ GE120.out | refine below_set ?_ GE135.out) | exact HB.out))⟩ ?_
                            rintro wz_ ⟨n0_, n1_, n2_⟩
                            (try clear HO_4)
                            clear BK120 BK135 HB
                            have BK120 := Aside0.mk n0_
                            have BK135 := Aside0.mk n1_
                            have HB := Aside0.mk n2_
                            clear n0_ n1_ n2_
                            have hcy_0 : wz_.cell? ⟨gb135, 0, none⟩ = some (.int .u8 ((rd y126 0) % 256)) := (blk_cell BK135.out 0).trans rfl
                            have hcy_1 : wz_.cell? ⟨gb135, 1, none⟩ = some (.int .u8 ((rd y126 1) % 256)) := (blk_cell BK135.out 1).trans rfl
                            have hcy_2 : wz_.cell? ⟨gb135, 2, none⟩ = some (.int .u8 ((rd y126 2) % 256)) := (blk_cell BK135.out 2).trans rfl
                            have hcy_3 : wz_.cell? ⟨gb135, 3, none⟩ = some (.int .u8 ((rd y126 3) % 256)) := (blk_cell BK135.out 3).trans rfl
                            have hcy_4 : wz_.cell? ⟨gb135, 4, none⟩ = some (.int .u16 (IntKind.u16.wrap (rd y126 4))) := (blk_cell BK135.out 4).trans rfl
                            have hcy_5 : wz_.cell? ⟨gb135, 5, none⟩ = some (.bool ((bt sx_ 0) == 78)) := (blk_cell BK135.out 5).trans rfl
                            have hcy_6 : wz_.cell? ⟨gb135, 6, none⟩ = some (.bool ((bt sx_ 1) == 86)) := (blk_cell BK135.out 6).trans rfl
                            have hcy_7 : wz_.cell? ⟨gb135, 7, none⟩ = some (.bool ((bt sx_ 2) == 68)) := (blk_cell BK135.out 7).trans rfl
                            have hcy_8 : wz_.cell? ⟨gb135, 8, none⟩ = some (.bool ((bt sx_ 3) == 73)) := (blk_cell BK135.out 8).trans rfl
                            have hcy_9 : wz_.cell? ⟨gb135, 9, none⟩ = some (.bool ((bt sx_ 4) == 90)) := (blk_cell BK135.out 9).trans rfl
                            have hcy_10 : wz_.cell? ⟨gb135, 10, none⟩ = some (.bool ((bt sx_ 5) == 67)) := (blk_cell BK135.out 10).trans rfl
                            try go_wp2_with (first | ((with_reducible refine gate_callee (f := 18) rfl ?_); refine goesL_ (some 82) rfl rfl Try.func18 (by kernel_rfl) rfl #[.agg #[.int .u8 ((rd y126 0) % 256), .int .u8 ((rd y126 1) % 256), .int .u8 ((rd y126 2) % 256), .int .u8 ((rd y126 3) % 256), .int .u16 (IntKind.u16.wrap (rd y126 4)), .bool ((bt sx_ 0) == 78), .bool ((bt sx_ 1) == 86), .bool ((bt sx_ 2) == 68), .bool ((bt sx_ 3) == 73), .bool ((bt sx_ 4) == 90), .bool ((bt sx_ 5) == 67)]] rfl (by (try simp only [List.map_toArray, List.map_cons, List.map_nil]); first | done | rfl | (simp only [List.length_drop, List.length_take]; rfl)) ?_; (with_reducible refine (spec_CpuText.calls k1 ((rd y126 0) % 256) ((rd y126 1) % 256) ((rd y126 2) % 256) ((rd y126 3) % 256) (IntKind.u16.wrap (rd y126 4)) ((bt sx_ 0) == 78) ((bt sx_ 1) == 86) ((bt sx_ 2) == 68) ((bt sx_ 3) == 73) ((bt sx_ 4) == 90) ((bt sx_ 5) == 67) t136 _ A47.out).mono ?_); rintro e w100 ⟨rfl, hb⟩; refine ⟨_, rfl, ?_⟩; have n1_ := Aside0.mk (blk_below (g := gb120) (o := .cells #[.int .u8 x121000_1, .int .u8 x121001_1, .int .u8 x121002_1, .int .u8 x121003_1, .int .u16 x121004_1, .bool x121005_1, .bool x121006_1, .bool x121007_1, .bool x121008_1, .bool x121009_1, .bool x121010_1] 32 (0, 0)) (by (with_reducible repeat (first | refine blk_drewN ?_ _ | refine blk_drew ?_ | refine blk_alloc ?_ _)); exact BK120.out) hb); have n2_ := Aside0.mk (blk_below (g := gb135) (o := .cells #[.int .u8 ((rd y126 0) % 256), .int .u8 ((rd y126 1) % 256), .int .u8 ((rd y126 2) % 256), .int .u8 ((rd y126 3) % 256), .int .u16 (IntKind.u16.wrap (rd y126 4)), .bool ((bt sx_ 0) == 78), .bool ((bt sx_ 1) == 86), .bool ((bt sx_ 2) == 68), .bool ((bt sx_ 3) == 73), .bool ((bt sx_ 4) == 90), .bool ((bt sx_ 5) == 67)] 32 (0, 0)) (by (with_reducible repeat (first | refine blk_drewN ?_ _ | refine blk_drew ?_ | refine blk_alloc ?_ _)); exact BK135.out) hb); have n3_ := Aside0.mk (below_step (by repeat (first | (with_reducible first | exact HB.out | apply below_alloc | apply pw_below_drewN | apply below_drew1 | refine below_set ?_ GE120.out | refine below_set ?_ GE135.out) | exact HB.out)) hb); clear BK120; clear BK135; clear HB; have BK120 := n1_; have BK135 := n2_; have HB := n3_; clear n1_ n2_ n3_; (try clear hb); (try clear hb2); (try clear hk); (try clear hi); have hcz101_0 : w100.cell? ⟨gb120, 0, none⟩ = some (.int .u8 x121000_1) := (blk_cell BK120.out 0).trans rfl; have hcz101_1 : w100.cell? ⟨gb120, 1, none⟩ = some (.int .u8 x121001_1) := (blk_cell BK120.out 1).trans rfl; have hcz101_2 : w100.cell? ⟨gb120, 2, none⟩ = some (.int .u8 x121002_1) := (blk_cell BK120.out 2).trans rfl; have hcz101_3 : w100.cell? ⟨gb120, 3, none⟩ = some (.int .u8 x121003_1) := (blk_cell BK120.out 3).trans rfl; have hcz101_4 : w100.cell? ⟨gb120, 4, none⟩ = some (.int .u16 x121004_1) := (blk_cell BK120.out 4).trans rfl; have hcz101_5 : w100.cell? ⟨gb120, 5, none⟩ = some (.bool x121005_1) := (blk_cell BK120.out 5).trans rfl; have hcz101_6 : w100.cell? ⟨gb120, 6, none⟩ = some (.bool x121006_1) := (blk_cell BK120.out 6).trans rfl; have hcz101_7 : w100.cell? ⟨gb120, 7, none⟩ = some (.bool x121007_1) := (blk_cell BK120.out 7).trans rfl; have hcz101_8 : w100.cell? ⟨gb120, 8, none⟩ = some (.bool x121008_1) := (blk_cell BK120.out 8).trans rfl; have hcz101_9 : w100.cell? ⟨gb120, 9, none⟩ = some (.bool x121009_1) := (blk_cell BK120.out 9).trans rfl; have hcz101_10 : w100.cell? ⟨gb120, 10, none⟩ = some (.bool x121010_1) := (blk_cell BK120.out 10).trans rfl; have hfz101_0 := blk_frozen BK120.out 0; have hfz101_1 := blk_frozen BK120.out 1; have hfz101_2 := blk_frozen BK120.out 2; have hfz101_3 := blk_frozen BK120.out 3; have hfz101_4 := blk_frozen BK120.out 4; have hfz101_5 := blk_frozen BK120.out 5; have hfz101_6 := blk_frozen BK120.out 6; have hfz101_7 := blk_frozen BK120.out 7; have hfz101_8 := blk_frozen BK120.out 8; have hfz101_9 := blk_frozen BK120.out 9; have hfz101_10 := blk_frozen BK120.out 10))
                            refine bodyPost_ret (results_ct rfl _ _ gb120 32 #[.int .u8 0, .int .u8 0, .int .u8 0, .int .u8 0, .int .u16 0, .bool false, .bool false, .bool false, .bool false, .bool false, .bool false] (0, 0) _ rfl (by (with_reducible repeat (first | refine blk_drewN ?_ _ | refine blk_drew ?_ | refine blk_alloc ?_ _)); refine blk_put (cs := #[.int .u8 0, .int .u8 0, .int .u8 0, .int .u8 0, .int .u16 0, .bool false, .bool false, .bool false, .bool false, .bool false, .bool x121010_1]) ?_ 10 _ rfl; (with_reducible repeat (first | refine blk_drewN ?_ _ | refine blk_drew ?_ | refine blk_alloc ?_ _)); refine blk_put (cs := #[.int .u8 0, .int .u8 0, .int .u8 0, .int .u8 0, .int .u16 0, .bool false, .bool false, .bool false, .bool false, .bool x121009_1, .bool x121010_1]) ?_ 9 _ rfl; (with_reducible repeat (first | refine blk_drewN ?_ _ | refine blk_drew ?_ | refine blk_alloc ?_ _)); refine blk_put (cs := #[.int .u8 0, .int .u8 0, .int .u8 0, .int .u8 0, .int .u16 0, .bool false, .bool false, .bool false, .bool x121008_1, .bool x121009_1, .bool x121010_1]) ?_ 8 _ rfl; (with_reducible repeat (first | refine blk_drewN ?_ _ | refine blk_drew ?_ | refine blk_alloc ?_ _)); refine blk_put (cs := #[.int .u8 0, .int .u8 0, .int .u8 0, .int .u8 0, .int .u16 0, .bool false, .bool false, .bool x121007_1, .bool x121008_1, .bool x121009_1, .bool x121010_1]) ?_ 7 _ rfl; (with_reducible repeat (first | refine blk_drewN ?_ _ | refine blk_drew ?_ | refine blk_alloc ?_ _)); refine blk_put (cs := #[.int .u8 0, .int .u8 0, .int .u8 0, .int .u8 0, .int .u16 0, .bool false, .bool x121006_1, .bool x121007_1, .bool x121008_1, .bool x121009_1, .bool x121010_1]) ?_ 6 _ rfl; (with_reducible repeat (first | refine blk_drewN ?_ _ | refine blk_drew ?_ | refine blk_alloc ?_ _)); refine blk_put (cs := #[.int .u8 0, .int .u8 0, .int .u8 0, .int .u8 0, .int .u16 0, .bool x121005_1, .bool x121006_1, .bool x121007_1, .bool x121008_1, .bool x121009_1, .bool x121010_1]) ?_ 5 _ rfl; (with_reducible repeat (first | refine blk_drewN ?_ _ | refine blk_drew ?_ | refine blk_alloc ?_ _)); refine blk_put (cs := #[.int .u8 0, .int .u8 0, .int .u8 0, .int .u8 0, .int .u16 x121004_1, .bool x121005_1, .bool x121006_1, .bool x121007_1, .bool x121008_1, .bool x121009_1, .bool x121010_1]) ?_ 4 _ rfl; (with_reducible repeat (first | refine blk_drewN ?_ _ | refine blk_drew ?_ | refine blk_alloc ?_ _)); refine blk_put (cs := #[.int .u8 0, .int .u8 0, .int .u8 0, .int .u8 x121003_1, .int .u16 x121004_1, .bool x121005_1, .bool x121006_1, .bool x121007_1, .bool x121008_1, .bool x121009_1, .bool x121010_1]) ?_ 3 _ rfl; (with_reducible repeat (first | refine blk_drewN ?_ _ | refine blk_drew ?_ | refine blk_alloc ?_ _)); refine blk_put (cs := #[.int .u8 0, .int .u8 0, .int .u8 x121002_1, .int .u8 x121003_1, .int .u16 x121004_1, .bool x121005_1, .bool x121006_1, .bool x121007_1, .bool x121008_1, .bool x121009_1, .bool x121010_1]) ?_ 2 _ rfl; (with_reducible repeat (first | refine blk_drewN ?_ _ | refine blk_drew ?_ | refine blk_alloc ?_ _)); refine blk_put (cs := #[.int .u8 0, .int .u8 x121001_1, .int .u8 x121002_1, .int .u8 x121003_1, .int .u16 x121004_1, .bool x121005_1, .bool x121006_1, .bool x121007_1, .bool x121008_1, .bool x121009_1, .bool x121010_1]) ?_ 1 _ rfl; (with_reducible repeat (first | refine blk_drewN ?_ _ | refine blk_drew ?_ | refine blk_alloc ?_ _)); refine blk_put (cs := #[.int .u8 x121000_1, .int .u8 x121001_1, .int .u8 x121002_1, .int .u8 x121003_1, .int .u16 x121004_1, .bool x121005_1, .bool x121006_1, .bool x121007_1, .bool x121008_1, .bool x121009_1, .bool x121010_1]) ?_ 0 _ rfl; (with_reducible repeat (first | refine blk_drewN ?_ _ | refine blk_drew ?_ | refine blk_alloc ?_ _)); exact BK120.out) Try.underlying32 rfl (by kernel_rfl)) rfl ?_
                            have hsx_ := HSX.out
                            subst hsx_
                            exact ⟨by first | rfl | (simp [errW_none, errW_some] <;> rfl) | (simp [*, errW_none, errW_some] <;> rfl), by repeat (first | (with_reducible first | exact HB.out | apply below_alloc | apply pw_below_drewN | apply below_drew1 | refine below_set ?_ GE120.out | refine below_set ?_ GE135.out) | exact HB.out)⟩
                          ·rw [if_neg c45] at H
                           exact absurd H (by simp)
                         ·rw [if_neg c43] at H
                          exact absurd H (by simp)
                        ·rw [if_neg c41] at H
                         exact absurd H (by simp)
                       ·rw [if_neg c39] at H
                        exact absurd H (by simp)
                      ·rw [if_neg c37] at H
                       exact absurd H (by simp)
                     ·rw [if_neg c35] at H
                      exact absurd H (by simp)
                    ·rw [if_neg c34] at H
                     exact absurd H (by simp)
                   ·rw [if_neg c33] at H
                    exact absurd H (by simp)
                  ·rw [if_neg c32] at H
                   exact absurd H (by simp)
                 ·rw [if_neg c31] at H
                  exact absurd H (by simp)
                ·rw [if_neg c30] at H
                 exact absurd H (by simp)
               ·rw [if_neg c29] at H
                exact absurd H (by simp)
           ·rw [if_neg c16] at H
            exact absurd H (by simp)
          ·rw [if_neg c15] at H
           exact absurd H (by simp)
         ·rw [if_neg c13] at H
          exact absurd H (by simp)
        ·rw [if_neg c12] at H
         exact absurd H (by simp)
       ·rw [if_neg c10] at H
        exact absurd H (by simp)
      ·rw [if_neg c9] at H
       exact absurd H (by simp)
     ·rw [if_neg c7] at H
      exact absurd H (by simp)
    ·rw [if_neg c6] at H
     exact absurd H (by simp)
   ·rw [if_neg c4] at H
    exact absurd H (by simp)
  ·rw [if_neg c3] at H
   exact absurd H (by simp)
 ·rw [if_neg c2] at H
  have c2b0 : ((a0.size : Int) == 34) = false := beq_eq_false_iff_ne.mpr c2
  have c2b1 : ((a0.size : Int) != 34) = true := bne_iff_ne.mpr c2
  simp only [Option.some.injEq, Prod.mk.injEq] at H
  obtain ⟨rfl, rfl, rfl, rfl, rfl, rfl, rfl, rfl, rfl, rfl, rfl, rfl⟩ := H
  go_enter Try.func8, Try.ntmps8
  go_wp2_with (first | ((with_reducible refine gate_dst (N := 2) rfl ?_); refine box_event ?hg (N := 2) ?hd (cs := #[.int .u8 0, .int .u8 0, .int .u8 0, .int .u8 0, .int .u16 0, .bool false, .bool false, .bool false, .bool false, .bool false, .bool false]) (t := 32) ?hr ?_; (case hd => rfl); (case hg => rfl); (case hr => first | (go_simp; done) | (go_simp; rfl)); intro gb120 hg w102 hbox hb; have n0_ := Aside0.mk (below_step (by repeat (first | (with_reducible first | exact HB.out | apply below_alloc | apply pw_below_drewN | apply below_drew1) | exact HB.out)) hb); have n1_ := Aside0.mk (hbox); have n2_ := Aside0.mk ((by rw [hg]; exact (below_size (by repeat (first | (with_reducible first | exact HB.out | apply below_alloc | apply pw_below_drewN | apply below_drew1) | exact HB.out))) : w.heap.size ≤ gb120)); have n3_ := Aside0.mk ((by rw [hg]; exact (below_size (by repeat (first | (with_reducible first | exact HB.out | apply below_alloc | apply pw_below_drewN | apply below_drew1) | exact HB.out))) : w.heap.size ≤ gb120)); clear HB; have HB := n0_; have BK120 := n1_; have GW120 := n2_; have GE120 := n3_; clear n0_ n1_ n2_ n3_; clear hb hbox hg; have hcz103_0 : w102.cell? ⟨gb120, 0, none⟩ = some (.int .u8 0) := (blk_cell BK120.out 0).trans rfl; have hcz103_1 : w102.cell? ⟨gb120, 1, none⟩ = some (.int .u8 0) := (blk_cell BK120.out 1).trans rfl; have hcz103_2 : w102.cell? ⟨gb120, 2, none⟩ = some (.int .u8 0) := (blk_cell BK120.out 2).trans rfl; have hcz103_3 : w102.cell? ⟨gb120, 3, none⟩ = some (.int .u8 0) := (blk_cell BK120.out 3).trans rfl; have hcz103_4 : w102.cell? ⟨gb120, 4, none⟩ = some (.int .u16 0) := (blk_cell BK120.out 4).trans rfl; have hcz103_5 : w102.cell? ⟨gb120, 5, none⟩ = some (.bool false) := (blk_cell BK120.out 5).trans rfl; have hcz103_6 : w102.cell? ⟨gb120, 6, none⟩ = some (.bool false) := (blk_cell BK120.out 6).trans rfl; have hcz103_7 : w102.cell? ⟨gb120, 7, none⟩ = some (.bool false) := (blk_cell BK120.out 7).trans rfl; have hcz103_8 : w102.cell? ⟨gb120, 8, none⟩ = some (.bool false) := (blk_cell BK120.out 8).trans rfl; have hcz103_9 : w102.cell? ⟨gb120, 9, none⟩ = some (.bool false) := (blk_cell BK120.out 9).trans rfl; have hcz103_10 : w102.cell? ⟨gb120, 10, none⟩ = some (.bool false) := (blk_cell BK120.out 10).trans rfl; have hfz103_0 := blk_frozen BK120.out 0; have hfz103_1 := blk_frozen BK120.out 1; have hfz103_2 := blk_frozen BK120.out 2; have hfz103_3 := blk_frozen BK120.out 3; have hfz103_4 := blk_frozen BK120.out 4; have hfz103_5 := blk_frozen BK120.out 5; have hfz103_6 := blk_frozen BK120.out 6; have hfz103_7 := blk_frozen BK120.out 7; have hfz103_8 := blk_frozen BK120.out 8; have hfz103_9 := blk_frozen BK120.out 9; have hfz103_10 := blk_frozen BK120.out 10))
  refine bodyPost_ret (results_ct rfl _ _ gb120 32 #[.int .u8 0, .int .u8 0, .int .u8 0, .int .u8 0, .int .u16 0, .bool false, .bool false, .bool false, .bool false, .bool false, .bool false] (0, 0) _ rfl (by (with_reducible repeat (first | refine blk_drewN ?_ _ | refine blk_drew ?_ | refine blk_alloc ?_ _)); refine blk_put (cs := #[.int .u8 0, .int .u8 0, .int .u8 0, .int .u8 0, .int .u16 0, .bool false, .bool false, .bool false, .bool false, .bool false, .bool false]) ?_ 10 _ rfl; (with_reducible repeat (first | refine blk_drewN ?_ _ | refine blk_drew ?_ | refine blk_alloc ?_ _)); refine blk_put (cs := #[.int .u8 0, .int .u8 0, .int .u8 0, .int .u8 0, .int .u16 0, .bool false, .bool false, .bool false, .bool false, .bool false, .bool false]) ?_ 9 _ rfl; (with_reducible repeat (first | refine blk_drewN ?_ _ | refine blk_drew ?_ | refine blk_alloc ?_ _)); refine blk_put (cs := #[.int .u8 0, .int .u8 0, .int .u8 0, .int .u8 0, .int .u16 0, .bool false, .bool false, .bool false, .bool false, .bool false, .bool false]) ?_ 8 _ rfl; (with_reducible repeat (first | refine blk_drewN ?_ _ | refine blk_drew ?_ | refine blk_alloc ?_ _)); refine blk_put (cs := #[.int .u8 0, .int .u8 0, .int .u8 0, .int .u8 0, .int .u16 0, .bool false, .bool false, .bool false, .bool false, .bool false, .bool false]) ?_ 7 _ rfl; (with_reducible repeat (first | refine blk_drewN ?_ _ | refine blk_drew ?_ | refine blk_alloc ?_ _)); refine blk_put (cs := #[.int .u8 0, .int .u8 0, .int .u8 0, .int .u8 0, .int .u16 0, .bool false, .bool false, .bool false, .bool false, .bool false, .bool false]) ?_ 6 _ rfl; (with_reducible repeat (first | refine blk_drewN ?_ _ | refine blk_drew ?_ | refine blk_alloc ?_ _)); refine blk_put (cs := #[.int .u8 0, .int .u8 0, .int .u8 0, .int .u8 0, .int .u16 0, .bool false, .bool false, .bool false, .bool false, .bool false, .bool false]) ?_ 5 _ rfl; (with_reducible repeat (first | refine blk_drewN ?_ _ | refine blk_drew ?_ | refine blk_alloc ?_ _)); refine blk_put (cs := #[.int .u8 0, .int .u8 0, .int .u8 0, .int .u8 0, .int .u16 0, .bool false, .bool false, .bool false, .bool false, .bool false, .bool false]) ?_ 4 _ rfl; (with_reducible repeat (first | refine blk_drewN ?_ _ | refine blk_drew ?_ | refine blk_alloc ?_ _)); refine blk_put (cs := #[.int .u8 0, .int .u8 0, .int .u8 0, .int .u8 0, .int .u16 0, .bool false, .bool false, .bool false, .bool false, .bool false, .bool false]) ?_ 3 _ rfl; (with_reducible repeat (first | refine blk_drewN ?_ _ | refine blk_drew ?_ | refine blk_alloc ?_ _)); refine blk_put (cs := #[.int .u8 0, .int .u8 0, .int .u8 0, .int .u8 0, .int .u16 0, .bool false, .bool false, .bool false, .bool false, .bool false, .bool false]) ?_ 2 _ rfl; (with_reducible repeat (first | refine blk_drewN ?_ _ | refine blk_drew ?_ | refine blk_alloc ?_ _)); refine blk_put (cs := #[.int .u8 0, .int .u8 0, .int .u8 0, .int .u8 0, .int .u16 0, .bool false, .bool false, .bool false, .bool false, .bool false, .bool false]) ?_ 1 _ rfl; (with_reducible repeat (first | refine blk_drewN ?_ _ | refine blk_drew ?_ | refine blk_alloc ?_ _)); refine blk_put (cs := #[.int .u8 0, .int .u8 0, .int .u8 0, .int .u8 0, .int .u16 0, .bool false, .bool false, .bool false, .bool false, .bool false, .bool false]) ?_ 0 _ rfl; (with_reducible repeat (first | refine blk_drewN ?_ _ | refine blk_drew ?_ | refine blk_alloc ?_ _)); exact BK120.out) Try.underlying32 rfl (by kernel_rfl)) rfl ?_
  exact ⟨by first | rfl | (simp [errW_none, errW_some] <;> rfl) | (simp [*, errW_none, errW_some] <;> rfl), by repeat (first | (with_reducible first | exact HB.out | apply below_alloc | apply pw_below_drewN | apply below_drew1 | refine below_set ?_ GE120.out) | exact HB.out)⟩

end Go.Proofs.Ytidencofapcliaa.MC
