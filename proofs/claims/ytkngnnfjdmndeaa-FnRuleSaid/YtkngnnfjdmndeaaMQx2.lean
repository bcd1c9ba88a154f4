-- Written by this session's own program (wip/myprint.py) over the kit's print of the translation. Lean checks it.
import Derived.Test.YtkngnnfjdmndeaaMQx0
namespace Go.Proofs.Ytkngnnfjdmndeaa.MQ
open Go.RowKit Go.Proofs.YtkngnnfjdmndeaaW.PrintWords Go.Proofs.YtkngnnfjdmndeaaW.PrintLast Go.Proofs.YtkngnnfjdmndeaaW.PrintMore
attribute [local go_sem] max2_int min2_int max_two min_two max_three min_three max_four min_four   -- for this text's walks alone
set_option linter.unusedVariables false
set_option linter.unusedSimpArgs false

/-! ### impl_within: function 31 -/
def impl_within.f (a0 : Int) (a1 : Int) (a2 : Int) : Option (Bool) := if a0 ≥ a1 then (some (decide (a0 ≤ a2))) else (some false)
set_option maxHeartbeats 8000000 in
set_option maxRecDepth 100000 in
theorem impl_within.calls (a0 : Int) (a1 : Int) (a2 : Int) (r : Bool) (w : World) (h : impl_within.f a0 a1 a2 = some r) :
  Calls Try.prog 31 #[.int .i64 a0, .int .i64 a1, .int .i64 a2] w fun e w' => e = .returned (.bool r) ∧ Drawn0 w w' := by
 have H : (if a0 ≥ a1 then (some (decide (a0 ≤ a2))) else (some false)) = some r := h
 clear h
 by_cases c4 : a0 ≥ a1
 ·rw [if_pos c4] at H
  have c4b0 : decide (a1 ≤ a0) = true := decide_eq_true c4
  clear c4
  obtain rfl := Option.some.inj H
  go_enter Try.func31, Try.ntmps31
  go_wp2
  go_ret
  exact ⟨by first | rfl | (simp; done) | (simp [*]; done), by repeat (first | exact Drawn0.refl _ | apply Drawn0.step)⟩
 ·rw [if_neg c4] at H
  have c4b0 : decide (a1 ≤ a0) = false := decide_eq_false c4
  clear c4
  obtain rfl := Option.some.inj H
  go_enter Try.func31, Try.ntmps31
  go_wp2
  go_ret
  exact ⟨by first | rfl | (simp; done) | (simp [*]; done), by repeat (first | exact Drawn0.refl _ | apply Drawn0.step)⟩

/-! ### impl_isHalf: function 36 -/
def impl_isHalf.f (a0 : Int) : Option (Bool) := if a0 = 0 then (some true) else (some (a0 == 15))
set_option maxHeartbeats 8000000 in
set_option maxRecDepth 100000 in
theorem impl_isHalf.calls (a0 : Int) (r : Bool) (w : World) (h : impl_isHalf.f a0 = some r) :
  Calls Try.prog 36 #[.int .u8 a0] w fun e w' => e = .returned (.bool r) ∧ Drawn0 w w' := by
 have H : (if a0 = 0 then (some true) else (some (a0 == 15))) = some r := h
 clear h
 by_cases c2 : a0 = 0
 ·rw [if_pos c2] at H
  have c2b0 : (a0 == 0) = true := beq_iff_eq.mpr c2
  have c2b1 : (a0 != 0) = false := bne_eq_false_iff_eq.mpr c2
  clear c2
  obtain rfl := Option.some.inj H
  go_enter Try.func36, Try.ntmps36
  go_wp2
  go_ret
  exact ⟨by first | rfl | (simp; done) | (simp [*]; done), by repeat (first | exact Drawn0.refl _ | apply Drawn0.step)⟩
 ·rw [if_neg c2] at H
  have c2b0 : (a0 == 0) = false := beq_eq_false_iff_ne.mpr c2
  have c2b1 : (a0 != 0) = true := bne_iff_ne.mpr c2
  obtain rfl := Option.some.inj H
  go_enter Try.func36, Try.ntmps36
  go_wp2
  go_ret
  exact ⟨by first | rfl | (simp; done) | (simp [*]; done), by repeat (first | exact Drawn0.refl _ | apply Drawn0.step)⟩

/-! ### impl_RuleOk: function 20 -/
def impl_RuleOk.f (a0_0 : Int) (a0_1 : Int) (a0_2 : Int) (a0_3 : Int) (a0_4 : Int) : Option (Bool) := if a0_0 ≤ a0_1 then ((impl_isHalf.f (a0_2 / 16)).bind fun t102 => (if t102 = true then ((impl_isHalf.f (Go.bits .and .u8 a0_2 15)).bind fun t103 => (if t103 = true then (if (Go.bits .andNot .u8 a0_3 a0_2) = 0 then ((impl_within.f a0_4 0 2).bind fun t104 => (some t104)) else (some false)) else (some false))) else (some false))) else (some false)
set_option maxHeartbeats 8000000 in
set_option maxRecDepth 100000 in
theorem impl_RuleOk.calls (a0_0 : Int) (a0_1 : Int) (a0_2 : Int) (a0_3 : Int) (a0_4 : Int) (r : Bool) (w : World) (h : impl_RuleOk.f a0_0 a0_1 a0_2 a0_3 a0_4 = some r) :
  Calls Try.prog 20 #[.agg #[.int .u16 a0_0, .int .u16 a0_1, .int .u8 a0_2, .int .u8 a0_3, .int .i64 a0_4]] w fun e w' => e = .returned (.bool r) ∧ Below w.heap.size w w' := by
 have hu24 := Try.underlying24
 have HB := Aside0.mk (Below.refl w.heap.size w)
 have H : (if a0_0 ≤ a0_1 then ((impl_isHalf.f (a0_2 / 16)).bind fun t102 => (if t102 = true then ((impl_isHalf.f (Go.bits .and .u8 a0_2 15)).bind fun t103 => (if t103 = true then (if (Go.bits .andNot .u8 a0_3 a0_2) = 0 then ((impl_within.f a0_4 0 2).bind fun t104 => (some t104)) else (some false)) else (some false))) else (some false))) else (some false)) = some r := h
 clear h
 by_cases c2 : a0_0 ≤ a0_1
 ·rw [if_pos c2] at H
  have c2b0 : decide (a0_0 ≤ a0_1) = true := decide_eq_true c2
  clear c2
  replace H := Option.bind_eq_some_iff.mp H
  obtain ⟨t102, A30, H⟩ := H
  replace H : (if t102 = true then ((impl_isHalf.f (Go.bits .and .u8 a0_2 15)).bind fun t103 => (if t103 = true then (if (Go.bits .andNot .u8 a0_3 a0_2) = 0 then ((impl_within.f a0_4 0 2).bind fun t104 => (some t104)) else (some false)) else (some false))) else (some false)) = some r := H
  have A3 := Aside0.mk A30
  clear A30
  by_cases c4 : t102 = true
  ·subst c4
   have H1 : ((impl_isHalf.f (Go.bits .and .u8 a0_2 15)).bind fun t103 => (if t103 = true then (if (Go.bits .andNot .u8 a0_3 a0_2) = 0 then ((impl_within.f a0_4 0 2).bind fun t104 => (some t104)) else (some false)) else (some false))) = some r := by rw [if_pos rfl] at H; exact H
   clear H
   have H := H1
   clear H1
   replace H := Option.bind_eq_some_iff.mp H
   obtain ⟨t103, A50, H⟩ := H
   replace H : (if t103 = true then (if (Go.bits .andNot .u8 a0_3 a0_2) = 0 then ((impl_within.f a0_4 0 2).bind fun t104 => (some t104)) else (some false)) else (some false)) = some r := H
   have A5 := Aside0.mk A50
   clear A50
   by_cases c6 : t103 = true
   ·subst c6
    have H1 : (if (Go.bits .andNot .u8 a0_3 a0_2) = 0 then ((impl_within.f a0_4 0 2).bind fun t104 => (some t104)) else (some false)) = some r := by rw [if_pos rfl] at H; exact H
    clear H
    have H := H1
    clear H1
    by_cases c7 : (Go.bits .andNot .u8 a0_3 a0_2) = 0
    ·rw [if_pos c7] at H
     have c7b0 : ((Go.bits .andNot .u8 a0_3 a0_2) == 0) = true := beq_iff_eq.mpr c7
     have c7b1 : ((Go.bits .andNot .u8 a0_3 a0_2) != 0) = false := bne_eq_false_iff_eq.mpr c7
     clear c7
     replace H := Option.bind_eq_some_iff.mp H
     obtain ⟨t104, A80, H⟩ := H
     replace H : (some t104) = some r := H
     have A8 := Aside0.mk A80
     clear A80
     obtain rfl := Option.some.inj H
     go_enter Try.func20, Try.ntmps20
     go_wp2_with (first | ((with_reducible refine gate_dst (N := 1) rfl ?_); refine box_event ?hg (N := 1) ?hd (cs := #[.int .u16 a0_0, .int .u16 a0_1, .int .u8 a0_2, .int .u8 a0_3, .int .i64 a0_4]) (t := 24) ?hr ?_; (case hd => rfl); (case hg => rfl); (case hr => first | (go_simp; done) | (go_simp; rfl)); intro gb101 hg w9 hbox hb; have n0_ := Aside0.mk (below_step (by repeat (first | (with_reducible first | exact HB.out | apply below_alloc | apply pw_below_drewN | apply below_drew1) | exact HB.out)) hb); have n1_ := Aside0.mk (hbox); have n2_ := Aside0.mk ((by rw [hg]; exact (below_size (by repeat (first | (with_reducible first | exact HB.out | apply below_alloc | apply pw_below_drewN | apply below_drew1) | exact HB.out))) : w.heap.size ≤ gb101)); have n3_ := Aside0.mk ((by rw [hg]; exact (below_size (by repeat (first | (with_reducible first | exact HB.out | apply below_alloc | apply pw_below_drewN | apply below_drew1) | exact HB.out))) : w.heap.size ≤ gb101)); clear HB; have HB := n0_; have BK101 := n1_; have GW101 := n2_; have GE101 := n3_; clear n0_ n1_ n2_ n3_; clear hb hbox hg; have hcz10_0 : w9.cell? ⟨gb101, 0, none⟩ = some (.int .u16 a0_0) := (blk_cell BK101.out 0).trans rfl; have hcz10_1 : w9.cell? ⟨gb101, 1, none⟩ = some (.int .u16 a0_1) := (blk_cell BK101.out 1).trans rfl; have hcz10_2 : w9.cell? ⟨gb101, 2, none⟩ = some (.int .u8 a0_2) := (blk_cell BK101.out 2).trans rfl; have hcz10_3 : w9.cell? ⟨gb101, 3, none⟩ = some (.int .u8 a0_3) := (blk_cell BK101.out 3).trans rfl; have hcz10_4 : w9.cell? ⟨gb101, 4, none⟩ = some (.int .i64 a0_4) := (blk_cell BK101.out 4).trans rfl; have hfz10_0 := blk_frozen BK101.out 0; have hfz10_1 := blk_frozen BK101.out 1; have hfz10_2 := blk_frozen BK101.out 2; have hfz10_3 := blk_frozen BK101.out 3; have hfz10_4 := blk_frozen BK101.out 4) | (go_at_call 36; (with_reducible refine (impl_isHalf.calls (a0_2 / 16) true _ A3.out).mono ?_); rintro e w' ⟨rfl, ⟨nd, rfl⟩⟩) | (go_at_call 36; (with_reducible refine (impl_isHalf.calls (Go.bits .and .u8 a0_2 15) true _ A5.out).mono ?_); rintro e w' ⟨rfl, ⟨nd, rfl⟩⟩) | (go_at_call 31; (with_reducible refine (impl_within.calls a0_4 0 2 t104 _ A8.out).mono ?_); rintro e w' ⟨rfl, ⟨nd, rfl⟩⟩))
     go_ret
     exact ⟨by first | rfl | (simp [errW_none, errW_some] <;> rfl) | (simp [*, errW_none, errW_some] <;> rfl), by repeat (first | (with_reducible first | exact HB.out | apply below_alloc | apply pw_below_drewN | apply below_drew1 | refine below_set ?_ GE101.out) | exact HB.out)⟩
    ·rw [if_neg c7] at H
     have c7b0 : ((Go.bits .andNot .u8 a0_3 a0_2) == 0) = false := beq_eq_false_iff_ne.mpr c7
     have c7b1 : ((Go.bits .andNot .u8 a0_3 a0_2) != 0) = true := bne_iff_ne.mpr c7
     obtain rfl := Option.some.inj H
     go_enter Try.func20, Try.ntmps20
     go_wp2_with (first | ((with_reducible refine gate_dst (N := 1) rfl ?_); refine box_event ?hg (N := 1) ?hd (cs := #[.int .u16 a0_0, .int .u16 a0_1, .int .u8 a0_2, .int .u8 a0_3, .int .i64 a0_4]) (t := 24) ?hr ?_; (case hd => rfl); (case hg => rfl); (case hr => first | (go_simp; done) | (go_simp; rfl)); intro gb101 hg w11 hbox hb; have n0_ := Aside0.mk (below_step (by repeat (first | (with_reducible first | exact HB.out | apply below_alloc | apply pw_below_drewN | apply below_drew1) | exact HB.out)) hb); have n1_ := Aside0.mk (hbox); have n2_ := Aside0.mk ((by rw [hg]; exact (below_size (by repeat (first | (with_reducible first | exact HB.out | apply below_alloc | apply pw_below_drewN | apply below_drew1) | exact HB.out))) : w.heap.size ≤ gb101)); have n3_ := Aside0.mk ((by rw [hg]; exact (below_size (by repeat (first | (with_reducible first | exact HB.out | apply below_alloc | apply pw_below_drewN | apply below_drew1) | exact HB.out))) : w.heap.size ≤ gb101)); clear HB; have HB := n0_; have BK101 := n1_; have GW101 := n2_; have GE101 := n3_; clear n0_ n1_ n2_ n3_; clear hb hbox hg; have hcz12_0 : w11.cell? ⟨gb101, 0, none⟩ = some (.int .u16 a0_0) := (blk_cell BK101.out 0).trans rfl; have hcz12_1 : w11.cell? ⟨gb101, 1, none⟩ = some (.int .u16 a0_1) := (blk_cell BK101.out 1).trans rfl; have hcz12_2 : w11.cell? ⟨gb101, 2, none⟩ = some (.int .u8 a0_2) := (blk_cell BK101.out 2).trans rfl; have hcz12_3 : w11.cell? ⟨gb101, 3, none⟩ = some (.int .u8 a0_3) := (blk_cell BK101.out 3).trans rfl; have hcz12_4 : w11.cell? ⟨gb101, 4, none⟩ = some (.int .i64 a0_4) := (blk_cell BK101.out 4).trans rfl; have hfz12_0 := blk_frozen BK101.out 0; have hfz12_1 := blk_frozen BK101.out 1; have hfz12_2 := blk_frozen BK101.out 2; have hfz12_3 := blk_frozen BK101.out 3; have hfz12_4 := blk_frozen BK101.out 4) | (go_at_call 36; (with_reducible refine (impl_isHalf.calls (a0_2 / 16) true _ A3.out).mono ?_); rintro e w' ⟨rfl, ⟨nd, rfl⟩⟩) | (go_at_call 36; (with_reducible refine (impl_isHalf.calls (Go.bits .and .u8 a0_2 15) true _ A5.out).mono ?_); rintro e w' ⟨rfl, ⟨nd, rfl⟩⟩))
     go_ret
     exact ⟨by first | rfl | (simp [errW_none, errW_some] <;> rfl) | (simp [*, errW_none, errW_some] <;> rfl), by repeat (first | (with_reducible first | exact HB.out | apply below_alloc | apply pw_below_drewN | apply below_drew1 | refine below_set ?_ GE101.out) | exact HB.out)⟩
   ·replace c6 := Bool.eq_false_iff.mpr c6
    subst c6
    have H1 : (some false) = some r := by rw [if_neg (show ¬ (false = true) by decide)] at H; exact H
    clear H
    have H := H1
    clear H1
    obtain rfl := Option.some.inj H
    go_enter Try.func20, Try.ntmps20
    go_wp2_with (first | ((with_reducible refine gate_dst (N := 1) rfl ?_); refine box_event ?hg (N := 1) ?hd (cs := #[.int .u16 a0_0, .int .u16 a0_1, .int .u8 a0_2, .int .u8 a0_3, .int .i64 a0_4]) (t := 24) ?hr ?_; (case hd => rfl); (case hg => rfl); (case hr => first | (go_simp; done) | (go_simp; rfl)); intro gb101 hg w13 hbox hb; have n0_ := Aside0.mk (below_step (by repeat (first | (with_reducible first | exact HB.out | apply below_alloc | apply pw_below_drewN | apply below_drew1) | exact HB.out)) hb); have n1_ := Aside0.mk (hbox); have n2_ := Aside0.mk ((by rw [hg]; exact (below_size (by repeat (first | (with_reducible first | exact HB.out | apply below_alloc | apply pw_below_drewN | apply below_drew1) | exact HB.out))) : w.heap.size ≤ gb101)); have n3_ := Aside0.mk ((by rw [hg]; exact (below_size (by repeat (first | (with_reducible first | exact HB.out | apply below_alloc | apply pw_below_drewN | apply below_drew1) | exact HB.out))) : w.heap.size ≤ gb101)); clear HB; have HB := n0_; have BK101 := n1_; have GW101 := n2_; have GE101 := n3_; clear n0_ n1_ n2_ n3_; clear hb hbox hg; have hcz14_0 : w13.cell? ⟨gb101, 0, none⟩ = some (.int .u16 a0_0) := (blk_cell BK101.out 0).trans rfl; have hcz14_1 : w13.cell? ⟨gb101, 1, none⟩ = some (.int .u16 a0_1) := (blk_cell BK101.out 1).trans rfl; have hcz14_2 : w13.cell? ⟨gb101, 2, none⟩ = some (.int .u8 a0_2) := (blk_cell BK101.out 2).trans rfl; have hcz14_3 : w13.cell? ⟨gb101, 3, none⟩ = some (.int .u8 a0_3) := (blk_cell BK101.out 3).trans rfl; have hcz14_4 : w13.cell? ⟨gb101, 4, none⟩ = some (.int .i64 a0_4) := (blk_cell BK101.out 4).trans rfl; have hfz14_0 := blk_frozen BK101.out 0; have hfz14_1 := blk_frozen BK101.out 1; have hfz14_2 := blk_frozen BK101.out 2; have hfz14_3 := blk_frozen BK101.out 3; have hfz14_4 := blk_frozen BK101.out 4) | (go_at_call 36; (with_reducible refine (impl_isHalf.calls (a0_2 / 16) true _ A3.out).mono ?_); rintro e w' ⟨rfl, ⟨nd, rfl⟩⟩) | (go_at_call 36; (with_reducible refine (impl_isHalf.calls (Go.bits .and .u8 a0_2 15) false _ A5.out).mono ?_); rintro e w' ⟨rfl, ⟨nd, rfl⟩⟩))
    go_ret
    exact ⟨by first | rfl | (simp [errW_none, errW_some] <;> rfl) | (simp [*, errW_none, errW_some] <;> rfl), by repeat (first | (with_reducible first | exact HB.out | apply below_alloc | apply pw_below_drewN | apply below_drew1 | refine below_set ?_ GE101.out) | exact HB.out)⟩
  ·replace c4 := Bool.eq_false_iff.mpr c4
   subst c4
   have H1 : (some false) = some r := by rw [if_neg (show ¬ (false = true) by decide)] at H; exact H
   clear H
   have H := H1
   clear H1
   obtain rfl := Option.some.inj H
   go_enter Try.func20, Try.ntmps20
   go_wp2_with (first | ((with_reducible refine gate_dst (N := 1) rfl ?_); refine box_event ?hg (N := 1) ?hd (cs := #[.int .u16 a0_0, .int .u16 a0_1, .int .u8 a0_2, .int .u8 a0_3, .int .i64 a0_4]) (t := 24) ?hr ?_; (case hd => rfl); (case hg => rfl); (case hr => first | (go_simp; done) | (go_simp; rfl)); intro gb101 hg w15 hbox hb; have n0_ := Aside0.mk (below_step (by repeat (first | (with_reducible first | exact HB.out | apply below_alloc | apply pw_below_drewN | apply below_drew1) | exact HB.out)) hb); have n1_ := Aside0.mk (hbox); have n2_ := Aside0.mk ((by rw [hg]; exact (below_size (by repeat (first | (with_reducible first | exact HB.out | apply below_alloc | apply pw_below_drewN | apply below_drew1) | exact HB.out))) : w.heap.size ≤ gb101)); have n3_ := Aside0.mk ((by rw [hg]; exact (below_size (by repeat (first | (with_reducible first | exact HB.out | apply below_alloc | apply pw_below_drewN | apply below_drew1) | exact HB.out))) : w.heap.size ≤ gb101)); clear HB; have HB := n0_; have BK101 := n1_; have GW101 := n2_; have GE101 := n3_; clear n0_ n1_ n2_ n3_; clear hb hbox hg; have hcz16_0 : w15.cell? ⟨gb101, 0, none⟩ = some (.int .u16 a0_0) := (blk_cell BK101.out 0).trans rfl; have hcz16_1 : w15.cell? ⟨gb101, 1, none⟩ = some (.int .u16 a0_1) := (blk_cell BK101.out 1).trans rfl; have hcz16_2 : w15.cell? ⟨gb101, 2, none⟩ = some (.int .u8 a0_2) := (blk_cell BK101.out 2).trans rfl; have hcz16_3 : w15.cell? ⟨gb101, 3, none⟩ = some (.int .u8 a0_3) := (blk_cell BK101.out 3).trans rfl; have hcz16_4 : w15.cell? ⟨gb101, 4, none⟩ = some (.int .i64 a0_4) := (blk_cell BK101.out 4).trans rfl; have hfz16_0 := blk_frozen BK101.out 0; have hfz16_1 := blk_frozen BK101.out 1; have hfz16_2 := blk_frozen BK101.out 2; have hfz16_3 := blk_frozen BK101.out 3; have hfz16_4 := blk_frozen BK101.out 4) | (go_at_call 36; (with_reducible refine (impl_isHalf.calls (a0_2 / 16) false _ A3.out).mono ?_); rintro e w' ⟨rfl, ⟨nd, rfl⟩⟩))
   go_ret
   exact ⟨by first | rfl | (simp [errW_none, errW_some] <;> rfl) | (simp [*, errW_none, errW_some] <;> rfl), by repeat (first | (with_reducible first | exact HB.out | apply below_alloc | apply pw_below_drewN | apply below_drew1 | refine below_set ?_ GE101.out) | exact HB.out)⟩
 ·rw [if_neg c2] at H
  have c2b0 : decide (a0_0 ≤ a0_1) = false := decide_eq_false c2
  clear c2
  obtain rfl := Option.some.inj H
  go_enter Try.func20, Try.ntmps20
  go_wp2_with (first | ((with_reducible refine gate_dst (N := 1) rfl ?_); refine box_event ?hg (N := 1) ?hd (cs := #[.int .u16 a0_0, .int .u16 a0_1, .int .u8 a0_2, .int .u8 a0_3, .int .i64 a0_4]) (t := 24) ?hr ?_; (case hd => rfl); (case hg => rfl); (case hr => first | (go_simp; done) | (go_simp; rfl)); intro gb101 hg w17 hbox hb; have n0_ := Aside0.mk (below_step (by repeat (first | (with_reducible first | exact HB.out | apply below_alloc | apply pw_below_drewN | apply below_drew1) | exact HB.out)) hb); have n1_ := Aside0.mk (hbox); have n2_ := Aside0.mk ((by rw [hg]; exact (below_size (by repeat (first | (with_reducible first | exact HB.out | apply below_alloc | apply pw_below_drewN | apply below_drew1) | exact HB.out))) : w.heap.size ≤ gb101)); have n3_ := Aside0.mk ((by rw [hg]; exact (below_size (by repeat (first | (with_reducible first | exact HB.out | apply below_alloc | apply pw_below_drewN | apply below_drew1) | exact HB.out))) : w.heap.size ≤ gb101)); clear HB; have HB := n0_; have BK101 := n1_; have GW101 := n2_; have GE101 := n3_; clear n0_ n1_ n2_ n3_; clear hb hbox hg; have hcz18_0 : w17.cell? ⟨gb101, 0, none⟩ = some (.int .u16 a0_0) := (blk_cell BK101.out 0).trans rfl; have hcz18_1 : w17.cell? ⟨gb101, 1, none⟩ = some (.int .u16 a0_1) := (blk_cell BK101.out 1).trans rfl; have hcz18_2 : w17.cell? ⟨gb101, 2, none⟩ = some (.int .u8 a0_2) := (blk_cell BK101.out 2).trans rfl; have hcz18_3 : w17.cell? ⟨gb101, 3, none⟩ = some (.int .u8 a0_3) := (blk_cell BK101.out 3).trans rfl; have hcz18_4 : w17.cell? ⟨gb101, 4, none⟩ = some (.int .i64 a0_4) := (blk_cell BK101.out 4).trans rfl; have hfz18_0 := blk_frozen BK101.out 0; have hfz18_1 := blk_frozen BK101.out 1; have hfz18_2 := blk_frozen BK101.out 2; have hfz18_3 := blk_frozen BK101.out 3; have hfz18_4 := blk_frozen BK101.out 4))
  go_ret
  exact ⟨by first | rfl | (simp [errW_none, errW_some] <;> rfl) | (simp [*, errW_none, errW_some] <;> rfl), by repeat (first | (with_reducible first | exact HB.out | apply below_alloc | apply pw_below_drewN | apply below_drew1 | refine below_set ?_ GE101.out) | exact HB.out)⟩

/-! ### impl_HexText: function 21 -/
mutual
def impl_HexText.j0 : Nat → Int → Int → Bool → Option (ByteArray)
 | 0, _, _, _ => none
 | k + 1, x0, x1, x13 => if x13 = true then (some (⟨#[]⟩ : ByteArray)) else (if 0 ≤ x1 then (if (x1 : Int).toNat ≤ 281474976710656 then (impl_HexText.l0 k x0 (List.replicate (x1 : Int).toNat 0) (wrap64 (x1 - 1))) else (none)) else (none))
def impl_HexText.l0 : Nat → Int → List Int → Int → Option (ByteArray)
 | 0, _, _, _ => none
 | k + 1, x0, x5, x6 => if x6 ≥ 0 then (if 0 ≤ (Int.tmod x0 16) then (if (Int.tmod x0 16) < 16 then (if 0 ≤ x6 then (if x6 < (x5.length : Int) then (impl_HexText.l0 k (wrap64 (Int.tdiv x0 16)) (x5.set (x6 : Int).toNat (bt (⟨#[48, 49, 50, 51, 52, 53, 54, 55, 56, 57, 65, 66, 67, 68, 69, 70]⟩ : ByteArray) (Int.tmod x0 16))) (wrap64 (x6 - 1))) else (none)) else (none)) else (none)) else (none)) else (some (strOfNums x5))
end
def impl_HexText.f (k : Nat) (a0 : Int) (a1 : Int) : Option (ByteArray) := if a0 < 0 then (impl_HexText.j0 k a0 a1 true) else ((impl_within.f a1 1 8).bind fun t105 => (impl_HexText.j0 k a0 a1 (!t105)))
theorem impl_HexText.mono_l : ∀ k, (∀ y0 y1 y2, LeO (impl_HexText.j0 k y0 y1 y2) (impl_HexText.j0 (k + 1) y0 y1 y2)) ∧ (∀ y0 y1 y2, LeO (impl_HexText.l0 k y0 y1 y2) (impl_HexText.l0 (k + 1) y0 y1 y2))
 | 0 => ⟨fun _ _ _ r h => by simp [impl_HexText.j0] at h, fun _ _ _ r h => by simp [impl_HexText.l0] at h⟩
 | k + 1 => by
  obtain ⟨ih0, ih1⟩ := impl_HexText.mono_l k
  refine ⟨?_, ?_⟩
  ·intro y0 y1 y2
   unfold impl_HexText.j0
   repeat' first
   | (with_reducible exact ih0 _ _ _)
   | (with_reducible exact ih1 _ _ _)
   | (with_reducible exact LeO.refl _)
   | (with_reducible exact LeO.none _)
   | (with_reducible refine LeO.ite ?_ ?_)
   | (with_reducible refine LeO.bind ?_ (fun _ => ?_))
   | exact ih0 _ _ _
   | exact ih1 _ _ _
   | exact LeO.none _
   | refine LeO.ite ?_ ?_
   | refine LeO.bind ?_ (fun _ => ?_)
  ·intro y0 y1 y2
   unfold impl_HexText.l0
   repeat' first
   | (with_reducible exact ih0 _ _ _)
   | (with_reducible exact ih1 _ _ _)
   | (with_reducible exact LeO.refl _)
   | (with_reducible exact LeO.none _)
   | (with_reducible refine LeO.ite ?_ ?_)
   | (with_reducible refine LeO.bind ?_ (fun _ => ?_))
   | exact ih0 _ _ _
   | exact ih1 _ _ _
   | exact LeO.none _
   | refine LeO.ite ?_ ?_
   | refine LeO.bind ?_ (fun _ => ?_)
theorem impl_HexText.mono : ∀ a0 a1 k, LeO (impl_HexText.f k a0 a1) (impl_HexText.f (k + 1) a0 a1) := by
 intro a0 a1 k
 obtain ⟨ih0, ih1⟩ := impl_HexText.mono_l k
 unfold impl_HexText.f
 repeat' first
   | (with_reducible exact ih0 _ _ _)
   | (with_reducible exact ih1 _ _ _)
   | (with_reducible exact LeO.refl _)
   | (with_reducible exact LeO.none _)
   | (with_reducible refine LeO.ite ?_ ?_)
   | (with_reducible refine LeO.bind ?_ (fun _ => ?_))
   | exact ih0 _ _ _
   | exact ih1 _ _ _
   | exact LeO.none _
   | refine LeO.ite ?_ ?_
   | refine LeO.bind ?_ (fun _ => ?_)
set_option maxHeartbeats 8000000 in
set_option maxRecDepth 100000 in
theorem impl_HexText.calls (k : Nat) (a0 : Int) (a1 : Int) (r : ByteArray) (w : World) (h : impl_HexText.f k a0 a1 = some r) :
  Calls Try.prog 21 #[.int .i64 a0, .int .i64 a1] w fun e w' => e = .returned (.string r) ∧ Below w.heap.size w w' := by
 have HB := Aside0.mk (Below.refl w.heap.size w)
 have H : (if a0 < 0 then (impl_HexText.j0 k a0 a1 true) else ((impl_within.f a1 1 8).bind fun t105 => (impl_HexText.j0 k a0 a1 (!t105)))) = some r := h
 clear h
 have HC3 := Aside0.mk H
 clear H
 go_enter Try.func21, Try.ntmps21
 go_upto_region 1 with (fail)
 go_cut [13] (fun v13 wc => ∃ (kq : Nat) (x13_2 : Bool), v13 = .bool x13_2 ∧ Aside0 (impl_HexText.j0 kq a0 a1 x13_2 = some r) ∧ Aside0 (kq ≤ k) ∧ Aside0 (Below w.heap.size w wc))
 case first =>
  have H := HC3.out
  clear HC3
  by_cases c4 : a0 < 0
  ·rw [if_pos c4] at H
   have c4b0 : decide (a0 < 0) = true := decide_eq_true c4
   clear c4
   (first | rw [c4b0] | (simp only [i64_w, i32_w]; rw [c4b0]) | skip)
   have H' := Aside0.mk H
   clear H
   go_wp2
   go_meet
   case rel => exact ⟨_, (true), (by first | rfl | (simp; done) | (simp [*]; done)), H', ⟨by first | omega | exact Nat.le_refl _⟩, ⟨by repeat (first | (with_reducible first | exact HB.out | apply below_alloc | apply pw_below_drewN | apply below_drew1) | exact HB.out)⟩⟩
  ·rw [if_neg c4] at H
   have c4b0 : decide (a0 < 0) = false := decide_eq_false c4
   clear c4
   (first | rw [c4b0] | (simp only [i64_w, i32_w]; rw [c4b0]) | skip)
   replace H := Option.bind_eq_some_iff.mp H
   obtain ⟨t105, A50, H⟩ := H
   replace H : (impl_HexText.j0 k a0 a1 (!t105)) = some r := H
   have A5 := Aside0.mk A50
   clear A50
   have H' := Aside0.mk H
   clear H
   go_wp2_with (first | (go_at_call 31; (with_reducible refine (impl_within.calls a1 1 8 t105 _ A5.out).mono ?_); rintro e w' ⟨rfl, ⟨nd, rfl⟩⟩))
   go_meet
   case rel => exact ⟨_, (!t105), (by first | rfl | (simp; done) | (simp [*]; done)), H', ⟨by first | omega | exact Nat.le_refl _⟩, ⟨by repeat (first | (with_reducible first | exact HB.out | apply below_alloc | apply pw_below_drewN | apply below_drew1) | exact HB.out)⟩⟩
 case rest =>
  clear HC3
  try clear c2
  try clear p2
  try clear c4
  try clear c4b0
  obtain ⟨kq, x13_2, rfl, HA, HJ2, HB⟩ := hcut
  cases kq with
  | zero => exact absurd HA.out (by simp [impl_HexText.j0])
  | succ kj2 =>
   have H := HA.out
   clear HA
   simp only [impl_HexText.j0] at H
   by_cases c6 : x13_2 = true
   ·subst c6
    have H1 : (some (⟨#[]⟩ : ByteArray)) = some r := by rw [if_pos rfl] at H; exact H
    clear H
    have H := H1
    clear H1
    obtain rfl := Option.some.inj H
    go_wp2
    go_ret
    exact ⟨by first | rfl | (simp [errW_none, errW_some] <;> rfl) | (simp [*, errW_none, errW_some] <;> rfl), by repeat (first | (with_reducible first | exact HB.out | apply below_alloc | apply pw_below_drewN | apply below_drew1) | exact HB.out)⟩
   ·replace c6 := Bool.eq_false_iff.mpr c6
    subst c6
    have H1 : (if 0 ≤ a1 then (if (a1 : Int).toNat ≤ 281474976710656 then (impl_HexText.l0 kj2 a0 (List.replicate (a1 : Int).toNat 0) (wrap64 (a1 - 1))) else (none)) else (none)) = some r := by rw [if_neg (show ¬ (false = true) by decide)] at H; exact H
    clear H
    have H := H1
    clear H1
    by_cases c7 : 0 ≤ a1
    ·rw [if_pos c7] at H
     have c7b0 := eq_true c7
     have c7b1 : decide (0 ≤ a1) = true := decide_eq_true c7
     clear c7
     by_cases c8 : (a1 : Int).toNat ≤ 281474976710656
     ·rw [if_pos c8] at H
      have c8b0 := eq_true c8
      have c8b1 : decide ((a1 : Int).toNat ≤ 281474976710656) = true := decide_eq_true c8
      clear c8
      obtain ⟨y106, hy106⟩ : ∃ y_ : List Int, y_ = (List.replicate (a1 : Int).toNat 0) := ⟨_, rfl⟩
      replace H : (impl_HexText.l0 kj2 a0 y106 (wrap64 (a1 - 1))) = some r := by first | (rw [hy106]; with_reducible exact H) | (have H2_ := (Option.bind_some _ _).symm.trans H; rw [hy106]; with_reducible exact H2_) | (have H2_ := (Option.bind_some _ _).symm.trans H; with_reducible exact H2_) | with_reducible exact H | (rw [hy106]; exact H) | exact H
      have Ny106 := Aside0.mk hy106
      clear hy106
      have H' := Aside0.mk H
      clear H
      go_wp2_with (first | ((with_reducible refine gate_dst (N := 15) rfl ?_); refine Kd.R_make (Kd.int .u8) _ 5 rfl (N := 15) rfl 29 _ _ rfl a1 rfl rfl Try.underlying29 (.int .u8 0) 1 info5 rfl (by decide) (by omega) 0 (ok := fun _ => True) (okp := fun _ => True) rfl (fun _ hk => hk) trivial (of_decide_eq_true (by first | (with_reducible assumption) | assumption)) (Nat.le_trans (Nat.mul_le_mul_right _ (of_decide_eq_true (by first | (with_reducible assumption) | assumption) : a1.toNat ≤ 281474976710656)) (by omega)) (Below.refl _ _) (Nat.le_refl _) ?_; intro v107 w9 ho10 hb hg_ hnew_; clear hg_ hnew_; (first | rw [← Ny106.out] at ho10 | (simp only [Int.reduceToNat] at ho10; rw [← Ny106.out] at ho10)); have n0_ := Aside0.mk (Kd.R_lower ho10 (below_size (by repeat (first | (with_reducible first | exact HB.out | apply below_alloc | apply pw_below_drewN | apply below_drew1) | exact HB.out)))); have n1_ := Aside0.mk (below_step (by repeat (first | (with_reducible first | exact HB.out | apply below_alloc | apply pw_below_drewN | apply below_drew1) | exact HB.out)) hb); clear HB; have HO108 := n0_; have HB := n1_; clear n0_ n1_; clear hb ho10))
      go_loopg [0, 6] kj2 (fun kq v0 v6 w' => ∃ (x0_2 : Int) (x5_2 : List Int) (x6_2 : Int), v0 = .int .i64 x0_2 ∧ v6 = .int .i64 x6_2 ∧ Aside0 (impl_HexText.l0 kq x0_2 x5_2 x6_2 = some r) ∧ Aside0 (kq ≤ kj2) ∧ Aside0 (Kd.R (Kd.int .u8) 5 w' w.heap.size (fun _ => True) v107 x5_2) ∧ Aside0 (Below w.heap.size w w'))
      case atStart => exact ⟨(a0), (y106), (wrap64 (a1 - 1)), (by first | rfl | (simp; done) | (simp [*]; done)), (by first | rfl | (simp; done) | (simp [*]; done)), H', ⟨Nat.le_refl _⟩, ⟨by (with_reducible repeat (first | apply Kd.R_alloc | apply Kd.R_drewN | apply Kd.R_drew)); exact HO108.out⟩, ⟨by repeat (first | (with_reducible first | exact HB.out | apply below_alloc | apply pw_below_drewN | apply below_drew1) | exact HB.out)⟩⟩
      case round =>
       clear H'
       try clear c2
       try clear p2
       try clear c4
       try clear c4b0
       try clear c6
       try clear p6
       try clear c7
       try clear c7b0
       try clear c7b1
       try clear c8
       try clear c8b0
       try clear c8b1
       try clear p2
       obtain ⟨x0_2, x5_2, x6_2, rfl, rfl, HA, HK2, HO_5, HB⟩ := hrel
       cases gk with
       | zero => exact absurd HA.out (by simp [impl_HexText.l0])
       | succ k2 =>
        have H := HA.out
        clear HA
        simp only [impl_HexText.l0] at H
        by_cases c11 : x6_2 ≥ 0
        ·rw [if_pos c11] at H
         have c11b0 : decide (0 ≤ x6_2) = true := decide_eq_true c11
         clear c11
         obtain ⟨ji12, hji12⟩ : ∃ j_ : Int, (Int.tmod x0_2 16) = j_ := ⟨_, rfl⟩
         replace H : (if 0 ≤ (ji12) then (if (ji12) < 16 then (if 0 ≤ x6_2 then (if x6_2 < (x5_2.length : Int) then (impl_HexText.l0 k2 (wrap64 (Int.tdiv x0_2 16)) (x5_2.set (x6_2 : Int).toNat (bt (⟨#[48, 49, 50, 51, 52, 53, 54, 55, 56, 57, 65, 66, 67, 68, 69, 70]⟩ : ByteArray) (ji12))) (wrap64 (x6_2 - 1))) else (none)) else (none)) else (none)) else (none)) = some r := by first | (rw [hji12] at H; exact H) | (simp only [hji12] at H ⊢; exact H)
         by_cases c13 : 0 ≤ (ji12)
         ·rw [if_pos c13] at H
          have c13b0 : decide (0 ≤ (ji12)) = true := decide_eq_true c13
          clear c13
          by_cases c14 : (ji12) < 16
          ·rw [if_pos c14] at H
           have c14b0 : decide ((ji12) < 16) = true := decide_eq_true c14
           clear c14
           by_cases c16 : 0 ≤ x6_2
           ·rw [if_pos c16] at H
            have c16b0 : decide (0 ≤ x6_2) = true := decide_eq_true c16
            clear c16
            by_cases c17 : x6_2 < (x5_2.length : Int)
            ·rw [if_pos c17] at H
             have c17b0 : decide (x6_2 < (x5_2.length : Int)) = true := decide_eq_true c17
             clear c17
             obtain ⟨y109, hy109⟩ : ∃ y_ : List Int, y_ = (x5_2.set (x6_2 : Int).toNat (bt (⟨#[48, 49, 50, 51, 52, 53, 54, 55, 56, 57, 65, 66, 67, 68, 69, 70]⟩ : ByteArray) (ji12))) := ⟨_, rfl⟩
             replace H : (impl_HexText.l0 k2 (wrap64 (Int.tdiv x0_2 16)) y109 (wrap64 (x6_2 - 1))) = some r := by first | (rw [hy109]; with_reducible exact H) | (have H2_ := (Option.bind_some _ _).symm.trans H; rw [hy109]; with_reducible exact H2_) | (have H2_ := (Option.bind_some _ _).symm.trans H; with_reducible exact H2_) | with_reducible exact H | (rw [hy109]; exact H) | exact H
             have Ny109 := Aside0.mk hy109
             clear hy109
             have H' := Aside0.mk H
             clear H
             have p15 : 0 ≤ ((ji12) : Int) := of_decide_eq_true (by first | (with_reducible assumption) | assumption)
             have q15 : (ji12) < (16 : Int) := of_decide_eq_true (by first | (with_reducible assumption) | assumption)
             have hx15 := bt_at (⟨#[48, 49, 50, 51, 52, 53, 54, 55, 56, 57, 65, 66, 67, 68, 69, 70]⟩ : ByteArray) (ji12)
             replace p15 := eq_true p15
             replace q15 := eq_true q15
             have p18 : 0 ≤ (x6_2 : Int) := of_decide_eq_true (by first | (with_reducible assumption) | assumption)
             have q18 : (x6_2 : Int) < ((x5_2.length : Int) : Int) := of_decide_eq_true (by first | (with_reducible assumption) | assumption)
             obtain ⟨go18, co18, eo18, gb18, gl18, cl18, HG18⟩ := Kd.R_form HO_5.out (by omega)
             (first | cases eo18 | (injection eo18 with ea_ en_ ec_; (first | subst ea_ | (injection ea_ with ea_; subst ea_)); subst ec_; clear en_))
             have GB18 := Aside0.mk gb18
             have GG18 := Aside0.mk HG18
             clear gb18 gl18 HG18
             obtain ⟨hx18_0, hf18_0⟩ := Kd.R_celln 0 HO_5.out (x6_2 : Int) p18 q18
             replace p18 := eq_true p18
             replace q18 := eq_true q18
             have HP19 := Kd.R_putg HO_5.out (x6_2 : Int) (bt (⟨#[48, 49, 50, 51, 52, 53, 54, 55, 56, 57, 65, 66, 67, 68, 69, 70]⟩ : ByteArray) (ji12))
             go_wp2_with (first | ((with_reducible refine gate_store (t := 5) (p := 27) rfl ?_); refine store_event (t := 5) (p := 27) (v := ?vo_w20) (w1 := (wr.setCell ⟨go18, (x6_2 : Int).toNat, none⟩ (.int .u8 (bt (⟨#[48, 49, 50, 51, 52, 53, 54, 55, 56, 57, 65, 66, 67, 68, 69, 70]⟩ : ByteArray) (ji12))))) ?hg ?ho ?hn ?hr ?_; (case ho => rfl); (case hg => rfl); (case hn => rfl); (case hr => first | (go_simp; done) | (go_simp; rfl)); intro w20 hw; have hg : wr.grownBy w20 (some go18) := (by rw [hw]; exact HP19.2); have hp_ : Kd.R (Kd.int .u8) 5 w20 w.heap.size (fun _ => True) (.slice (some ⟨go18, 0, none⟩) x5_2.length co18) y109 := (by rw [hw, Ny109.out]; exact HP19.1); clear HP19; have n0_ := Aside0.mk (hp_); have n1_ := Aside0.mk ((by rw [hw]; exact below_set (HB.out) GB18.out : Below w.heap.size w w20)); clear HO_5; clear HB; have HO_5 := n0_; have HB := n1_; clear n0_ n1_; clear hg hw hp_))
             go_roundg k2
             case measure => have := HJ2.out; have := HK2.out; omega
             case rel => exact ⟨(wrap64 (Int.tdiv x0_2 16)), (y109), (wrap64 (x6_2 - 1)), (by first | rfl | (simp; done) | (simp [*]; done)), (by first | rfl | (simp; done) | (simp [*]; done)), H', ⟨by have := HJ2.out; have := HK2.out; omega⟩, ⟨by (with_reducible repeat (first | apply Kd.R_alloc | apply Kd.R_drewN | apply Kd.R_drew)); exact HO_5.out⟩, ⟨by repeat (first | (with_reducible first | exact HB.out | apply below_alloc | apply pw_below_drewN | apply below_drew1) | exact HB.out)⟩⟩
            ·rw [if_neg c17] at H
             exact absurd H (by simp)
           ·rw [if_neg c16] at H
            exact absurd H (by simp)
          ·rw [if_neg c14] at H
           exact absurd H (by simp)
         ·rw [if_neg c13] at H
          exact absurd H (by simp)
        ·rw [if_neg c11] at H
         have c11b0 : decide (0 ≤ x6_2) = false := decide_eq_false c11
         clear c11
         obtain rfl := Option.some.inj H
         have hcv21 := own_string (P := Try.prog) Try.underlying29 Try.underlying5 Try.underlying9 (Kd.own_of_R HO_5.out)
         go_wp2
         go_ret
         exact ⟨by first | rfl | (simp [errW_none, errW_some] <;> rfl) | (simp [*, errW_none, errW_some] <;> rfl), by repeat (first | (with_reducible first | exact HB.out | apply below_alloc | apply pw_below_drewN | apply below_drew1) | exact HB.out)⟩
     ·rw [if_neg c8] at H
      exact absurd H (by simp)
    ·rw [if_neg c7] at H
     exact absurd H (by simp)

/-! ### impl_RuleText: function 10 -/
open Go.Proofs.Ytkngnnfjdmndeaa.RowTwo
def impl_RuleText.out (x y : ByteArray) (m0 m1 : UInt8) (a4 : Int) : ByteArray := ((((((x ++ (⟨#[45]⟩ : ByteArray)) ++ y) ++ (⟨#[32]⟩ : ByteArray)) ++ (⟨#[m0, m1]⟩ : ByteArray)) ++ (⟨#[32]⟩ : ByteArray)) ++ ((⟨#[114, 119, 120]⟩ : ByteArray).extract (a4 : Int).toNat ((wrap64 (a4 + 1)) : Int).toNat))
def impl_RuleText.f (k : Nat) (a0_0 : Int) (a0_1 : Int) (a0_2 : Int) (a0_3 : Int) (a0_4 : Int) : Option (ByteArray) := (impl_RuleOk.f a0_0 a0_1 a0_2 a0_3 a0_4).bind fun t => (if t = true then ((impl_HexText.f k (wrap64 (a0_3)) 2).bind fun t2 => (if t2.size = 2 then ((impl_HexText.f k (wrap64 (a0_0)) 4).bind fun x => ((impl_HexText.f k (wrap64 (a0_1)) 4).bind fun y => (if x.size ≤ 1000 ∧ y.size ≤ 1000 ∧ 0 ≤ a0_4 ∧ a0_4 ≤ 2 then (some (impl_RuleText.out x y (if a0_2 / 16 = 0 then 63 else bAt t2 0) (if (Go.bits .and .u8 a0_2 15) = 0 then 63 else bAt t2 1) a0_4)) else (none)))) else (none))) else (some (⟨#[]⟩ : ByteArray)))
theorem impl_RuleText.mono : ∀ a0 a1 a2 a3 a4 k, LeO (impl_RuleText.f k a0 a1 a2 a3 a4) (impl_RuleText.f (k + 1) a0 a1 a2 a3 a4) := by
  intro a0 a1 a2 a3 a4 k
  unfold impl_RuleText.f
  refine LeO.bind (LeO.refl _) (fun _ => ?_)
  refine LeO.ite ?_ (LeO.refl _)
  refine LeO.bind (impl_HexText.mono _ _ _) (fun _ => ?_)
  refine LeO.ite ?_ (LeO.none _)
  refine LeO.bind (impl_HexText.mono _ _ _) (fun _ => ?_)
  refine LeO.bind (impl_HexText.mono _ _ _) (fun _ => ?_)
  exact LeO.refl _
def impl_RuleText.T8 : Bool × List (List Nat × List Nat) := (true, [([], []), ([0], [0]), ([1], [1]), ([2], [2]), ([3], [3]), ([], []), ([5], [5]), ([6], [6]), ([7, 3], [7]), ([4, 8], [4, 8]), ([9], [9]), ([], []), ([11], [11]), ([10, 12], [10, 12]), ([13], [13]), ([], []), ([15], [15]), ([], []), ([17], [17]), ([18], [18]), ([16, 19], [16, 19]), ([14, 20], [14, 20]), ([21, 8, 0, 1, 2, 3, 4, 5, 6, 7, 8, 9, 10, 11, 12, 13, 14, 15, 16, 17, 18, 19, 20, 21], [21])])
def impl_RuleText.B8 : List Nat := [0, 1, 3, 7, 15, 0, 32, 96, 239, 511, 1023, 0, 2048, 8191, 16383, 0, 32768, 0, 131072, 393216, 1015808, 2097151, 4194303]
theorem impl_RuleText.tab8 : rtab .any (opsOf Try.f10 8) = impl_RuleText.T8 := by kernel_rfl
theorem impl_RuleText.bits8 : waitsOk impl_RuleText.T8.2 impl_RuleText.B8 = true := by kernel_rfl
set_option maxHeartbeats 8000000 in
set_option maxRecDepth 100000 in
theorem impl_RuleText.calls (k : Nat) (a0_0 : Int) (a0_1 : Int) (a0_2 : Int) (a0_3 : Int) (a0_4 : Int) (r : ByteArray) (w : World) (h : impl_RuleText.f k a0_0 a0_1 a0_2 a0_3 a0_4 = some r) :
    Calls Try.prog 10 #[.agg #[.int .u16 a0_0, .int .u16 a0_1, .int .u8 a0_2, .int .u8 a0_3, .int .i64 a0_4]] w fun e w' => e = .returned (.string r) ∧ Below w.heap.size w w' := by
  have hu26 := Try.underlying24
  have HB := Aside0.mk (Below.refl w.heap.size w)
  unfold impl_RuleText.f at h
  obtain ⟨t, A20, h⟩ := Option.bind_eq_some_iff.mp h
  have A2 := Aside0.mk A20
  clear A20
  by_cases c3 : t = true
  · subst c3
    rw [if_pos rfl] at h
    obtain ⟨t2, A40, h⟩ := Option.bind_eq_some_iff.mp h
    have A4 := Aside0.mk A40
    clear A40
    by_cases c5 : t2.size = 2
    · rw [if_pos c5] at h
      obtain ⟨x, A60, h⟩ := Option.bind_eq_some_iff.mp h
      have A6 := Aside0.mk A60
      clear A60
      obtain ⟨y, A70, h⟩ := Option.bind_eq_some_iff.mp h
      have A7 := Aside0.mk A70
      clear A70
      by_cases c8 : x.size ≤ 1000 ∧ y.size ≤ 1000 ∧ 0 ≤ a0_4 ∧ a0_4 ≤ 2
      · rw [if_pos c8] at h
        have C5 := Aside0.mk c5
        have C8 := Aside0.mk c8
        have H := Aside0.mk (Option.some.inj h).symm
        clear h c5 c8
        go_enter Try.func10, Try.ntmps10
        go_upto_if 15 with (first | ((with_reducible refine gate_dst (N := 1) rfl ?_); refine box_event ?hg (N := 1) ?hd (cs := #[.int .u16 a0_0, .int .u16 a0_1, .int .u8 a0_2, .int .u8 a0_3, .int .i64 a0_4]) (t := 24) ?hr ?_; (case hd => rfl); (case hg => rfl); (case hr => first | (go_simp; done) | (go_simp; rfl)); intro gb1 hg w6 hbox hb; have n0_ := Aside0.mk (below_step (by repeat (first | (with_reducible first | exact HB.out | apply below_alloc | apply pw_below_drewN | apply below_drew1) | exact HB.out)) hb); have BK1 := Aside0.mk (hbox); have GE1 := Aside0.mk ((by rw [hg]; exact (below_size (by repeat (first | (with_reducible first | exact HB.out | apply below_alloc | apply pw_below_drewN | apply below_drew1) | exact HB.out))) : w.heap.size ≤ gb1)); clear HB; have HB := n0_; clear n0_; clear hb hbox hg; have hcz7_0 : w6.cell? ⟨gb1, 0, none⟩ = some (.int .u16 a0_0) := (blk_cell BK1.out 0).trans rfl; have hcz7_1 : w6.cell? ⟨gb1, 1, none⟩ = some (.int .u16 a0_1) := (blk_cell BK1.out 1).trans rfl; have hcz7_2 : w6.cell? ⟨gb1, 2, none⟩ = some (.int .u8 a0_2) := (blk_cell BK1.out 2).trans rfl; have hcz7_3 : w6.cell? ⟨gb1, 3, none⟩ = some (.int .u8 a0_3) := (blk_cell BK1.out 3).trans rfl; have hcz7_4 : w6.cell? ⟨gb1, 4, none⟩ = some (.int .i64 a0_4) := (blk_cell BK1.out 4).trans rfl) | (go_at_call 20; (with_reducible refine (impl_RuleOk.calls a0_0 a0_1 a0_2 a0_3 a0_4 true _ A2.out).mono ?_); rintro e w8 ⟨rfl, hb⟩; have n0_ := Aside0.mk (blk_below (g := gb1) (o := .cells #[.int .u16 a0_0, .int .u16 a0_1, .int .u8 a0_2, .int .u8 a0_3, .int .i64 a0_4] 24 (0, 0)) (by (with_reducible repeat (first | refine blk_drewN ?_ _ | refine blk_drew ?_ | refine blk_alloc ?_ _)); exact BK1.out) hb); have n1_ := Aside0.mk (below_step (by repeat (first | (with_reducible first | exact HB.out | apply below_alloc | apply pw_below_drewN | apply below_drew1 | refine below_set ?_ GE1.out) | exact HB.out)) hb); clear BK1; clear HB; have BK1 := n0_; have HB := n1_; clear n0_ n1_; (try clear hb); have hcz9_3 : w8.cell? ⟨gb1, 3, none⟩ = some (.int .u8 a0_3) := (blk_cell BK1.out 3).trans rfl) | (go_at_call 21; (with_reducible refine (impl_HexText.calls k (wrap64 (a0_3)) 2 t2 _ A4.out).mono ?_); rintro e w10 ⟨rfl, hb⟩; have n0_ := Aside0.mk (blk_below (g := gb1) (o := .cells #[.int .u16 a0_0, .int .u16 a0_1, .int .u8 a0_2, .int .u8 a0_3, .int .i64 a0_4] 24 (0, 0)) (by (with_reducible repeat (first | refine blk_drewN ?_ _ | refine blk_drew ?_ | refine blk_alloc ?_ _)); exact BK1.out) hb); have n1_ := Aside0.mk (below_step (by repeat (first | (with_reducible first | exact HB.out | apply below_alloc | apply pw_below_drewN | apply below_drew1 | refine below_set ?_ GE1.out) | exact HB.out)) hb); clear BK1; clear HB; have BK1 := n0_; have HB := n1_; clear n0_ n1_; (try clear hb)) | ((with_reducible refine gate_dst (N := 11) rfl ?_); refine conv_event ?hg (N := 11) ?hd (s := t2) C5.out (src := 9) (dst := 29) ?h1 ?h2 ?h3 (x := .tmp 10) ?ho ?hx ?_; (case hg => rfl); (case hd => rfl); (case h1 => rfl); (case h2 => rfl); (case h3 => rfl); (case ho => rfl); (case hx => rfl); intro gr hg cap w12 hrow hb; have n0_ := Aside0.mk (blk_below (g := gb1) (o := .cells #[.int .u16 a0_0, .int .u16 a0_1, .int .u8 a0_2, .int .u8 a0_3, .int .i64 a0_4] 24 (0, 0)) (by (with_reducible repeat (first | refine blk_drewN ?_ _ | refine blk_drew ?_ | refine blk_alloc ?_ _)); exact BK1.out) hb); have NE := Aside0.mk (show gb1 ≠ gr by have := blk_lt BK1.out; omega); have GR := Aside0.mk (show w.heap.size ≤ gr by have := HB.out.size; omega); have n1_ := Aside0.mk (below_step (by repeat (first | (with_reducible first | exact HB.out | apply below_alloc | apply pw_below_drewN | apply below_drew1 | refine below_set ?_ GE1.out) | exact HB.out)) hb); clear BK1; clear HB; have BK1 := n0_; have HB := n1_; have HW := Aside0.mk hrow; clear n0_ n1_; clear hb hg hrow; have hcz13_2 : w12.cell? ⟨gb1, 2, none⟩ = some (.int .u8 a0_2) := (blk_cell BK1.out 2).trans rfl))
        go_cut [] (fun wc => Aside0 (Row2 wc gr (if a0_2 / 16 = 0 then 63 else bAt t2 0) (bAt t2 1)) ∧ Aside0 (wc.heap[gb1]? = some (.cells #[.int .u16 a0_0, .int .u16 a0_1, .int .u8 a0_2, .int .u8 a0_3, .int .i64 a0_4] 24 (0, 0))) ∧ Aside0 (Below w.heap.size w wc))
        case first =>
          have hc := HW.out.cell0
          have hf := HW.out.frozen 0 (by omega)
          by_cases c : a0_2 / 16 = 0
          · rw [show (a0_2 / 16 == 0) = true from beq_iff_eq.mpr c]
            go_wp2
            go_meet
            case rel => exact ⟨⟨by rw [if_pos c]; exact HW.out.set0 63⟩, ⟨blk_far BK1.out NE.out _⟩, ⟨below_set HB.out GR.out⟩⟩
          · rw [show (a0_2 / 16 == 0) = false from beq_eq_false_iff_ne.mpr c]
            go_wp2
            go_meet
            case rel => exact ⟨⟨by rw [if_neg c]; exact HW.out⟩, ⟨BK1.out⟩, ⟨HB.out⟩⟩
        case rest =>
          clear HW BK1 HB
          (try clear hcz7_0); (try clear hcz7_1); (try clear hcz7_2); (try clear hcz7_3); (try clear hcz7_4); (try clear hcz9_3); (try clear hcz13_2)
          obtain ⟨HW, BK1, HB⟩ := hcut
          have hcz13_2 : wc.cell? ⟨gb1, 2, none⟩ = some (.int .u8 a0_2) := (blk_cell BK1.out 2).trans rfl
          go_upto_if 21 with (fail)
          go_cut [] (fun wd => Aside0 (Row2 wd gr (if a0_2 / 16 = 0 then 63 else bAt t2 0) (if (Go.bits .and .u8 a0_2 15) = 0 then 63 else bAt t2 1)) ∧ Aside0 (wd.heap[gb1]? = some (.cells #[.int .u16 a0_0, .int .u16 a0_1, .int .u8 a0_2, .int .u8 a0_3, .int .i64 a0_4] 24 (0, 0))) ∧ Aside0 (Below w.heap.size w wd))
          case first =>
            have hc := HW.out.cell1
            have hf := HW.out.frozen 1 (by omega)
            by_cases c : (Go.bits .and .u8 a0_2 15) = 0
            · rw [show ((Go.bits .and .u8 a0_2 15) == 0) = true from beq_iff_eq.mpr c]
              go_wp2
              go_meet
              case rel => exact ⟨⟨by rw [if_pos c]; exact HW.out.set1 63⟩, ⟨blk_far BK1.out NE.out _⟩, ⟨below_set HB.out GR.out⟩⟩
            · rw [show ((Go.bits .and .u8 a0_2 15) == 0) = false from beq_eq_false_iff_ne.mpr c]
              go_wp2
              go_meet
              case rel => exact ⟨⟨by rw [if_neg c]; exact HW.out⟩, ⟨BK1.out⟩, ⟨HB.out⟩⟩
          case rest =>
            clear HW BK1 HB hcz13_2
            obtain ⟨HW, BK1, HB⟩ := hcut
            generalize (if a0_2 / 16 = 0 then 63 else bAt t2 0) = m0 at HW H
            generalize (if (Go.bits .and .u8 a0_2 15) = 0 then 63 else bAt t2 1) = m1 at HW H
            obtain ⟨hx, hy, h0, h2⟩ := C8.out
            have s45 : (⟨#[45]⟩ : ByteArray).size = 1 := rfl
            have s32 : (⟨#[32]⟩ : ByteArray).size = 1 := rfl
            have sm : (⟨#[m0, m1]⟩ : ByteArray).size = 2 := rfl
            have se : ((⟨#[114, 119, 120]⟩ : ByteArray).extract (a0_4 : Int).toNat ((wrap64 (a0_4 + 1)) : Int).toNat).size ≤ 3 := by rw [ByteArray.size_extract]; have : (⟨#[114, 119, 120]⟩ : ByteArray).size = 3 := rfl; omega
            have e1 : x.size + (⟨#[45]⟩ : ByteArray).size ≤ 9223372036854775807 := by simp only [ByteArray.size_append, s45, s32, sm]; omega
            have e1b1 : x.size + 1 ≤ 9223372036854775807 := e1
            have e1b2 : (9223372036854775807 < x.size + 1) = False := eq_false (Nat.not_lt.2 e1)
            have e1b7 : x.size + 1 ≤ 9223372036854775807 := by have h_ := e1; (try simp only [ByteArray.size_append] at h_); exact h_
            have e1b8 := eq_false (Nat.not_lt.2 e1b7)
            have e1b9 := decide_eq_true e1b1
            have e1bA := decide_eq_true e1b7
            replace e1b7 := eq_true e1b7
            replace e1b1 := eq_true e1b1
            clear e1
            have e2 : (x ++ (⟨#[45]⟩ : ByteArray)).size + y.size ≤ 9223372036854775807 := by simp only [ByteArray.size_append, s45, s32, sm]; omega
            have e2b1 : (x ++ (⟨#[45]⟩ : ByteArray)).size + y.size ≤ 9223372036854775807 := e2
            have e2b2 : (9223372036854775807 < (x ++ (⟨#[45]⟩ : ByteArray)).size + y.size) = False := eq_false (Nat.not_lt.2 e2)
            have e2b7 : x.size + 1 + y.size ≤ 9223372036854775807 := by have h_ := e2; (try simp only [ByteArray.size_append] at h_); exact h_
            have e2b8 := eq_false (Nat.not_lt.2 e2b7)
            have e2b9 := decide_eq_true e2b1
            have e2bA := decide_eq_true e2b7
            replace e2b7 := eq_true e2b7
            replace e2b1 := eq_true e2b1
            clear e2
            have e3 : ((x ++ (⟨#[45]⟩ : ByteArray)) ++ y).size + (⟨#[32]⟩ : ByteArray).size ≤ 9223372036854775807 := by simp only [ByteArray.size_append, s45, s32, sm]; omega
            have e3b1 : ((x ++ (⟨#[45]⟩ : ByteArray)) ++ y).size + 1 ≤ 9223372036854775807 := e3
            have e3b2 : (9223372036854775807 < ((x ++ (⟨#[45]⟩ : ByteArray)) ++ y).size + 1) = False := eq_false (Nat.not_lt.2 e3)
            have e3b7 : x.size + 1 + y.size + 1 ≤ 9223372036854775807 := by have h_ := e3; (try simp only [ByteArray.size_append] at h_); exact h_
            have e3b8 := eq_false (Nat.not_lt.2 e3b7)
            have e3b9 := decide_eq_true e3b1
            have e3bA := decide_eq_true e3b7
            replace e3b7 := eq_true e3b7
            replace e3b1 := eq_true e3b1
            clear e3
            have e4 : (((x ++ (⟨#[45]⟩ : ByteArray)) ++ y) ++ (⟨#[32]⟩ : ByteArray)).size + (⟨#[m0, m1]⟩ : ByteArray).size ≤ 9223372036854775807 := by simp only [ByteArray.size_append, s45, s32, sm]; omega
            have e4b1 : (((x ++ (⟨#[45]⟩ : ByteArray)) ++ y) ++ (⟨#[32]⟩ : ByteArray)).size + 2 ≤ 9223372036854775807 := e4
            have e4b2 : (9223372036854775807 < (((x ++ (⟨#[45]⟩ : ByteArray)) ++ y) ++ (⟨#[32]⟩ : ByteArray)).size + 2) = False := eq_false (Nat.not_lt.2 e4)
            have e4b7 : x.size + 1 + y.size + 1 + 2 ≤ 9223372036854775807 := by have h_ := e4; (try simp only [ByteArray.size_append] at h_); exact h_
            have e4b8 := eq_false (Nat.not_lt.2 e4b7)
            have e4b9 := decide_eq_true e4b1
            have e4bA := decide_eq_true e4b7
            replace e4b7 := eq_true e4b7
            replace e4b1 := eq_true e4b1
            clear e4
            have e5 : ((((x ++ (⟨#[45]⟩ : ByteArray)) ++ y) ++ (⟨#[32]⟩ : ByteArray)) ++ (⟨#[m0, m1]⟩ : ByteArray)).size + (⟨#[32]⟩ : ByteArray).size ≤ 9223372036854775807 := by simp only [ByteArray.size_append, s45, s32, sm]; omega
            have e5b1 : ((((x ++ (⟨#[45]⟩ : ByteArray)) ++ y) ++ (⟨#[32]⟩ : ByteArray)) ++ (⟨#[m0, m1]⟩ : ByteArray)).size + 1 ≤ 9223372036854775807 := e5
            have e5b2 : (9223372036854775807 < ((((x ++ (⟨#[45]⟩ : ByteArray)) ++ y) ++ (⟨#[32]⟩ : ByteArray)) ++ (⟨#[m0, m1]⟩ : ByteArray)).size + 1) = False := eq_false (Nat.not_lt.2 e5)
            have e5b7 : x.size + 1 + y.size + 1 + 2 + 1 ≤ 9223372036854775807 := by have h_ := e5; (try simp only [ByteArray.size_append] at h_); exact h_
            have e5b8 := eq_false (Nat.not_lt.2 e5b7)
            have e5b9 := decide_eq_true e5b1
            have e5bA := decide_eq_true e5b7
            replace e5b7 := eq_true e5b7
            replace e5b1 := eq_true e5b1
            clear e5
            have e6 : (((((x ++ (⟨#[45]⟩ : ByteArray)) ++ y) ++ (⟨#[32]⟩ : ByteArray)) ++ (⟨#[m0, m1]⟩ : ByteArray)) ++ (⟨#[32]⟩ : ByteArray)).size + ((⟨#[114, 119, 120]⟩ : ByteArray).extract (a0_4 : Int).toNat ((wrap64 (a0_4 + 1)) : Int).toNat).size ≤ 9223372036854775807 := by simp only [ByteArray.size_append, s45, s32, sm]; omega
            have e6b1 : (((((x ++ (⟨#[45]⟩ : ByteArray)) ++ y) ++ (⟨#[32]⟩ : ByteArray)) ++ (⟨#[m0, m1]⟩ : ByteArray)) ++ (⟨#[32]⟩ : ByteArray)).size + ((⟨#[114, 119, 120]⟩ : ByteArray).extract (a0_4 : Int).toNat ((wrap64 (a0_4 + 1)) : Int).toNat).size ≤ 9223372036854775807 := e6
            have e6b2 : (9223372036854775807 < (((((x ++ (⟨#[45]⟩ : ByteArray)) ++ y) ++ (⟨#[32]⟩ : ByteArray)) ++ (⟨#[m0, m1]⟩ : ByteArray)) ++ (⟨#[32]⟩ : ByteArray)).size + ((⟨#[114, 119, 120]⟩ : ByteArray).extract (a0_4 : Int).toNat ((wrap64 (a0_4 + 1)) : Int).toNat).size) = False := eq_false (Nat.not_lt.2 e6)
            have e6b7 : x.size + 1 + y.size + 1 + 2 + 1 + ((⟨#[114, 119, 120]⟩ : ByteArray).extract (a0_4 : Int).toNat ((wrap64 (a0_4 + 1)) : Int).toNat).size ≤ 9223372036854775807 := by have h_ := e6; (try simp only [ByteArray.size_append] at h_); exact h_
            have e6b8 := eq_false (Nat.not_lt.2 e6b7)
            have e6b9 := decide_eq_true e6b1
            have e6bA := decide_eq_true e6b7
            replace e6b7 := eq_true e6b7
            replace e6b1 := eq_true e6b1
            clear e6
            clear s45 s32 sm se
            have g5 : a0_4 ≤ (wrap64 (a0_4 + 1)) := by unfold wrap64; omega
            have g6 : (wrap64 (a0_4 + 1)) ≤ 3 := by unfold wrap64; omega
            have e6bX : (9223372036854775807 < x.size + 1 + y.size + 1 + 2 + 1 + ((wrap64 (a0_4 + 1)).toNat - a0_4.toNat)) = False := by generalize wrap64 (a0_4 + 1) = z_ at g6 ⊢; exact eq_false (by omega)
            clear h2 hx hy
            have h0b0 := decide_eq_true h0
            replace h0 := eq_true h0
            have g5b0 := decide_eq_true g5
            replace g5 := eq_true g5
            have g6b0 := decide_eq_true g6
            replace g6 := eq_true g6
            have hS : Aside0 (∀ w' : World, Below wc.heap.size wc w' → w'.cell? ⟨gb1, 0, none⟩ = some (.int .u16 a0_0) ∧ w'.cell? ⟨gb1, 1, none⟩ = some (.int .u16 a0_1) ∧ w'.cell? ⟨gb1, 4, none⟩ = some (.int .i64 a0_4) ∧ Row2 w' gr m0 m1) := ⟨fun w' hb => ⟨(blk_cell (blk_below BK1.out hb) 0).trans rfl, (blk_cell (blk_below BK1.out hb) 1).trans rfl, (blk_cell (blk_below BK1.out hb) 4).trans rfl, HW.out.below hb⟩⟩
            have HC := Aside0.mk (below_drew1 (Below.refl wc.heap.size wc))
            try go_wp2
            refine start_ (n := 23) (S := fun w' => w'.cell? ⟨gb1, 0, none⟩ = some (.int .u16 a0_0) ∧ w'.cell? ⟨gb1, 1, none⟩ = some (.int .u16 a0_1) ∧ w'.cell? ⟨gb1, 4, none⟩ = some (.int .i64 a0_4) ∧ Row2 w' gr m0 m1) (ds := []) #[false, false, false, false, false, false, false, false, false, false, false, false, false, false, false, false, false, false, false, false, false, false, false] (by kernel_rfl) rfl rfl (hS.out _ HC.out) (fun hHeld => ?_); refine with_tabW impl_RuleText.tab8 impl_RuleText.bits8 (fun HT_ HW_ => ?_)
            generalize wc.drew = w18 at HC hHeld ⊢
            refine pure_ (i := 0) (N := some 24) (v := ?_) (a' := ?_) #[true, false, false, false, false, false, false, false, false, false, false, false, false, false, false, false, false, false, false, false, false, false, false] rfl rfl (any_of HT_.out (by kernel_rfl)) (fun _ _ _ h => h) (Or.inl ⟨by rfl, ?_⟩) ?_ ?_
            rotate_left
            · intro w'
              go_simp
              with_reducible rfl
            rotate_left
            · simp only [Act.put, List.setIfInBounds_toArray, List.set_cons_zero, List.set_cons_succ, i64_w, i32_w]
              rfl
            refine pure_ (i := 5) (N := some 29) (v := ?_) (a' := ?_) #[true, false, false, false, false, true, false, false, false, false, false, false, false, false, false, false, false, false, false, false, false, false, false] rfl rfl (any_of HT_.out (by kernel_rfl)) (fun _ _ _ h => h) (Or.inl ⟨by rfl, ?_⟩) ?_ ?_
            rotate_left
            · intro w'
              go_simp
              with_reducible rfl
            rotate_left
            · simp only [Act.put, List.setIfInBounds_toArray, List.set_cons_zero, List.set_cons_succ, i64_w, i32_w]
              rfl
            refine pure_ (i := 11) (N := some 35) (v := ?_) (a' := ?_) #[true, false, false, false, false, true, false, false, false, false, false, true, false, false, false, false, false, false, false, false, false, false, false] rfl rfl (any_of HT_.out (by kernel_rfl)) (fun _ _ _ h => h) (Or.inl ⟨by rfl, ?_⟩) ?_ ?_
            rotate_left
            · intro w'
              go_simp
              with_reducible rfl
            rotate_left
            · simp only [Act.put, List.setIfInBounds_toArray, List.set_cons_zero, List.set_cons_succ, i64_w, i32_w]
              rfl
            refine pure_ (i := 15) (N := some 39) (v := ?_) (a' := ?_) #[true, false, false, false, false, true, false, false, false, false, false, true, false, false, false, true, false, false, false, false, false, false, false] rfl rfl (any_of HT_.out (by kernel_rfl)) (fun _ _ _ h => h) (Or.inl ⟨by rfl, ?_⟩) ?_ ?_
            rotate_left
            · intro w'
              go_simp
              with_reducible rfl
            rotate_left
            · simp only [Act.put, List.setIfInBounds_toArray, List.set_cons_zero, List.set_cons_succ, i64_w, i32_w]
              rfl
            refine pure_ (i := 17) (N := some 41) (v := ?_) (a' := ?_) #[true, false, false, false, false, true, false, false, false, false, false, true, false, false, false, true, false, true, false, false, false, false, false] rfl rfl (any_of HT_.out (by kernel_rfl)) (fun _ _ _ h => h) (Or.inl ⟨by rfl, ?_⟩) ?_ ?_
            rotate_left
            · intro w'
              go_simp
              with_reducible rfl
            rotate_left
            · simp only [Act.put, List.setIfInBounds_toArray, List.set_cons_zero, List.set_cons_succ, i64_w, i32_w]
              rfl
            refine take_ (i := 1) (N := some 25) (v := ?_) (a' := ?_) #[true, true, false, false, false, true, false, false, false, false, false, true, false, false, false, true, false, true, false, false, false, false, false] rfl rfl (take_ofW HT_.out HW_.out (by kernel_rfl)) (fun _ _ _ h => h) (Or.inl ⟨by rfl, ?_⟩) hHeld ?_ ?_
            rotate_left
            · rintro w' ⟨s0, s1, s2, s3⟩
              go_simp
              with_reducible rfl
            rotate_left
            · simp only [Act.put, List.setIfInBounds_toArray, List.set_cons_zero, List.set_cons_succ, i64_w, i32_w]
              rfl
            refine take_ (i := 6) (N := some 30) (v := ?_) (a' := ?_) #[true, true, false, false, false, true, true, false, false, false, false, true, false, false, false, true, false, true, false, false, false, false, false] rfl rfl (take_ofW HT_.out HW_.out (by kernel_rfl)) (fun _ _ _ h => h) (Or.inl ⟨by rfl, ?_⟩) hHeld ?_ ?_
            rotate_left
            · rintro w' ⟨s0, s1, s2, s3⟩
              go_simp
              with_reducible rfl
            rotate_left
            · simp only [Act.put, List.setIfInBounds_toArray, List.set_cons_zero, List.set_cons_succ, i64_w, i32_w]
              rfl
            refine take_ (i := 16) (N := some 40) (v := ?_) (a' := ?_) #[true, true, false, false, false, true, true, false, false, false, false, true, false, false, false, true, true, true, false, false, false, false, false] rfl rfl (take_ofW HT_.out HW_.out (by kernel_rfl)) (fun _ _ _ h => h) (Or.inl ⟨by rfl, ?_⟩) hHeld ?_ ?_
            rotate_left
            · rintro w' ⟨s0, s1, s2, s3⟩
              go_simp
              with_reducible rfl
            rotate_left
            · simp only [Act.put, List.setIfInBounds_toArray, List.set_cons_zero, List.set_cons_succ, i64_w, i32_w]
              rfl
            refine take_ (i := 18) (N := some 42) (v := ?_) (a' := ?_) #[true, true, false, false, false, true, true, false, false, false, false, true, false, false, false, true, true, true, true, false, false, false, false] rfl rfl (take_ofW HT_.out HW_.out (by kernel_rfl)) (fun _ _ _ h => h) (Or.inl ⟨by rfl, ?_⟩) hHeld ?_ ?_
            rotate_left
            · rintro w' ⟨s0, s1, s2, s3⟩
              go_simp
              with_reducible rfl
            rotate_left
            · simp only [Act.put, List.setIfInBounds_toArray, List.set_cons_zero, List.set_cons_succ, i64_w, i32_w]
              rfl
            refine take_ (i := 12) (N := some 36) (v := ?_) (a' := ?_) #[true, true, false, false, false, true, true, false, false, false, false, true, true, false, false, true, true, true, true, false, false, false, false] rfl rfl (take_ofW HT_.out HW_.out (by kernel_rfl)) (fun _ _ _ h => h) (Or.inl ⟨by rfl, ?_⟩) hHeld ?_ ?_
            rotate_left
            · rintro w' ⟨s0, s1, s2, s3⟩
              have s4 := s3.back (P := Try.prog) 29 9 5 cap rfl rfl rfl
              go_simp
              with_reducible rfl
            rotate_left
            · simp only [Act.put, List.setIfInBounds_toArray, List.set_cons_zero, List.set_cons_succ, i64_w, i32_w]
              rfl
            refine pure_ (i := 2) (N := some 26) (v := ?_) (a' := ?_) #[true, true, true, false, false, true, true, false, false, false, false, true, true, false, false, true, true, true, true, false, false, false, false] rfl rfl (any_of HT_.out (by kernel_rfl)) (fun _ _ _ h => h) (Or.inl ⟨by rfl, ?_⟩) ?_ ?_
            rotate_left
            · intro w'
              go_simp
              with_reducible rfl
            rotate_left
            · simp only [Act.put, List.setIfInBounds_toArray, List.set_cons_zero, List.set_cons_succ, i64_w, i32_w]
              rfl
            refine pure_ (i := 7) (N := some 31) (v := ?_) (a' := ?_) #[true, true, true, false, false, true, true, true, false, false, false, true, true, false, false, true, true, true, true, false, false, false, false] rfl rfl (any_of HT_.out (by kernel_rfl)) (fun _ _ _ h => h) (Or.inl ⟨by rfl, ?_⟩) ?_ ?_
            rotate_left
            · intro w'
              go_simp
              with_reducible rfl
            rotate_left
            · simp only [Act.put, List.setIfInBounds_toArray, List.set_cons_zero, List.set_cons_succ, i64_w, i32_w]
              rfl
            refine pure_ (i := 19) (N := some 43) (v := ?_) (a' := ?_) #[true, true, true, false, false, true, true, true, false, false, false, true, true, false, false, true, true, true, true, true, false, false, false] rfl rfl (any_of HT_.out (by kernel_rfl)) (fun _ _ _ h => h) (Or.inl ⟨by rfl, ?_⟩) ?_ ?_
            rotate_left
            · intro w'
              go_simp
              with_reducible rfl
            rotate_left
            · simp only [Act.put, List.setIfInBounds_toArray, List.set_cons_zero, List.set_cons_succ, i64_w, i32_w]
              rfl
            refine pure_ (i := 20) (N := some 44) (v := ?_) (a' := ?_) #[true, true, true, false, false, true, true, true, false, false, false, true, true, false, false, true, true, true, true, true, true, false, false] rfl rfl (any_of HT_.out (by kernel_rfl)) (fun _ _ _ h => h) (Or.inl ⟨by rfl, ?_⟩) ?_ ?_
            rotate_left
            · intro w'
              go_simp
              with_reducible rfl
            rotate_left
            · simp only [Act.put, List.setIfInBounds_toArray, List.set_cons_zero, List.set_cons_succ, i64_w, i32_w]
              rfl
            refine one_ (i := 3) (N := some 27) #[true, true, true, true, false, true, true, true, false, false, false, true, true, false, false, true, true, true, true, true, true, false, false] rfl rfl (one_of HT_.out (by kernel_rfl)) (by decide) (fun K hK => ?_)
            refine goes_ Try.func21 (by kernel_rfl) rfl #[.int .i64 (wrap64 a0_0), .int .i64 4] (by rfl) rfl rfl (by (try simp only [List.map_toArray, List.map_cons, List.map_nil]); first | done | rfl | (simp only [List.length_drop, List.length_take]; rfl)) ?_
            with_reducible refine (impl_HexText.calls k (wrap64 a0_0) 4 x _ A6.out).mono ?_
            rintro e w19 ⟨rfl, hb⟩
            refine ⟨_, rfl, ?_⟩
            replace HC := Aside0.mk (below_step HC.out hb)
            clear hb
            refine hK.out _ _ (hS.out _ HC.out) (fun hHeld => ?_)
            clear hK K
            refine norm_ (a' := ?_) ?_ ?_
            rotate_left
            · show Act.put _ (some 27) _ = _
              simp only [Act.put, List.setIfInBounds_toArray, List.set_cons_zero, List.set_cons_succ, i64_w, i32_w]
              rfl
            refine pure_ (i := 4) (N := some 28) (v := ?_) (a' := ?_) #[true, true, true, true, true, true, true, true, false, false, false, true, true, false, false, true, true, true, true, true, true, false, false] rfl rfl (any_of HT_.out (by kernel_rfl)) (fun _ _ _ h => h) (Or.inl ⟨by rfl, ?_⟩) ?_ ?_
            rotate_left
            · intro w'
              go_simp
              with_reducible rfl
            rotate_left
            · simp only [Act.put, List.setIfInBounds_toArray, List.set_cons_zero, List.set_cons_succ, i64_w, i32_w]
              rfl
            refine one_ (i := 8) (N := some 32) #[true, true, true, true, true, true, true, true, true, false, false, true, true, false, false, true, true, true, true, true, true, false, false] rfl rfl (one_of HT_.out (by kernel_rfl)) (by decide) (fun K hK => ?_)
            refine goes_ Try.func21 (by kernel_rfl) rfl #[.int .i64 (wrap64 a0_1), .int .i64 4] (by rfl) rfl rfl (by (try simp only [List.map_toArray, List.map_cons, List.map_nil]); first | done | rfl | (simp only [List.length_drop, List.length_take]; rfl)) ?_
            with_reducible refine (impl_HexText.calls k (wrap64 a0_1) 4 y _ A7.out).mono ?_
            rintro e w19 ⟨rfl, hb⟩
            refine ⟨_, rfl, ?_⟩
            replace HC := Aside0.mk (below_step HC.out hb)
            clear hb
            refine hK.out _ _ (hS.out _ HC.out) (fun hHeld => ?_)
            clear hK K
            refine norm_ (a' := ?_) ?_ ?_
            rotate_left
            · show Act.put _ (some 32) _ = _
              simp only [Act.put, List.setIfInBounds_toArray, List.set_cons_zero, List.set_cons_succ, i64_w, i32_w]
              rfl
            refine pure_ (i := 9) (N := some 33) (v := ?_) (a' := ?_) #[true, true, true, true, true, true, true, true, true, true, false, true, true, false, false, true, true, true, true, true, true, false, false] rfl rfl (any_of HT_.out (by kernel_rfl)) (fun _ _ _ h => h) (Or.inl ⟨by rfl, ?_⟩) ?_ ?_
            rotate_left
            · intro w'
              go_simp
              with_reducible rfl
            rotate_left
            · simp only [Act.put, List.setIfInBounds_toArray, List.set_cons_zero, List.set_cons_succ, i64_w, i32_w]
              rfl
            refine pure_ (i := 10) (N := some 34) (v := ?_) (a' := ?_) #[true, true, true, true, true, true, true, true, true, true, true, true, true, false, false, true, true, true, true, true, true, false, false] rfl rfl (any_of HT_.out (by kernel_rfl)) (fun _ _ _ h => h) (Or.inl ⟨by rfl, ?_⟩) ?_ ?_
            rotate_left
            · intro w'
              go_simp
              with_reducible rfl
            rotate_left
            · simp only [Act.put, List.setIfInBounds_toArray, List.set_cons_zero, List.set_cons_succ, i64_w, i32_w]
              rfl
            refine pure_ (i := 13) (N := some 37) (v := ?_) (a' := ?_) #[true, true, true, true, true, true, true, true, true, true, true, true, true, true, false, true, true, true, true, true, true, false, false] rfl rfl (any_of HT_.out (by kernel_rfl)) (fun _ _ _ h => h) (Or.inl ⟨by rfl, ?_⟩) ?_ ?_
            rotate_left
            · intro w'
              go_simp
              with_reducible rfl
            rotate_left
            · simp only [Act.put, List.setIfInBounds_toArray, List.set_cons_zero, List.set_cons_succ, i64_w, i32_w]
              rfl
            refine pure_ (i := 14) (N := some 38) (v := ?_) (a' := ?_) #[true, true, true, true, true, true, true, true, true, true, true, true, true, true, true, true, true, true, true, true, true, false, false] rfl rfl (any_of HT_.out (by kernel_rfl)) (fun _ _ _ h => h) (Or.inl ⟨by rfl, ?_⟩) ?_ ?_
            rotate_left
            · intro w'
              go_simp
              with_reducible rfl
            rotate_left
            · simp only [Act.put, List.setIfInBounds_toArray, List.set_cons_zero, List.set_cons_succ, i64_w, i32_w]
              rfl
            refine pure_ (i := 21) (N := some 45) (v := ?_) (a' := ?_) #[true, true, true, true, true, true, true, true, true, true, true, true, true, true, true, true, true, true, true, true, true, true, false] rfl rfl (any_of HT_.out (by kernel_rfl)) (fun _ _ _ h => h) (Or.inl ⟨by rfl, ?_⟩) ?_ ?_
            rotate_left
            · intro w'
              go_simp
              with_reducible rfl
            rotate_left
            · simp only [Act.put, List.setIfInBounds_toArray, List.set_cons_zero, List.set_cons_succ, i64_w, i32_w]
              rfl
            refine pure_ (i := 22) (N := some 2) (v := ?_) (a' := ?_) #[true, true, true, true, true, true, true, true, true, true, true, true, true, true, true, true, true, true, true, true, true, true, true] rfl rfl (any_of HT_.out (by kernel_rfl)) (fun _ _ _ h => h) (Or.inl ⟨by rfl, ?_⟩) ?_ ?_
            rotate_left
            · intro w'
              go_simp
              with_reducible rfl
            rotate_left
            · simp only [Act.put, List.setIfInBounds_toArray, List.set_cons_zero, List.set_cons_succ, i64_w, i32_w]
              rfl
            refine done_ (done_of HT_.out (by kernel_rfl)) ?_
            try go_wp2
            go_ret
            exact ⟨by rw [H.out]; rfl, below_step HB.out HC.out⟩
      · rw [if_neg c8] at h
        exact absurd h (by simp)
    · rw [if_neg c5] at h
      exact absurd h (by simp)
  · have c3' : t = false := by simpa using c3
    subst c3'
    rw [if_neg (by decide)] at h
    obtain rfl := Option.some.inj h
    go_enter Try.func10, Try.ntmps10
    go_wp2_with (first | ((with_reducible refine gate_dst (N := 1) rfl ?_); refine box_event ?hg (N := 1) ?hd (cs := #[.int .u16 a0_0, .int .u16 a0_1, .int .u8 a0_2, .int .u8 a0_3, .int .i64 a0_4]) (t := 24) ?hr ?_; (case hd => rfl); (case hg => rfl); (case hr => first | (go_simp; done) | (go_simp; rfl)); intro gb1 hg w6 hbox hb; have n0_ := Aside0.mk (below_step (by repeat (first | (with_reducible first | exact HB.out | apply below_alloc | apply pw_below_drewN | apply below_drew1) | exact HB.out)) hb); have BK1 := Aside0.mk (hbox); have GE1 := Aside0.mk ((by rw [hg]; exact (below_size (by repeat (first | (with_reducible first | exact HB.out | apply below_alloc | apply pw_below_drewN | apply below_drew1) | exact HB.out))) : w.heap.size ≤ gb1)); clear HB; have HB := n0_; clear n0_; clear hb hbox hg; have hcz7_0 : w6.cell? ⟨gb1, 0, none⟩ = some (.int .u16 a0_0) := (blk_cell BK1.out 0).trans rfl; have hcz7_1 : w6.cell? ⟨gb1, 1, none⟩ = some (.int .u16 a0_1) := (blk_cell BK1.out 1).trans rfl; have hcz7_2 : w6.cell? ⟨gb1, 2, none⟩ = some (.int .u8 a0_2) := (blk_cell BK1.out 2).trans rfl; have hcz7_3 : w6.cell? ⟨gb1, 3, none⟩ = some (.int .u8 a0_3) := (blk_cell BK1.out 3).trans rfl; have hcz7_4 : w6.cell? ⟨gb1, 4, none⟩ = some (.int .i64 a0_4) := (blk_cell BK1.out 4).trans rfl) | (go_at_call 20; (with_reducible refine (impl_RuleOk.calls a0_0 a0_1 a0_2 a0_3 a0_4 false _ A2.out).mono ?_); rintro e w8 ⟨rfl, hb⟩; have n0_ := Aside0.mk (blk_below (g := gb1) (o := .cells #[.int .u16 a0_0, .int .u16 a0_1, .int .u8 a0_2, .int .u8 a0_3, .int .i64 a0_4] 24 (0, 0)) (by (with_reducible repeat (first | refine blk_drewN ?_ _ | refine blk_drew ?_ | refine blk_alloc ?_ _)); exact BK1.out) hb); have n1_ := Aside0.mk (below_step (by repeat (first | (with_reducible first | exact HB.out | apply below_alloc | apply pw_below_drewN | apply below_drew1 | refine below_set ?_ GE1.out) | exact HB.out)) hb); clear BK1; clear HB; have BK1 := n0_; have HB := n1_; clear n0_ n1_; (try clear hb); have hcz9_3 : w8.cell? ⟨gb1, 3, none⟩ = some (.int .u8 a0_3) := (blk_cell BK1.out 3).trans rfl))
    go_ret
    exact ⟨rfl, HB.out⟩

/-! ### strings_IndexByte: function 32 -/
def strings_IndexByte.f (a0 : ByteArray) (a1 : Int) : Option (Int) := some (Lib.indexByte a0.data.toList a1.toNat.toUInt8)
theorem strings_IndexByte.calls (a0 : ByteArray) (a1 : Int) (r : Int) (w : World) (h : strings_IndexByte.f a0 a1 = some r) :
    Calls Try.prog 32 #[.string a0, .int .u8 a1] w fun e w' => e = .returned (.int .i64 r) ∧ Below w.heap.size w w' := by
  obtain rfl := Option.some.inj h
  exact (Try.strings_IndexByte a0 a1 w).mono fun e w' hd => ⟨hd.1, by rw [hd.2]; exact Below.refl _ _⟩

end Go.Proofs.Ytkngnnfjdmndeaa.MQ
