-- Written by this session's own program (wip/myprint.py) over the kit's print of the translation. Lean checks it.
import Derived.Test.YtkngnnfjdmndeaaMEx0
import Derived.Test.YtkngnnfjdmndeaaMEx1
namespace Go.Proofs.Ytkngnnfjdmndeaa.ME
open Go.RowKit Go.Proofs.YtkngnnfjdmndeaaW.PrintWords Go.Proofs.YtkngnnfjdmndeaaW.PrintLast Go.Proofs.YtkngnnfjdmndeaaW.PrintMore
attribute [local go_sem] max2_int min2_int max_two min_two max_three min_three max_four min_four   -- for this text's walks alone
set_option linter.unusedVariables false
set_option linter.unusedSimpArgs false

/-! ### spec_RuleText: function 16 -/
def spec_RuleText.j0 : Nat → ByteArray → Int → Int → Int → Int → Int → Option (ByteArray)
  | 0, _, _, _, _, _, _ => none
  | k + 1, x3, x112000, x112001, x112002, x112003, x112004 => if (Go.bits .and .u8 x112002 15) = 0 then (if 0 ≤ 1 then (if 1 ≤ (x3.size : Int) then (if (x3.extract 0 1).size + 1 ≤ 9223372036854775807 then ((spec_HexText.f k (wrap64 (x112000)) 4).bind fun t114 => (if t114.size + 1 ≤ 9223372036854775807 then ((spec_HexText.f k (wrap64 (x112001)) 4).bind fun t115 => (if (t114 ++ (⟨#[45]⟩ : ByteArray)).size + t115.size ≤ 9223372036854775807 then (if ((t114 ++ (⟨#[45]⟩ : ByteArray)) ++ t115).size + 1 ≤ 9223372036854775807 then (if (((t114 ++ (⟨#[45]⟩ : ByteArray)) ++ t115) ++ (⟨#[32]⟩ : ByteArray)).size + ((x3.extract 0 1) ++ (⟨#[63]⟩ : ByteArray)).size ≤ 9223372036854775807 then (if ((((t114 ++ (⟨#[45]⟩ : ByteArray)) ++ t115) ++ (⟨#[32]⟩ : ByteArray)) ++ ((x3.extract 0 1) ++ (⟨#[63]⟩ : ByteArray))).size + 1 ≤ 9223372036854775807 then (if 0 ≤ x112004 then (if x112004 ≤ (wrap64 (x112004 + 1)) then (if (wrap64 (x112004 + 1)) ≤ 3 then (if (((((t114 ++ (⟨#[45]⟩ : ByteArray)) ++ t115) ++ (⟨#[32]⟩ : ByteArray)) ++ ((x3.extract 0 1) ++ (⟨#[63]⟩ : ByteArray))) ++ (⟨#[32]⟩ : ByteArray)).size + ((⟨#[114, 119, 120]⟩ : ByteArray).extract (x112004 : Int).toNat ((wrap64 (x112004 + 1)) : Int).toNat).size ≤ 9223372036854775807 then (some ((((((t114 ++ (⟨#[45]⟩ : ByteArray)) ++ t115) ++ (⟨#[32]⟩ : ByteArray)) ++ ((x3.extract 0 1) ++ (⟨#[63]⟩ : ByteArray))) ++ (⟨#[32]⟩ : ByteArray)) ++ ((⟨#[114, 119, 120]⟩ : ByteArray).extract (x112004 : Int).toNat ((wrap64 (x112004 + 1)) : Int).toNat))) else (none)) else (none)) else (none)) else (none)) else (none)) else (none)) else (none)) else (none))) else (none))) else (none)) else (none)) else (none)) else ((spec_HexText.f k (wrap64 (x112000)) 4).bind fun t116 => (if t116.size + 1 ≤ 9223372036854775807 then ((spec_HexText.f k (wrap64 (x112001)) 4).bind fun t117 => (if (t116 ++ (⟨#[45]⟩ : ByteArray)).size + t117.size ≤ 9223372036854775807 then (if ((t116 ++ (⟨#[45]⟩ : ByteArray)) ++ t117).size + 1 ≤ 9223372036854775807 then (if (((t116 ++ (⟨#[45]⟩ : ByteArray)) ++ t117) ++ (⟨#[32]⟩ : ByteArray)).size + x3.size ≤ 9223372036854775807 then (if ((((t116 ++ (⟨#[45]⟩ : ByteArray)) ++ t117) ++ (⟨#[32]⟩ : ByteArray)) ++ x3).size + 1 ≤ 9223372036854775807 then (if 0 ≤ x112004 then (if x112004 ≤ (wrap64 (x112004 + 1)) then (if (wrap64 (x112004 + 1)) ≤ 3 then (if (((((t116 ++ (⟨#[45]⟩ : ByteArray)) ++ t117) ++ (⟨#[32]⟩ : ByteArray)) ++ x3) ++ (⟨#[32]⟩ : ByteArray)).size + ((⟨#[114, 119, 120]⟩ : ByteArray).extract (x112004 : Int).toNat ((wrap64 (x112004 + 1)) : Int).toNat).size ≤ 9223372036854775807 then (some ((((((t116 ++ (⟨#[45]⟩ : ByteArray)) ++ t117) ++ (⟨#[32]⟩ : ByteArray)) ++ x3) ++ (⟨#[32]⟩ : ByteArray)) ++ ((⟨#[114, 119, 120]⟩ : ByteArray).extract (x112004 : Int).toNat ((wrap64 (x112004 + 1)) : Int).toNat))) else (none)) else (none)) else (none)) else (none)) else (none)) else (none)) else (none)) else (none))) else (none)))
def spec_RuleText.f (k : Nat) (a0_0 : Int) (a0_1 : Int) (a0_2 : Int) (a0_3 : Int) (a0_4 : Int) : Option (ByteArray) := (spec_RuleOk.f a0_0 a0_1 a0_2 a0_3 a0_4).bind fun t112 => (if t112 = true then ((spec_HexText.f k (wrap64 (a0_3)) 2).bind fun t113 => (if ((Int.tdiv a0_2 16) % 256) = 0 then (if 1 ≤ (t113.size : Int) then (if 1 + (t113.extract 1 t113.size).size ≤ 9223372036854775807 then (spec_RuleText.j0 k ((⟨#[63]⟩ : ByteArray) ++ (t113.extract 1 t113.size)) a0_0 a0_1 a0_2 a0_3 a0_4) else (none)) else (none)) else (spec_RuleText.j0 k t113 a0_0 a0_1 a0_2 a0_3 a0_4))) else (some (⟨#[]⟩ : ByteArray)))
theorem spec_RuleText.mono_l : ∀ k, (∀ y0 y1 y2 y3 y4 y5, LeO (spec_RuleText.j0 k y0 y1 y2 y3 y4 y5) (spec_RuleText.j0 (k + 1) y0 y1 y2 y3 y4 y5))
  | 0 => fun _ _ _ _ _ _ r h => by simp [spec_RuleText.j0] at h
  | k + 1 => by
    have ih0 := spec_RuleText.mono_l k
    · intro y0 y1 y2 y3 y4 y5
      unfold spec_RuleText.j0
      repeat' first
      | (with_reducible exact ih0 _ _ _ _ _ _)
      | (with_reducible exact spec_HexText.mono _ _ _)
      | (with_reducible exact LeO.refl _)
      | (with_reducible exact LeO.none _)
      | (with_reducible refine LeO.ite ?_ ?_)
      | (with_reducible refine LeO.bind ?_ (fun _ => ?_))
      | exact ih0 _ _ _ _ _ _
      | exact spec_HexText.mono _ _ _
      | exact LeO.none _
      | refine LeO.ite ?_ ?_
      | refine LeO.bind ?_ (fun _ => ?_)
theorem spec_RuleText.mono : ∀ a0 a1 a2 a3 a4 k, LeO (spec_RuleText.f k a0 a1 a2 a3 a4) (spec_RuleText.f (k + 1) a0 a1 a2 a3 a4) := by
  intro a0 a1 a2 a3 a4 k
  have ih0 := spec_RuleText.mono_l k
  unfold spec_RuleText.f
  repeat' first
      | (with_reducible exact ih0 _ _ _ _ _ _)
      | (with_reducible exact spec_HexText.mono _ _ _)
      | (with_reducible exact LeO.refl _)
      | (with_reducible exact LeO.none _)
      | (with_reducible refine LeO.ite ?_ ?_)
      | (with_reducible refine LeO.bind ?_ (fun _ => ?_))
      | exact ih0 _ _ _ _ _ _
      | exact spec_HexText.mono _ _ _
      | exact LeO.none _
      | refine LeO.ite ?_ ?_
      | refine LeO.bind ?_ (fun _ => ?_)
set_option maxHeartbeats 8000000 in
set_option maxRecDepth 100000 in
theorem spec_RuleText.calls (k : Nat) (a0_0 : Int) (a0_1 : Int) (a0_2 : Int) (a0_3 : Int) (a0_4 : Int) (r : ByteArray) (w : World) (h : spec_RuleText.f k a0_0 a0_1 a0_2 a0_3 a0_4 = some r) :
    Calls Try.prog 16 #[.agg #[.int .u16 a0_0, .int .u16 a0_1, .int .u8 a0_2, .int .u8 a0_3, .int .i64 a0_4]] w fun e w' => e = .returned (.string r) ∧ Below w.heap.size w w' := by
  have hu24 := Try.underlying24
  have HB := Aside0.mk (Below.refl w.heap.size w)
  have H : ((spec_RuleOk.f a0_0 a0_1 a0_2 a0_3 a0_4).bind fun t112 => (if t112 = true then ((spec_HexText.f k (wrap64 (a0_3)) 2).bind fun t113 => (if ((Int.tdiv a0_2 16) % 256) = 0 then (if 1 ≤ (t113.size : Int) then (if 1 + (t113.extract 1 t113.size).size ≤ 9223372036854775807 then (spec_RuleText.j0 k ((⟨#[63]⟩ : ByteArray) ++ (t113.extract 1 t113.size)) a0_0 a0_1 a0_2 a0_3 a0_4) else (none)) else (none)) else (spec_RuleText.j0 k t113 a0_0 a0_1 a0_2 a0_3 a0_4))) else (some (⟨#[]⟩ : ByteArray)))) = some r := h
  clear h
  replace H := Option.bind_eq_some_iff.mp H
  obtain ⟨t112, A20, H⟩ := H
  replace H : (if t112 = true then ((spec_HexText.f k (wrap64 (a0_3)) 2).bind fun t113 => (if ((Int.tdiv a0_2 16) % 256) = 0 then (if 1 ≤ (t113.size : Int) then (if 1 + (t113.extract 1 t113.size).size ≤ 9223372036854775807 then (spec_RuleText.j0 k ((⟨#[63]⟩ : ByteArray) ++ (t113.extract 1 t113.size)) a0_0 a0_1 a0_2 a0_3 a0_4) else (none)) else (none)) else (spec_RuleText.j0 k t113 a0_0 a0_1 a0_2 a0_3 a0_4))) else (some (⟨#[]⟩ : ByteArray))) = some r := H
  have A2 := Aside0.mk A20
  clear A20
  by_cases c3 : t112 = true
  · subst c3
    have H1 : ((spec_HexText.f k (wrap64 (a0_3)) 2).bind fun t113 => (if ((Int.tdiv a0_2 16) % 256) = 0 then (if 1 ≤ (t113.size : Int) then (if 1 + (t113.extract 1 t113.size).size ≤ 9223372036854775807 then (spec_RuleText.j0 k ((⟨#[63]⟩ : ByteArray) ++ (t113.extract 1 t113.size)) a0_0 a0_1 a0_2 a0_3 a0_4) else (none)) else (none)) else (spec_RuleText.j0 k t113 a0_0 a0_1 a0_2 a0_3 a0_4))) = some r := by rw [if_pos rfl] at H; exact H
    clear H
    have H := H1
    clear H1
    replace H := Option.bind_eq_some_iff.mp H
    obtain ⟨t113, A40, H⟩ := H
    replace H : (if ((Int.tdiv a0_2 16) % 256) = 0 then (if 1 ≤ (t113.size : Int) then (if 1 + (t113.extract 1 t113.size).size ≤ 9223372036854775807 then (spec_RuleText.j0 k ((⟨#[63]⟩ : ByteArray) ++ (t113.extract 1 t113.size)) a0_0 a0_1 a0_2 a0_3 a0_4) else (none)) else (none)) else (spec_RuleText.j0 k t113 a0_0 a0_1 a0_2 a0_3 a0_4)) = some r := H
    have A4 := Aside0.mk A40
    clear A40
    have HC5 := Aside0.mk H
    clear H
    go_enter Try.func16, Try.ntmps16
    go_upto_if 14 with (first | ((with_reducible refine gate_dst (N := 1) rfl ?_); refine box_event ?hg (N := 1) ?hd (cs := #[.int .u16 a0_0, .int .u16 a0_1, .int .u8 a0_2, .int .u8 a0_3, .int .i64 a0_4]) (t := 24) ?hr ?_; (case hd => rfl); (case hg => rfl); (case hr => first | (go_simp; done) | (go_simp; rfl)); intro gb111 hg w6 hbox hb; have n0_ := Aside0.mk (below_step (by repeat (first | (with_reducible first | exact HB.out | apply below_alloc | apply pw_below_drewN | apply below_drew1) | exact HB.out)) hb); have n1_ := Aside0.mk (hbox); have n2_ := Aside0.mk ((by rw [hg]; exact (below_size (by repeat (first | (with_reducible first | exact HB.out | apply below_alloc | apply pw_below_drewN | apply below_drew1) | exact HB.out))) : w.heap.size ≤ gb111)); have n3_ := Aside0.mk ((by rw [hg]; exact (below_size (by repeat (first | (with_reducible first | exact HB.out | apply below_alloc | apply pw_below_drewN | apply below_drew1) | exact HB.out))) : w.heap.size ≤ gb111)); clear HB; have HB := n0_; have BK111 := n1_; have GW111 := n2_; have GE111 := n3_; clear n0_ n1_ n2_ n3_; clear hb hbox hg; have hcz7_0 : w6.cell? ⟨gb111, 0, none⟩ = some (.int .u16 a0_0) := (blk_cell BK111.out 0).trans rfl; have hcz7_1 : w6.cell? ⟨gb111, 1, none⟩ = some (.int .u16 a0_1) := (blk_cell BK111.out 1).trans rfl; have hcz7_2 : w6.cell? ⟨gb111, 2, none⟩ = some (.int .u8 a0_2) := (blk_cell BK111.out 2).trans rfl; have hcz7_3 : w6.cell? ⟨gb111, 3, none⟩ = some (.int .u8 a0_3) := (blk_cell BK111.out 3).trans rfl; have hcz7_4 : w6.cell? ⟨gb111, 4, none⟩ = some (.int .i64 a0_4) := (blk_cell BK111.out 4).trans rfl; have hfz7_0 := blk_frozen BK111.out 0; have hfz7_1 := blk_frozen BK111.out 1; have hfz7_2 := blk_frozen BK111.out 2; have hfz7_3 := blk_frozen BK111.out 3; have hfz7_4 := blk_frozen BK111.out 4) | (go_at_call 14; (with_reducible refine (spec_RuleOk.calls a0_0 a0_1 a0_2 a0_3 a0_4 true _ A2.out).mono ?_); rintro e w8 ⟨rfl, hb⟩; have n0_ := Aside0.mk (blk_below (g := gb111) (o := .cells #[.int .u16 a0_0, .int .u16 a0_1, .int .u8 a0_2, .int .u8 a0_3, .int .i64 a0_4] 24 (0, 0)) (by (with_reducible repeat (first | refine blk_drewN ?_ _ | refine blk_drew ?_ | refine blk_alloc ?_ _)); exact BK111.out) hb); have n1_ := Aside0.mk (below_step (by repeat (first | (with_reducible first | exact HB.out | apply below_alloc | apply pw_below_drewN | apply below_drew1 | refine below_set ?_ GE111.out) | exact HB.out)) hb); clear BK111; clear HB; have BK111 := n0_; have HB := n1_; clear n0_ n1_; (try clear hb); (try clear hb2); (try clear hk); (try clear hi); have hcz9_0 : w8.cell? ⟨gb111, 0, none⟩ = some (.int .u16 a0_0) := (blk_cell BK111.out 0).trans rfl; have hcz9_1 : w8.cell? ⟨gb111, 1, none⟩ = some (.int .u16 a0_1) := (blk_cell BK111.out 1).trans rfl; have hcz9_2 : w8.cell? ⟨gb111, 2, none⟩ = some (.int .u8 a0_2) := (blk_cell BK111.out 2).trans rfl; have hcz9_3 : w8.cell? ⟨gb111, 3, none⟩ = some (.int .u8 a0_3) := (blk_cell BK111.out 3).trans rfl; have hcz9_4 : w8.cell? ⟨gb111, 4, none⟩ = some (.int .i64 a0_4) := (blk_cell BK111.out 4).trans rfl; have hfz9_0 := blk_frozen BK111.out 0; have hfz9_1 := blk_frozen BK111.out 1; have hfz9_2 := blk_frozen BK111.out 2; have hfz9_3 := blk_frozen BK111.out 3; have hfz9_4 := blk_frozen BK111.out 4) | (go_at_call 30; (with_reducible refine (spec_HexText.calls k (wrap64 (a0_3)) 2 t113 _ A4.out).mono ?_); rintro e w' ⟨rfl, ⟨nd, rfl⟩⟩; (try first | exact ⟨rfl, _, World.drewN_drewN _ _ _⟩ | exact ⟨rfl, _, Eq.trans (World.drewN_drewN _ _ _) (congrArg (World.drewN _) (Nat.add_assoc _ _ _))⟩)))
    repeat (go_quiet (first | ((with_reducible refine gate_dst (N := 1) rfl ?_); refine box_event ?hg (N := 1) ?hd (cs := #[.int .u16 a0_0, .int .u16 a0_1, .int .u8 a0_2, .int .u8 a0_3, .int .i64 a0_4]) (t := 24) ?hr ?_; (case hd => rfl); (case hg => rfl); (case hr => first | (go_simp; done) | (go_simp; rfl)); intro gb111 hg w6 hbox hb; have n0_ := Aside0.mk (below_step (by repeat (first | (with_reducible first | exact HB.out | apply below_alloc | apply pw_below_drewN | apply below_drew1) | exact HB.out)) hb); have n1_ := Aside0.mk (hbox); have n2_ := Aside0.mk ((by rw [hg]; exact (below_size (by repeat (first | (with_reducible first | exact HB.out | apply below_alloc | apply pw_below_drewN | apply below_drew1) | exact HB.out))) : w.heap.size ≤ gb111)); have n3_ := Aside0.mk ((by rw [hg]; exact (below_size (by repeat (first | (with_reducible first | exact HB.out | apply below_alloc | apply pw_below_drewN | apply below_drew1) | exact HB.out))) : w.heap.size ≤ gb111)); clear HB; have HB := n0_; have BK111 := n1_; have GW111 := n2_; have GE111 := n3_; clear n0_ n1_ n2_ n3_; clear hb hbox hg; have hcz7_0 : w6.cell? ⟨gb111, 0, none⟩ = some (.int .u16 a0_0) := (blk_cell BK111.out 0).trans rfl; have hcz7_1 : w6.cell? ⟨gb111, 1, none⟩ = some (.int .u16 a0_1) := (blk_cell BK111.out 1).trans rfl; have hcz7_2 : w6.cell? ⟨gb111, 2, none⟩ = some (.int .u8 a0_2) := (blk_cell BK111.out 2).trans rfl; have hcz7_3 : w6.cell? ⟨gb111, 3, none⟩ = some (.int .u8 a0_3) := (blk_cell BK111.out 3).trans rfl; have hcz7_4 : w6.cell? ⟨gb111, 4, none⟩ = some (.int .i64 a0_4) := (blk_cell BK111.out 4).trans rfl; have hfz7_0 := blk_frozen BK111.out 0; have hfz7_1 := blk_frozen BK111.out 1; have hfz7_2 := blk_frozen BK111.out 2; have hfz7_3 := blk_frozen BK111.out 3; have hfz7_4 := blk_frozen BK111.out 4) | (go_at_call 14; (with_reducible refine (spec_RuleOk.calls a0_0 a0_1 a0_2 a0_3 a0_4 true _ A2.out).mono ?_); rintro e w8 ⟨rfl, hb⟩; have n0_ := Aside0.mk (blk_below (g := gb111) (o := .cells #[.int .u16 a0_0, .int .u16 a0_1, .int .u8 a0_2, .int .u8 a0_3, .int .i64 a0_4] 24 (0, 0)) (by (with_reducible repeat (first | refine blk_drewN ?_ _ | refine blk_drew ?_ | refine blk_alloc ?_ _)); exact BK111.out) hb); have n1_ := Aside0.mk (below_step (by repeat (first | (with_reducible first | exact HB.out | apply below_alloc | apply pw_below_drewN | apply below_drew1 | refine below_set ?_ GE111.out) | exact HB.out)) hb); clear BK111; clear HB; have BK111 := n0_; have HB := n1_; clear n0_ n1_; (try clear hb); (try clear hb2); (try clear hk); (try clear hi); have hcz9_0 : w8.cell? ⟨gb111, 0, none⟩ = some (.int .u16 a0_0) := (blk_cell BK111.out 0).trans rfl; have hcz9_1 : w8.cell? ⟨gb111, 1, none⟩ = some (.int .u16 a0_1) := (blk_cell BK111.out 1).trans rfl; have hcz9_2 : w8.cell? ⟨gb111, 2, none⟩ = some (.int .u8 a0_2) := (blk_cell BK111.out 2).trans rfl; have hcz9_3 : w8.cell? ⟨gb111, 3, none⟩ = some (.int .u8 a0_3) := (blk_cell BK111.out 3).trans rfl; have hcz9_4 : w8.cell? ⟨gb111, 4, none⟩ = some (.int .i64 a0_4) := (blk_cell BK111.out 4).trans rfl; have hfz9_0 := blk_frozen BK111.out 0; have hfz9_1 := blk_frozen BK111.out 1; have hfz9_2 := blk_frozen BK111.out 2; have hfz9_3 := blk_frozen BK111.out 3; have hfz9_4 := blk_frozen BK111.out 4) | (go_at_call 30; (with_reducible refine (spec_HexText.calls k (wrap64 (a0_3)) 2 t113 _ A4.out).mono ?_); rintro e w' ⟨rfl, ⟨nd, rfl⟩⟩; (try first | exact ⟨rfl, _, World.drewN_drewN _ _ _⟩ | exact ⟨rfl, _, Eq.trans (World.drewN_drewN _ _ _) (congrArg (World.drewN _) (Nat.add_assoc _ _ _))⟩))); go_upto_if 14 with (first | ((with_reducible refine gate_dst (N := 1) rfl ?_); refine box_event ?hg (N := 1) ?hd (cs := #[.int .u16 a0_0, .int .u16 a0_1, .int .u8 a0_2, .int .u8 a0_3, .int .i64 a0_4]) (t := 24) ?hr ?_; (case hd => rfl); (case hg => rfl); (case hr => first | (go_simp; done) | (go_simp; rfl)); intro gb111 hg w6 hbox hb; have n0_ := Aside0.mk (below_step (by repeat (first | (with_reducible first | exact HB.out | apply below_alloc | apply pw_below_drewN | apply below_drew1) | exact HB.out)) hb); have n1_ := Aside0.mk (hbox); have n2_ := Aside0.mk ((by rw [hg]; exact (below_size (by repeat (first | (with_reducible first | exact HB.out | apply below_alloc | apply pw_below_drewN | apply below_drew1) | exact HB.out))) : w.heap.size ≤ gb111)); have n3_ := Aside0.mk ((by rw [hg]; exact (below_size (by repeat (first | (with_reducible first | exact HB.out | apply below_alloc | apply pw_below_drewN | apply below_drew1) | exact HB.out))) : w.heap.size ≤ gb111)); clear HB; have HB := n0_; have BK111 := n1_; have GW111 := n2_; have GE111 := n3_; clear n0_ n1_ n2_ n3_; clear hb hbox hg; have hcz7_0 : w6.cell? ⟨gb111, 0, none⟩ = some (.int .u16 a0_0) := (blk_cell BK111.out 0).trans rfl; have hcz7_1 : w6.cell? ⟨gb111, 1, none⟩ = some (.int .u16 a0_1) := (blk_cell BK111.out 1).trans rfl; have hcz7_2 : w6.cell? ⟨gb111, 2, none⟩ = some (.int .u8 a0_2) := (blk_cell BK111.out 2).trans rfl; have hcz7_3 : w6.cell? ⟨gb111, 3, none⟩ = some (.int .u8 a0_3) := (blk_cell BK111.out 3).trans rfl; have hcz7_4 : w6.cell? ⟨gb111, 4, none⟩ = some (.int .i64 a0_4) := (blk_cell BK111.out 4).trans rfl; have hfz7_0 := blk_frozen BK111.out 0; have hfz7_1 := blk_frozen BK111.out 1; have hfz7_2 := blk_frozen BK111.out 2; have hfz7_3 := blk_frozen BK111.out 3; have hfz7_4 := blk_frozen BK111.out 4) | (go_at_call 14; (with_reducible refine (spec_RuleOk.calls a0_0 a0_1 a0_2 a0_3 a0_4 true _ A2.out).mono ?_); rintro e w8 ⟨rfl, hb⟩; have n0_ := Aside0.mk (blk_below (g := gb111) (o := .cells #[.int .u16 a0_0, .int .u16 a0_1, .int .u8 a0_2, .int .u8 a0_3, .int .i64 a0_4] 24 (0, 0)) (by (with_reducible repeat (first | refine blk_drewN ?_ _ | refine blk_drew ?_ | refine blk_alloc ?_ _)); exact BK111.out) hb); have n1_ := Aside0.mk (below_step (by repeat (first | (with_reducible first | exact HB.out | apply below_alloc | apply pw_below_drewN | apply below_drew1 | refine below_set ?_ GE111.out) | exact HB.out)) hb); clear BK111; clear HB; have BK111 := n0_; have HB := n1_; clear n0_ n1_; (try clear hb); (try clear hb2); (try clear hk); (try clear hi); have hcz9_0 : w8.cell? ⟨gb111, 0, none⟩ = some (.int .u16 a0_0) := (blk_cell BK111.out 0).trans rfl; have hcz9_1 : w8.cell? ⟨gb111, 1, none⟩ = some (.int .u16 a0_1) := (blk_cell BK111.out 1).trans rfl; have hcz9_2 : w8.cell? ⟨gb111, 2, none⟩ = some (.int .u8 a0_2) := (blk_cell BK111.out 2).trans rfl; have hcz9_3 : w8.cell? ⟨gb111, 3, none⟩ = some (.int .u8 a0_3) := (blk_cell BK111.out 3).trans rfl; have hcz9_4 : w8.cell? ⟨gb111, 4, none⟩ = some (.int .i64 a0_4) := (blk_cell BK111.out 4).trans rfl; have hfz9_0 := blk_frozen BK111.out 0; have hfz9_1 := blk_frozen BK111.out 1; have hfz9_2 := blk_frozen BK111.out 2; have hfz9_3 := blk_frozen BK111.out 3; have hfz9_4 := blk_frozen BK111.out 4) | (go_at_call 30; (with_reducible refine (spec_HexText.calls k (wrap64 (a0_3)) 2 t113 _ A4.out).mono ?_); rintro e w' ⟨rfl, ⟨nd, rfl⟩⟩; (try first | exact ⟨rfl, _, World.drewN_drewN _ _ _⟩ | exact ⟨rfl, _, Eq.trans (World.drewN_drewN _ _ _) (congrArg (World.drewN _) (Nat.add_assoc _ _ _))⟩))))
    (try simp only [Act.put, List.setIfInBounds_toArray, List.set_cons_zero, List.set_cons_succ])
    go_cut [3] (fun v3 wc => ∃ (kq : Nat) (x3_4 : ByteArray), v3 = .string x3_4 ∧ Aside0 (spec_RuleText.j0 kq x3_4 a0_0 a0_1 a0_2 a0_3 a0_4 = some r) ∧ Aside0 (kq ≤ k) ∧ Aside0 (wc.heap[gb111]? = some (.cells #[.int .u16 a0_0, .int .u16 a0_1, .int .u8 a0_2, .int .u8 a0_3, .int .i64 a0_4] 24 (0, 0))) ∧ Aside0 (Below w.heap.size w wc))
    case first =>
      have H := HC5.out
      clear HC5
      by_cases c10 : ((Int.tdiv a0_2 16) % 256) = 0
      · rw [if_pos c10] at H
        have c10b0 : (((Int.tdiv a0_2 16) % 256) == 0) = true := beq_iff_eq.mpr c10
        have c10b1 : (((Int.tdiv a0_2 16) % 256) != 0) = false := bne_eq_false_iff_eq.mpr c10
        clear c10
        (first | rw [c10b0] | (simp only [i64_w, i32_w]; rw [c10b0]) | skip)
        by_cases c11 : 1 ≤ (t113.size : Int)
        · rw [if_pos c11] at H
          have c11b0 := eq_true c11
          have c11b1 : decide (1 ≤ (t113.size : Int)) = true := decide_eq_true c11
          clear c11
          by_cases c12 : 1 + (t113.extract 1 t113.size).size ≤ 9223372036854775807
          · rw [if_pos c12] at H
            have c12b0 := eq_true c12
            have c12b1 : decide (1 + (t113.extract 1 t113.size).size ≤ 9223372036854775807) = true := decide_eq_true c12
            try have c12b2 : (9223372036854775807 < 1 + (t113.extract 1 t113.size).size) = False := eq_false (Nat.not_lt.2 c12)
            try (have c12b3 := c12; simp at c12b3; have c12b4 := eq_true c12b3; have c12b5 := decide_eq_true c12b3; have c12b6 := eq_false (Nat.not_lt.2 c12b3))
            have H' := Aside0.mk H
            clear H
            go_wp2
            repeat (go_quiet (fail); try go_wp2)
            go_meet
            case rel => exact ⟨_, ((⟨#[63]⟩ : ByteArray) ++ (t113.extract 1 t113.size)), (by first | rfl | (simp; done) | (simp [*]; done)), H', ⟨by first | omega | exact Nat.le_refl _⟩, ⟨by (with_reducible repeat (first | refine blk_drewN ?_ _ | refine blk_drew ?_ | refine blk_alloc ?_ _)); exact BK111.out⟩, ⟨by repeat (first | (with_reducible first | exact HB.out | apply below_alloc | apply pw_below_drewN | apply below_drew1 | refine below_set ?_ GE111.out) | exact HB.out)⟩⟩
          · rw [if_neg c12] at H
            exact absurd H (by simp)
        · rw [if_neg c11] at H
          exact absurd H (by simp)
      · rw [if_neg c10] at H
        have c10b0 : (((Int.tdiv a0_2 16) % 256) == 0) = false := beq_eq_false_iff_ne.mpr c10
        have c10b1 : (((Int.tdiv a0_2 16) % 256) != 0) = true := bne_iff_ne.mpr c10
        (first | rw [c10b0] | (simp only [i64_w, i32_w]; rw [c10b0]) | skip)
        have H' := Aside0.mk H
        clear H
        go_wp2
        repeat (go_quiet (fail); try go_wp2)
        go_meet
        case rel => exact ⟨_, (t113), (by first | rfl | (simp; done) | (simp [*]; done)), H', ⟨by first | omega | exact Nat.le_refl _⟩, ⟨by (with_reducible repeat (first | refine blk_drewN ?_ _ | refine blk_drew ?_ | refine blk_alloc ?_ _)); exact BK111.out⟩, ⟨by repeat (first | (with_reducible first | exact HB.out | apply below_alloc | apply pw_below_drewN | apply below_drew1 | refine below_set ?_ GE111.out) | exact HB.out)⟩⟩
    case rest =>
      clear HC5
      try clear c1
      try clear p2
      try clear c3
      try clear p6
      try clear c10
      try clear c10b0
      try clear c10b1
      try clear c11
      try clear c11b0
      try clear c11b1
      try clear c12
      try clear c12b0
      try clear c12b1
      try clear c12b2
      try clear hcz7_0
      try clear hcz7_1
      try clear hcz7_2
      try clear hcz7_3
      try clear hcz7_4
      try clear hcz9_0
      try clear hcz9_1
      try clear hcz9_2
      try clear hcz9_3
      try clear hcz9_4
      try clear hfz7_0
      try clear hfz7_1
      try clear hfz7_2
      try clear hfz7_3
      try clear hfz7_4
      try clear hfz9_0
      try clear hfz9_1
      try clear hfz9_2
      try clear hfz9_3
      try clear hfz9_4
      obtain ⟨kq, x3_4, rfl, HA, HJ4, BK111, HB⟩ := hcut
      cases kq with
      | zero => exact absurd HA.out (by simp [spec_RuleText.j0])
      | succ kj4 =>
        have H := HA.out
        clear HA
        simp only [spec_RuleText.j0] at H
        by_cases c13 : (Go.bits .and .u8 a0_2 15) = 0
        · rw [if_pos c13] at H
          have c13b0 : ((Go.bits .and .u8 a0_2 15) == 0) = true := beq_iff_eq.mpr c13
          have c13b1 : ((Go.bits .and .u8 a0_2 15) != 0) = false := bne_eq_false_iff_eq.mpr c13
          clear c13
          by_cases c14 : 0 ≤ 1
          · rw [if_pos c14] at H
            have c14b0 := eq_true c14
            have c14b1 : decide (0 ≤ 1) = true := decide_eq_true c14
            clear c14
            by_cases c15 : 1 ≤ (x3_4.size : Int)
            · rw [if_pos c15] at H
              have c15b0 := eq_true c15
              have c15b1 : decide (1 ≤ (x3_4.size : Int)) = true := decide_eq_true c15
              clear c15
              by_cases c16 : (x3_4.extract 0 1).size + 1 ≤ 9223372036854775807
              · rw [if_pos c16] at H
                have c16b0 := eq_true c16
                have c16b1 : decide ((x3_4.extract 0 1).size + 1 ≤ 9223372036854775807) = true := decide_eq_true c16
                try have c16b2 : (9223372036854775807 < (x3_4.extract 0 1).size + 1) = False := eq_false (Nat.not_lt.2 c16)
                try (have c16b3 := c16; simp at c16b3; have c16b4 := eq_true c16b3; have c16b5 := decide_eq_true c16b3; have c16b6 := eq_false (Nat.not_lt.2 c16b3))
                try (have c16b9 : (min 1 x3_4.size) + 1 ≤ 9223372036854775807 := (by have h_ := c16; simp only [ByteArray.size_append, ByteArray.size_extract, Nat.sub_zero] at h_; exact h_); have c16bA := eq_false (Nat.not_lt.2 c16b9); replace c16b9 := eq_true c16b9)
                replace H := Option.bind_eq_some_iff.mp H
                obtain ⟨t114, A170, H⟩ := H
                replace H : (if t114.size + 1 ≤ 9223372036854775807 then ((spec_HexText.f kj4 (wrap64 (a0_1)) 4).bind fun t115 => (if (t114 ++ (⟨#[45]⟩ : ByteArray)).size + t115.size ≤ 9223372036854775807 then (if ((t114 ++ (⟨#[45]⟩ : ByteArray)) ++ t115).size + 1 ≤ 9223372036854775807 then (if (((t114 ++ (⟨#[45]⟩ : ByteArray)) ++ t115) ++ (⟨#[32]⟩ : ByteArray)).size + ((x3_4.extract 0 1) ++ (⟨#[63]⟩ : ByteArray)).size ≤ 9223372036854775807 then (if ((((t114 ++ (⟨#[45]⟩ : ByteArray)) ++ t115) ++ (⟨#[32]⟩ : ByteArray)) ++ ((x3_4.extract 0 1) ++ (⟨#[63]⟩ : ByteArray))).size + 1 ≤ 9223372036854775807 then (if 0 ≤ a0_4 then (if a0_4 ≤ (wrap64 (a0_4 + 1)) then (if (wrap64 (a0_4 + 1)) ≤ 3 then (if (((((t114 ++ (⟨#[45]⟩ : ByteArray)) ++ t115) ++ (⟨#[32]⟩ : ByteArray)) ++ ((x3_4.extract 0 1) ++ (⟨#[63]⟩ : ByteArray))) ++ (⟨#[32]⟩ : ByteArray)).size + ((⟨#[114, 119, 120]⟩ : ByteArray).extract (a0_4 : Int).toNat ((wrap64 (a0_4 + 1)) : Int).toNat).size ≤ 9223372036854775807 then (some ((((((t114 ++ (⟨#[45]⟩ : ByteArray)) ++ t115) ++ (⟨#[32]⟩ : ByteArray)) ++ ((x3_4.extract 0 1) ++ (⟨#[63]⟩ : ByteArray))) ++ (⟨#[32]⟩ : ByteArray)) ++ ((⟨#[114, 119, 120]⟩ : ByteArray).extract (a0_4 : Int).toNat ((wrap64 (a0_4 + 1)) : Int).toNat))) else (none)) else (none)) else (none)) else (none)) else (none)) else (none)) else (none)) else (none))) else (none)) = some r := H
                have A17 := Aside0.mk A170
                clear A170
                by_cases c18 : t114.size + 1 ≤ 9223372036854775807
                · rw [if_pos c18] at H
                  have c18b0 := eq_true c18
                  have c18b1 : decide (t114.size + 1 ≤ 9223372036854775807) = true := decide_eq_true c18
                  try have c18b2 : (9223372036854775807 < t114.size + 1) = False := eq_false (Nat.not_lt.2 c18)
                  try (have c18b3 := c18; simp at c18b3; have c18b4 := eq_true c18b3; have c18b5 := decide_eq_true c18b3; have c18b6 := eq_false (Nat.not_lt.2 c18b3))
                  replace H := Option.bind_eq_some_iff.mp H
                  obtain ⟨t115, A190, H⟩ := H
                  replace H : (if (t114 ++ (⟨#[45]⟩ : ByteArray)).size + t115.size ≤ 9223372036854775807 then (if ((t114 ++ (⟨#[45]⟩ : ByteArray)) ++ t115).size + 1 ≤ 9223372036854775807 then (if (((t114 ++ (⟨#[45]⟩ : ByteArray)) ++ t115) ++ (⟨#[32]⟩ : ByteArray)).size + ((x3_4.extract 0 1) ++ (⟨#[63]⟩ : ByteArray)).size ≤ 9223372036854775807 then (if ((((t114 ++ (⟨#[45]⟩ : ByteArray)) ++ t115) ++ (⟨#[32]⟩ : ByteArray)) ++ ((x3_4.extract 0 1) ++ (⟨#[63]⟩ : ByteArray))).size + 1 ≤ 9223372036854775807 then (if 0 ≤ a0_4 then (if a0_4 ≤ (wrap64 (a0_4 + 1)) then (if (wrap64 (a0_4 + 1)) ≤ 3 then (if (((((t114 ++ (⟨#[45]⟩ : ByteArray)) ++ t115) ++ (⟨#[32]⟩ : ByteArray)) ++ ((x3_4.extract 0 1) ++ (⟨#[63]⟩ : ByteArray))) ++ (⟨#[32]⟩ : ByteArray)).size + ((⟨#[114, 119, 120]⟩ : ByteArray).extract (a0_4 : Int).toNat ((wrap64 (a0_4 + 1)) : Int).toNat).size ≤ 9223372036854775807 then (some ((((((t114 ++ (⟨#[45]⟩ : ByteArray)) ++ t115) ++ (⟨#[32]⟩ : ByteArray)) ++ ((x3_4.extract 0 1) ++ (⟨#[63]⟩ : ByteArray))) ++ (⟨#[32]⟩ : ByteArray)) ++ ((⟨#[114, 119, 120]⟩ : ByteArray).extract (a0_4 : Int).toNat ((wrap64 (a0_4 + 1)) : Int).toNat))) else (none)) else (none)) else (none)) else (none)) else (none)) else (none)) else (none)) else (none)) = some r := H
                  have A19 := Aside0.mk A190
                  clear A190
                  by_cases c20 : (t114 ++ (⟨#[45]⟩ : ByteArray)).size + t115.size ≤ 9223372036854775807
                  · rw [if_pos c20] at H
                    have c20b0 := eq_true c20
                    have c20b1 : decide ((t114 ++ (⟨#[45]⟩ : ByteArray)).size + t115.size ≤ 9223372036854775807) = true := decide_eq_true c20
                    try have c20b2 : (9223372036854775807 < (t114 ++ (⟨#[45]⟩ : ByteArray)).size + t115.size) = False := eq_false (Nat.not_lt.2 c20)
                    try (have c20b3 := c20; simp at c20b3; have c20b4 := eq_true c20b3; have c20b5 := decide_eq_true c20b3; have c20b6 := eq_false (Nat.not_lt.2 c20b3))
                    have c20b7 : t114.size + 1 + t115.size ≤ 9223372036854775807 := by have h_ := c20; simp only [ByteArray.size_append] at h_; exact h_
                    have c20b8 := eq_false (Nat.not_lt.2 c20b7)
                    replace c20b7 := eq_true c20b7
                    by_cases c21 : ((t114 ++ (⟨#[45]⟩ : ByteArray)) ++ t115).size + 1 ≤ 9223372036854775807
                    · rw [if_pos c21] at H
                      have c21b0 := eq_true c21
                      have c21b1 : decide (((t114 ++ (⟨#[45]⟩ : ByteArray)) ++ t115).size + 1 ≤ 9223372036854775807) = true := decide_eq_true c21
                      try have c21b2 : (9223372036854775807 < ((t114 ++ (⟨#[45]⟩ : ByteArray)) ++ t115).size + 1) = False := eq_false (Nat.not_lt.2 c21)
                      try (have c21b3 := c21; simp at c21b3; have c21b4 := eq_true c21b3; have c21b5 := decide_eq_true c21b3; have c21b6 := eq_false (Nat.not_lt.2 c21b3))
                      have c21b7 : t114.size + 1 + t115.size + 1 ≤ 9223372036854775807 := by have h_ := c21; simp only [ByteArray.size_append] at h_; exact h_
                      have c21b8 := eq_false (Nat.not_lt.2 c21b7)
                      replace c21b7 := eq_true c21b7
                      by_cases c22 : (((t114 ++ (⟨#[45]⟩ : ByteArray)) ++ t115) ++ (⟨#[32]⟩ : ByteArray)).size + ((x3_4.extract 0 1) ++ (⟨#[63]⟩ : ByteArray)).size ≤ 9223372036854775807
                      · rw [if_pos c22] at H
                        have c22b0 := eq_true c22
                        have c22b1 : decide ((((t114 ++ (⟨#[45]⟩ : ByteArray)) ++ t115) ++ (⟨#[32]⟩ : ByteArray)).size + ((x3_4.extract 0 1) ++ (⟨#[63]⟩ : ByteArray)).size ≤ 9223372036854775807) = true := decide_eq_true c22
                        try have c22b2 : (9223372036854775807 < (((t114 ++ (⟨#[45]⟩ : ByteArray)) ++ t115) ++ (⟨#[32]⟩ : ByteArray)).size + ((x3_4.extract 0 1) ++ (⟨#[63]⟩ : ByteArray)).size) = False := eq_false (Nat.not_lt.2 c22)
                        try (have c22b3 := c22; simp at c22b3; have c22b4 := eq_true c22b3; have c22b5 := decide_eq_true c22b3; have c22b6 := eq_false (Nat.not_lt.2 c22b3))
                        have c22b7 : t114.size + 1 + t115.size + 1 + ((x3_4.extract 0 1).size + 1) ≤ 9223372036854775807 := by have h_ := c22; simp only [ByteArray.size_append] at h_; exact h_
                        have c22b8 := eq_false (Nat.not_lt.2 c22b7)
                        replace c22b7 := eq_true c22b7
                        try (have c22b9 : t114.size + 1 + t115.size + 1 + ((min 1 x3_4.size) + 1) ≤ 9223372036854775807 := (by have h_ := c22; simp only [ByteArray.size_append, ByteArray.size_extract, Nat.sub_zero] at h_; exact h_); have c22bA := eq_false (Nat.not_lt.2 c22b9); replace c22b9 := eq_true c22b9)
                        by_cases c23 : ((((t114 ++ (⟨#[45]⟩ : ByteArray)) ++ t115) ++ (⟨#[32]⟩ : ByteArray)) ++ ((x3_4.extract 0 1) ++ (⟨#[63]⟩ : ByteArray))).size + 1 ≤ 9223372036854775807
                        · rw [if_pos c23] at H
                          have c23b0 := eq_true c23
                          have c23b1 : decide (((((t114 ++ (⟨#[45]⟩ : ByteArray)) ++ t115) ++ (⟨#[32]⟩ : ByteArray)) ++ ((x3_4.extract 0 1) ++ (⟨#[63]⟩ : ByteArray))).size + 1 ≤ 9223372036854775807) = true := decide_eq_true c23
                          try have c23b2 : (9223372036854775807 < ((((t114 ++ (⟨#[45]⟩ : ByteArray)) ++ t115) ++ (⟨#[32]⟩ : ByteArray)) ++ ((x3_4.extract 0 1) ++ (⟨#[63]⟩ : ByteArray))).size + 1) = False := eq_false (Nat.not_lt.2 c23)
                          try (have c23b3 := c23; simp at c23b3; have c23b4 := eq_true c23b3; have c23b5 := decide_eq_true c23b3; have c23b6 := eq_false (Nat.not_lt.2 c23b3))
                          have c23b7 : t114.size + 1 + t115.size + 1 + ((x3_4.extract 0 1).size + 1) + 1 ≤ 9223372036854775807 := by have h_ := c23; simp only [ByteArray.size_append] at h_; exact h_
                          have c23b8 := eq_false (Nat.not_lt.2 c23b7)
                          replace c23b7 := eq_true c23b7
                          try (have c23b9 : t114.size + 1 + t115.size + 1 + ((min 1 x3_4.size) + 1) + 1 ≤ 9223372036854775807 := (by have h_ := c23; simp only [ByteArray.size_append, ByteArray.size_extract, Nat.sub_zero] at h_; exact h_); have c23bA := eq_false (Nat.not_lt.2 c23b9); replace c23b9 := eq_true c23b9)
                          by_cases c24 : 0 ≤ a0_4
                          · rw [if_pos c24] at H
                            have c24b0 := eq_true c24
                            have c24b1 : decide (0 ≤ a0_4) = true := decide_eq_true c24
                            clear c24
                            by_cases c25 : a0_4 ≤ (wrap64 (a0_4 + 1))
                            · rw [if_pos c25] at H
                              have c25b0 := eq_true c25
                              have c25b1 : decide (a0_4 ≤ (wrap64 (a0_4 + 1))) = true := decide_eq_true c25
                              by_cases c26 : (wrap64 (a0_4 + 1)) ≤ 3
                              · rw [if_pos c26] at H
                                have c26b0 := eq_true c26
                                have c26b1 : decide ((wrap64 (a0_4 + 1)) ≤ 3) = true := decide_eq_true c26
                                by_cases c27 : (((((t114 ++ (⟨#[45]⟩ : ByteArray)) ++ t115) ++ (⟨#[32]⟩ : ByteArray)) ++ ((x3_4.extract 0 1) ++ (⟨#[63]⟩ : ByteArray))) ++ (⟨#[32]⟩ : ByteArray)).size + ((⟨#[114, 119, 120]⟩ : ByteArray).extract (a0_4 : Int).toNat ((wrap64 (a0_4 + 1)) : Int).toNat).size ≤ 9223372036854775807
                                · rw [if_pos c27] at H
                                  have c27b0 := eq_true c27
                                  have c27b1 : decide ((((((t114 ++ (⟨#[45]⟩ : ByteArray)) ++ t115) ++ (⟨#[32]⟩ : ByteArray)) ++ ((x3_4.extract 0 1) ++ (⟨#[63]⟩ : ByteArray))) ++ (⟨#[32]⟩ : ByteArray)).size + ((⟨#[114, 119, 120]⟩ : ByteArray).extract (a0_4 : Int).toNat ((wrap64 (a0_4 + 1)) : Int).toNat).size ≤ 9223372036854775807) = true := decide_eq_true c27
                                  try have c27b2 : (9223372036854775807 < (((((t114 ++ (⟨#[45]⟩ : ByteArray)) ++ t115) ++ (⟨#[32]⟩ : ByteArray)) ++ ((x3_4.extract 0 1) ++ (⟨#[63]⟩ : ByteArray))) ++ (⟨#[32]⟩ : ByteArray)).size + ((⟨#[114, 119, 120]⟩ : ByteArray).extract (a0_4 : Int).toNat ((wrap64 (a0_4 + 1)) : Int).toNat).size) = False := eq_false (Nat.not_lt.2 c27)
                                  try (have c27b3 := c27; simp at c27b3; have c27b4 := eq_true c27b3; have c27b5 := decide_eq_true c27b3; have c27b6 := eq_false (Nat.not_lt.2 c27b3))
                                  have c27b7 : t114.size + 1 + t115.size + 1 + ((x3_4.extract 0 1).size + 1) + 1 + ((⟨#[114, 119, 120]⟩ : ByteArray).extract (a0_4 : Int).toNat ((wrap64 (a0_4 + 1)) : Int).toNat).size ≤ 9223372036854775807 := by have h_ := c27; simp only [ByteArray.size_append] at h_; exact h_
                                  have c27b8 := eq_false (Nat.not_lt.2 c27b7)
                                  replace c27b7 := eq_true c27b7
                                  try (have c27b9 : t114.size + 1 + t115.size + 1 + ((min 1 x3_4.size) + 1) + 1 + ((⟨#[114, 119, 120]⟩ : ByteArray).extract (a0_4 : Int).toNat ((wrap64 (a0_4 + 1)) : Int).toNat).size ≤ 9223372036854775807 := (by have h_ := c27; simp only [ByteArray.size_append, ByteArray.size_extract, Nat.sub_zero] at h_; exact h_); have c27bA := eq_false (Nat.not_lt.2 c27b9); replace c27b9 := eq_true c27b9)
                                  obtain rfl := Option.some.inj H
                                  have hcz28_0 : wc.cell? ⟨gb111, 0, none⟩ = some (.int .u16 a0_0) := (blk_cell BK111.out 0).trans rfl
                                  have hcz28_1 : wc.cell? ⟨gb111, 1, none⟩ = some (.int .u16 a0_1) := (blk_cell BK111.out 1).trans rfl
                                  have hcz28_2 : wc.cell? ⟨gb111, 2, none⟩ = some (.int .u8 a0_2) := (blk_cell BK111.out 2).trans rfl
                                  have hcz28_3 : wc.cell? ⟨gb111, 3, none⟩ = some (.int .u8 a0_3) := (blk_cell BK111.out 3).trans rfl
                                  have hcz28_4 : wc.cell? ⟨gb111, 4, none⟩ = some (.int .i64 a0_4) := (blk_cell BK111.out 4).trans rfl
                                  have hfz28_0 := blk_frozen BK111.out 0
                                  have hfz28_1 := blk_frozen BK111.out 1
                                  have hfz28_2 := blk_frozen BK111.out 2
                                  have hfz28_3 := blk_frozen BK111.out 3
                                  have hfz28_4 := blk_frozen BK111.out 4
                                  go_wp2_with (first | (go_at_call 30; (with_reducible refine (spec_HexText.calls kj4 (wrap64 (a0_0)) 4 t114 _ A17.out).mono ?_); rintro e w' ⟨rfl, ⟨nd, rfl⟩⟩; (try first | exact ⟨rfl, _, World.drewN_drewN _ _ _⟩ | exact ⟨rfl, _, Eq.trans (World.drewN_drewN _ _ _) (congrArg (World.drewN _) (Nat.add_assoc _ _ _))⟩)) | (go_at_call 30; (with_reducible refine (spec_HexText.calls kj4 (wrap64 (a0_1)) 4 t115 _ A19.out).mono ?_); rintro e w' ⟨rfl, ⟨nd, rfl⟩⟩; (try first | exact ⟨rfl, _, World.drewN_drewN _ _ _⟩ | exact ⟨rfl, _, Eq.trans (World.drewN_drewN _ _ _) (congrArg (World.drewN _) (Nat.add_assoc _ _ _))⟩)))
                                  repeat (go_quiet (first | (go_at_call 30; (with_reducible refine (spec_HexText.calls kj4 (wrap64 (a0_0)) 4 t114 _ A17.out).mono ?_); rintro e w' ⟨rfl, ⟨nd, rfl⟩⟩; (try first | exact ⟨rfl, _, World.drewN_drewN _ _ _⟩ | exact ⟨rfl, _, Eq.trans (World.drewN_drewN _ _ _) (congrArg (World.drewN _) (Nat.add_assoc _ _ _))⟩)) | (go_at_call 30; (with_reducible refine (spec_HexText.calls kj4 (wrap64 (a0_1)) 4 t115 _ A19.out).mono ?_); rintro e w' ⟨rfl, ⟨nd, rfl⟩⟩; (try first | exact ⟨rfl, _, World.drewN_drewN _ _ _⟩ | exact ⟨rfl, _, Eq.trans (World.drewN_drewN _ _ _) (congrArg (World.drewN _) (Nat.add_assoc _ _ _))⟩))); try go_wp2_with (first | (go_at_call 30; (with_reducible refine (spec_HexText.calls kj4 (wrap64 (a0_0)) 4 t114 _ A17.out).mono ?_); rintro e w' ⟨rfl, ⟨nd, rfl⟩⟩; (try first | exact ⟨rfl, _, World.drewN_drewN _ _ _⟩ | exact ⟨rfl, _, Eq.trans (World.drewN_drewN _ _ _) (congrArg (World.drewN _) (Nat.add_assoc _ _ _))⟩)) | (go_at_call 30; (with_reducible refine (spec_HexText.calls kj4 (wrap64 (a0_1)) 4 t115 _ A19.out).mono ?_); rintro e w' ⟨rfl, ⟨nd, rfl⟩⟩; (try first | exact ⟨rfl, _, World.drewN_drewN _ _ _⟩ | exact ⟨rfl, _, Eq.trans (World.drewN_drewN _ _ _) (congrArg (World.drewN _) (Nat.add_assoc _ _ _))⟩))))
                                  go_ret
                                  exact ⟨by first | rfl | (simp [errW_none, errW_some] <;> rfl) | (simp [*, errW_none, errW_some] <;> rfl), by repeat (first | (with_reducible first | exact HB.out | apply below_alloc | apply pw_below_drewN | apply below_drew1 | refine below_set ?_ GE111.out) | exact HB.out)⟩
                                · rw [if_neg c27] at H
                                  exact absurd H (by simp)
                              · rw [if_neg c26] at H
                                exact absurd H (by simp)
                            · rw [if_neg c25] at H
                              exact absurd H (by simp)
                          · rw [if_neg c24] at H
                            exact absurd H (by simp)
                        · rw [if_neg c23] at H
                          exact absurd H (by simp)
                      · rw [if_neg c22] at H
                        exact absurd H (by simp)
                    · rw [if_neg c21] at H
                      exact absurd H (by simp)
                  · rw [if_neg c20] at H
                    exact absurd H (by simp)
                · rw [if_neg c18] at H
                  exact absurd H (by simp)
              · rw [if_neg c16] at H
                exact absurd H (by simp)
            · rw [if_neg c15] at H
              exact absurd H (by simp)
          · rw [if_neg c14] at H
            exact absurd H (by simp)
        · rw [if_neg c13] at H
          have c13b0 : ((Go.bits .and .u8 a0_2 15) == 0) = false := beq_eq_false_iff_ne.mpr c13
          have c13b1 : ((Go.bits .and .u8 a0_2 15) != 0) = true := bne_iff_ne.mpr c13
          replace H := Option.bind_eq_some_iff.mp H
          obtain ⟨t116, A290, H⟩ := H
          replace H : (if t116.size + 1 ≤ 9223372036854775807 then ((spec_HexText.f kj4 (wrap64 (a0_1)) 4).bind fun t117 => (if (t116 ++ (⟨#[45]⟩ : ByteArray)).size + t117.size ≤ 9223372036854775807 then (if ((t116 ++ (⟨#[45]⟩ : ByteArray)) ++ t117).size + 1 ≤ 9223372036854775807 then (if (((t116 ++ (⟨#[45]⟩ : ByteArray)) ++ t117) ++ (⟨#[32]⟩ : ByteArray)).size + x3_4.size ≤ 9223372036854775807 then (if ((((t116 ++ (⟨#[45]⟩ : ByteArray)) ++ t117) ++ (⟨#[32]⟩ : ByteArray)) ++ x3_4).size + 1 ≤ 9223372036854775807 then (if 0 ≤ a0_4 then (if a0_4 ≤ (wrap64 (a0_4 + 1)) then (if (wrap64 (a0_4 + 1)) ≤ 3 then (if (((((t116 ++ (⟨#[45]⟩ : ByteArray)) ++ t117) ++ (⟨#[32]⟩ : ByteArray)) ++ x3_4) ++ (⟨#[32]⟩ : ByteArray)).size + ((⟨#[114, 119, 120]⟩ : ByteArray).extract (a0_4 : Int).toNat ((wrap64 (a0_4 + 1)) : Int).toNat).size ≤ 9223372036854775807 then (some ((((((t116 ++ (⟨#[45]⟩ : ByteArray)) ++ t117) ++ (⟨#[32]⟩ : ByteArray)) ++ x3_4) ++ (⟨#[32]⟩ : ByteArray)) ++ ((⟨#[114, 119, 120]⟩ : ByteArray).extract (a0_4 : Int).toNat ((wrap64 (a0_4 + 1)) : Int).toNat))) else (none)) else (none)) else (none)) else (none)) else (none)) else (none)) else (none)) else (none))) else (none)) = some r := H
          have A29 := Aside0.mk A290
          clear A290
          by_cases c30 : t116.size + 1 ≤ 9223372036854775807
          · rw [if_pos c30] at H
            have c30b0 := eq_true c30
            have c30b1 : decide (t116.size + 1 ≤ 9223372036854775807) = true := decide_eq_true c30
            try have c30b2 : (9223372036854775807 < t116.size + 1) = False := eq_false (Nat.not_lt.2 c30)
            try (have c30b3 := c30; simp at c30b3; have c30b4 := eq_true c30b3; have c30b5 := decide_eq_true c30b3; have c30b6 := eq_false (Nat.not_lt.2 c30b3))
            replace H := Option.bind_eq_some_iff.mp H
            obtain ⟨t117, A310, H⟩ := H
            replace H : (if (t116 ++ (⟨#[45]⟩ : ByteArray)).size + t117.size ≤ 9223372036854775807 then (if ((t116 ++ (⟨#[45]⟩ : ByteArray)) ++ t117).size + 1 ≤ 9223372036854775807 then (if (((t116 ++ (⟨#[45]⟩ : ByteArray)) ++ t117) ++ (⟨#[32]⟩ : ByteArray)).size + x3_4.size ≤ 9223372036854775807 then (if ((((t116 ++ (⟨#[45]⟩ : ByteArray)) ++ t117) ++ (⟨#[32]⟩ : ByteArray)) ++ x3_4).size + 1 ≤ 9223372036854775807 then (if 0 ≤ a0_4 then (if a0_4 ≤ (wrap64 (a0_4 + 1)) then (if (wrap64 (a0_4 + 1)) ≤ 3 then (if (((((t116 ++ (⟨#[45]⟩ : ByteArray)) ++ t117) ++ (⟨#[32]⟩ : ByteArray)) ++ x3_4) ++ (⟨#[32]⟩ : ByteArray)).size + ((⟨#[114, 119, 120]⟩ : ByteArray).extract (a0_4 : Int).toNat ((wrap64 (a0_4 + 1)) : Int).toNat).size ≤ 9223372036854775807 then (some ((((((t116 ++ (⟨#[45]⟩ : ByteArray)) ++ t117) ++ (⟨#[32]⟩ : ByteArray)) ++ x3_4) ++ (⟨#[32]⟩ : ByteArray)) ++ ((⟨#[114, 119, 120]⟩ : ByteArray).extract (a0_4 : Int).toNat ((wrap64 (a0_4 + 1)) : Int).toNat))) else (none)) else (none)) else (none)) else (none)) else (none)) else (none)) else (none)) else (none)) = some r := H
            have A31 := Aside0.mk A310
            clear A310
            by_cases c32 : (t116 ++ (⟨#[45]⟩ : ByteArray)).size + t117.size ≤ 9223372036854775807
            · rw [if_pos c32] at H
              have c32b0 := eq_true c32
              have c32b1 : decide ((t116 ++ (⟨#[45]⟩ : ByteArray)).size + t117.size ≤ 9223372036854775807) = true := decide_eq_true c32
              try have c32b2 : (9223372036854775807 < (t116 ++ (⟨#[45]⟩ : ByteArray)).size + t117.size) = False := eq_false (Nat.not_lt.2 c32)
              try (have c32b3 := c32; simp at c32b3; have c32b4 := eq_true c32b3; have c32b5 := decide_eq_true c32b3; have c32b6 := eq_false (Nat.not_lt.2 c32b3))
              have c32b7 : t116.size + 1 + t117.size ≤ 9223372036854775807 := by have h_ := c32; simp only [ByteArray.size_append] at h_; exact h_
              have c32b8 := eq_false (Nat.not_lt.2 c32b7)
              replace c32b7 := eq_true c32b7
              by_cases c33 : ((t116 ++ (⟨#[45]⟩ : ByteArray)) ++ t117).size + 1 ≤ 9223372036854775807
              · rw [if_pos c33] at H
                have c33b0 := eq_true c33
                have c33b1 : decide (((t116 ++ (⟨#[45]⟩ : ByteArray)) ++ t117).size + 1 ≤ 9223372036854775807) = true := decide_eq_true c33
                try have c33b2 : (9223372036854775807 < ((t116 ++ (⟨#[45]⟩ : ByteArray)) ++ t117).size + 1) = False := eq_false (Nat.not_lt.2 c33)
                try (have c33b3 := c33; simp at c33b3; have c33b4 := eq_true c33b3; have c33b5 := decide_eq_true c33b3; have c33b6 := eq_false (Nat.not_lt.2 c33b3))
                have c33b7 : t116.size + 1 + t117.size + 1 ≤ 9223372036854775807 := by have h_ := c33; simp only [ByteArray.size_append] at h_; exact h_
                have c33b8 := eq_false (Nat.not_lt.2 c33b7)
                replace c33b7 := eq_true c33b7
                by_cases c34 : (((t116 ++ (⟨#[45]⟩ : ByteArray)) ++ t117) ++ (⟨#[32]⟩ : ByteArray)).size + x3_4.size ≤ 9223372036854775807
                · rw [if_pos c34] at H
                  have c34b0 := eq_true c34
                  have c34b1 : decide ((((t116 ++ (⟨#[45]⟩ : ByteArray)) ++ t117) ++ (⟨#[32]⟩ : ByteArray)).size + x3_4.size ≤ 9223372036854775807) = true := decide_eq_true c34
                  try have c34b2 : (9223372036854775807 < (((t116 ++ (⟨#[45]⟩ : ByteArray)) ++ t117) ++ (⟨#[32]⟩ : ByteArray)).size + x3_4.size) = False := eq_false (Nat.not_lt.2 c34)
                  try (have c34b3 := c34; simp at c34b3; have c34b4 := eq_true c34b3; have c34b5 := decide_eq_true c34b3; have c34b6 := eq_false (Nat.not_lt.2 c34b3))
                  have c34b7 : t116.size + 1 + t117.size + 1 + x3_4.size ≤ 9223372036854775807 := by have h_ := c34; simp only [ByteArray.size_append] at h_; exact h_
                  have c34b8 := eq_false (Nat.not_lt.2 c34b7)
                  replace c34b7 := eq_true c34b7
                  by_cases c35 : ((((t116 ++ (⟨#[45]⟩ : ByteArray)) ++ t117) ++ (⟨#[32]⟩ : ByteArray)) ++ x3_4).size + 1 ≤ 9223372036854775807
                  · rw [if_pos c35] at H
                    have c35b0 := eq_true c35
                    have c35b1 : decide (((((t116 ++ (⟨#[45]⟩ : ByteArray)) ++ t117) ++ (⟨#[32]⟩ : ByteArray)) ++ x3_4).size + 1 ≤ 9223372036854775807) = true := decide_eq_true c35
                    try have c35b2 : (9223372036854775807 < ((((t116 ++ (⟨#[45]⟩ : ByteArray)) ++ t117) ++ (⟨#[32]⟩ : ByteArray)) ++ x3_4).size + 1) = False := eq_false (Nat.not_lt.2 c35)
                    try (have c35b3 := c35; simp at c35b3; have c35b4 := eq_true c35b3; have c35b5 := decide_eq_true c35b3; have c35b6 := eq_false (Nat.not_lt.2 c35b3))
                    have c35b7 : t116.size + 1 + t117.size + 1 + x3_4.size + 1 ≤ 9223372036854775807 := by have h_ := c35; simp only [ByteArray.size_append] at h_; exact h_
                    have c35b8 := eq_false (Nat.not_lt.2 c35b7)
                    replace c35b7 := eq_true c35b7
                    by_cases c36 : 0 ≤ a0_4
                    · rw [if_pos c36] at H
                      have c36b0 := eq_true c36
                      have c36b1 : decide (0 ≤ a0_4) = true := decide_eq_true c36
                      clear c36
                      by_cases c37 : a0_4 ≤ (wrap64 (a0_4 + 1))
                      · rw [if_pos c37] at H
                        have c37b0 := eq_true c37
                        have c37b1 : decide (a0_4 ≤ (wrap64 (a0_4 + 1))) = true := decide_eq_true c37
                        by_cases c38 : (wrap64 (a0_4 + 1)) ≤ 3
                        · rw [if_pos c38] at H
                          have c38b0 := eq_true c38
                          have c38b1 : decide ((wrap64 (a0_4 + 1)) ≤ 3) = true := decide_eq_true c38
                          by_cases c39 : (((((t116 ++ (⟨#[45]⟩ : ByteArray)) ++ t117) ++ (⟨#[32]⟩ : ByteArray)) ++ x3_4) ++ (⟨#[32]⟩ : ByteArray)).size + ((⟨#[114, 119, 120]⟩ : ByteArray).extract (a0_4 : Int).toNat ((wrap64 (a0_4 + 1)) : Int).toNat).size ≤ 9223372036854775807
                          · rw [if_pos c39] at H
                            have c39b0 := eq_true c39
                            have c39b1 : decide ((((((t116 ++ (⟨#[45]⟩ : ByteArray)) ++ t117) ++ (⟨#[32]⟩ : ByteArray)) ++ x3_4) ++ (⟨#[32]⟩ : ByteArray)).size + ((⟨#[114, 119, 120]⟩ : ByteArray).extract (a0_4 : Int).toNat ((wrap64 (a0_4 + 1)) : Int).toNat).size ≤ 9223372036854775807) = true := decide_eq_true c39
                            try have c39b2 : (9223372036854775807 < (((((t116 ++ (⟨#[45]⟩ : ByteArray)) ++ t117) ++ (⟨#[32]⟩ : ByteArray)) ++ x3_4) ++ (⟨#[32]⟩ : ByteArray)).size + ((⟨#[114, 119, 120]⟩ : ByteArray).extract (a0_4 : Int).toNat ((wrap64 (a0_4 + 1)) : Int).toNat).size) = False := eq_false (Nat.not_lt.2 c39)
                            try (have c39b3 := c39; simp at c39b3; have c39b4 := eq_true c39b3; have c39b5 := decide_eq_true c39b3; have c39b6 := eq_false (Nat.not_lt.2 c39b3))
                            have c39b7 : t116.size + 1 + t117.size + 1 + x3_4.size + 1 + ((⟨#[114, 119, 120]⟩ : ByteArray).extract (a0_4 : Int).toNat ((wrap64 (a0_4 + 1)) : Int).toNat).size ≤ 9223372036854775807 := by have h_ := c39; simp only [ByteArray.size_append] at h_; exact h_
                            have c39b8 := eq_false (Nat.not_lt.2 c39b7)
                            replace c39b7 := eq_true c39b7
                            obtain rfl := Option.some.inj H
                            have hcz40_0 : wc.cell? ⟨gb111, 0, none⟩ = some (.int .u16 a0_0) := (blk_cell BK111.out 0).trans rfl
                            have hcz40_1 : wc.cell? ⟨gb111, 1, none⟩ = some (.int .u16 a0_1) := (blk_cell BK111.out 1).trans rfl
                            have hcz40_2 : wc.cell? ⟨gb111, 2, none⟩ = some (.int .u8 a0_2) := (blk_cell BK111.out 2).trans rfl
                            have hcz40_3 : wc.cell? ⟨gb111, 3, none⟩ = some (.int .u8 a0_3) := (blk_cell BK111.out 3).trans rfl
                            have hcz40_4 : wc.cell? ⟨gb111, 4, none⟩ = some (.int .i64 a0_4) := (blk_cell BK111.out 4).trans rfl
                            have hfz40_0 := blk_frozen BK111.out 0
                            have hfz40_1 := blk_frozen BK111.out 1
                            have hfz40_2 := blk_frozen BK111.out 2
                            have hfz40_3 := blk_frozen BK111.out 3
                            have hfz40_4 := blk_frozen BK111.out 4
                            go_wp2_with (first | (go_at_call 30; (with_reducible refine (spec_HexText.calls kj4 (wrap64 (a0_0)) 4 t116 _ A29.out).mono ?_); rintro e w' ⟨rfl, ⟨nd, rfl⟩⟩; (try first | exact ⟨rfl, _, World.drewN_drewN _ _ _⟩ | exact ⟨rfl, _, Eq.trans (World.drewN_drewN _ _ _) (congrArg (World.drewN _) (Nat.add_assoc _ _ _))⟩)) | (go_at_call 30; (with_reducible refine (spec_HexText.calls kj4 (wrap64 (a0_1)) 4 t117 _ A31.out).mono ?_); rintro e w' ⟨rfl, ⟨nd, rfl⟩⟩; (try first | exact ⟨rfl, _, World.drewN_drewN _ _ _⟩ | exact ⟨rfl, _, Eq.trans (World.drewN_drewN _ _ _) (congrArg (World.drewN _) (Nat.add_assoc _ _ _))⟩)))
                            repeat (go_quiet (first | (go_at_call 30; (with_reducible refine (spec_HexText.calls kj4 (wrap64 (a0_0)) 4 t116 _ A29.out).mono ?_); rintro e w' ⟨rfl, ⟨nd, rfl⟩⟩; (try first | exact ⟨rfl, _, World.drewN_drewN _ _ _⟩ | exact ⟨rfl, _, Eq.trans (World.drewN_drewN _ _ _) (congrArg (World.drewN _) (Nat.add_assoc _ _ _))⟩)) | (go_at_call 30; (with_reducible refine (spec_HexText.calls kj4 (wrap64 (a0_1)) 4 t117 _ A31.out).mono ?_); rintro e w' ⟨rfl, ⟨nd, rfl⟩⟩; (try first | exact ⟨rfl, _, World.drewN_drewN _ _ _⟩ | exact ⟨rfl, _, Eq.trans (World.drewN_drewN _ _ _) (congrArg (World.drewN _) (Nat.add_assoc _ _ _))⟩))); try go_wp2_with (first | (go_at_call 30; (with_reducible refine (spec_HexText.calls kj4 (wrap64 (a0_0)) 4 t116 _ A29.out).mono ?_); rintro e w' ⟨rfl, ⟨nd, rfl⟩⟩; (try first | exact ⟨rfl, _, World.drewN_drewN _ _ _⟩ | exact ⟨rfl, _, Eq.trans (World.drewN_drewN _ _ _) (congrArg (World.drewN _) (Nat.add_assoc _ _ _))⟩)) | (go_at_call 30; (with_reducible refine (spec_HexText.calls kj4 (wrap64 (a0_1)) 4 t117 _ A31.out).mono ?_); rintro e w' ⟨rfl, ⟨nd, rfl⟩⟩; (try first | exact ⟨rfl, _, World.drewN_drewN _ _ _⟩ | exact ⟨rfl, _, Eq.trans (World.drewN_drewN _ _ _) (congrArg (World.drewN _) (Nat.add_assoc _ _ _))⟩))))
                            go_ret
                            exact ⟨by first | rfl | (simp [errW_none, errW_some] <;> rfl) | (simp [*, errW_none, errW_some] <;> rfl), by repeat (first | (with_reducible first | exact HB.out | apply below_alloc | apply pw_below_drewN | apply below_drew1 | refine below_set ?_ GE111.out) | exact HB.out)⟩
                          · rw [if_neg c39] at H
                            exact absurd H (by simp)
                        · rw [if_neg c38] at H
                          exact absurd H (by simp)
                      · rw [if_neg c37] at H
                        exact absurd H (by simp)
                    · rw [if_neg c36] at H
                      exact absurd H (by simp)
                  · rw [if_neg c35] at H
                    exact absurd H (by simp)
                · rw [if_neg c34] at H
                  exact absurd H (by simp)
              · rw [if_neg c33] at H
                exact absurd H (by simp)
            · rw [if_neg c32] at H
              exact absurd H (by simp)
          · rw [if_neg c30] at H
            exact absurd H (by simp)
  · replace c3 := Bool.eq_false_iff.mpr c3
    subst c3
    have H1 : (some (⟨#[]⟩ : ByteArray)) = some r := by rw [if_neg (show ¬ (false = true) by decide)] at H; exact H
    clear H
    have H := H1
    clear H1
    obtain rfl := Option.some.inj H
    go_enter Try.func16, Try.ntmps16
    go_wp2_with (first | ((with_reducible refine gate_dst (N := 1) rfl ?_); refine box_event ?hg (N := 1) ?hd (cs := #[.int .u16 a0_0, .int .u16 a0_1, .int .u8 a0_2, .int .u8 a0_3, .int .i64 a0_4]) (t := 24) ?hr ?_; (case hd => rfl); (case hg => rfl); (case hr => first | (go_simp; done) | (go_simp; rfl)); intro gb111 hg w41 hbox hb; have n0_ := Aside0.mk (below_step (by repeat (first | (with_reducible first | exact HB.out | apply below_alloc | apply pw_below_drewN | apply below_drew1) | exact HB.out)) hb); have n1_ := Aside0.mk (hbox); have n2_ := Aside0.mk ((by rw [hg]; exact (below_size (by repeat (first | (with_reducible first | exact HB.out | apply below_alloc | apply pw_below_drewN | apply below_drew1) | exact HB.out))) : w.heap.size ≤ gb111)); have n3_ := Aside0.mk ((by rw [hg]; exact (below_size (by repeat (first | (with_reducible first | exact HB.out | apply below_alloc | apply pw_below_drewN | apply below_drew1) | exact HB.out))) : w.heap.size ≤ gb111)); clear HB; have HB := n0_; have BK111 := n1_; have GW111 := n2_; have GE111 := n3_; clear n0_ n1_ n2_ n3_; clear hb hbox hg; have hcz42_0 : w41.cell? ⟨gb111, 0, none⟩ = some (.int .u16 a0_0) := (blk_cell BK111.out 0).trans rfl; have hcz42_1 : w41.cell? ⟨gb111, 1, none⟩ = some (.int .u16 a0_1) := (blk_cell BK111.out 1).trans rfl; have hcz42_2 : w41.cell? ⟨gb111, 2, none⟩ = some (.int .u8 a0_2) := (blk_cell BK111.out 2).trans rfl; have hcz42_3 : w41.cell? ⟨gb111, 3, none⟩ = some (.int .u8 a0_3) := (blk_cell BK111.out 3).trans rfl; have hcz42_4 : w41.cell? ⟨gb111, 4, none⟩ = some (.int .i64 a0_4) := (blk_cell BK111.out 4).trans rfl; have hfz42_0 := blk_frozen BK111.out 0; have hfz42_1 := blk_frozen BK111.out 1; have hfz42_2 := blk_frozen BK111.out 2; have hfz42_3 := blk_frozen BK111.out 3; have hfz42_4 := blk_frozen BK111.out 4) | (go_at_call 14; (with_reducible refine (spec_RuleOk.calls a0_0 a0_1 a0_2 a0_3 a0_4 false _ A2.out).mono ?_); rintro e w43 ⟨rfl, hb⟩; have n0_ := Aside0.mk (blk_below (g := gb111) (o := .cells #[.int .u16 a0_0, .int .u16 a0_1, .int .u8 a0_2, .int .u8 a0_3, .int .i64 a0_4] 24 (0, 0)) (by (with_reducible repeat (first | refine blk_drewN ?_ _ | refine blk_drew ?_ | refine blk_alloc ?_ _)); exact BK111.out) hb); have n1_ := Aside0.mk (below_step (by repeat (first | (with_reducible first | exact HB.out | apply below_alloc | apply pw_below_drewN | apply below_drew1 | refine below_set ?_ GE111.out) | exact HB.out)) hb); clear BK111; clear HB; have BK111 := n0_; have HB := n1_; clear n0_ n1_; (try clear hb); (try clear hb2); (try clear hk); (try clear hi)))
    repeat (go_quiet (first | ((with_reducible refine gate_dst (N := 1) rfl ?_); refine box_event ?hg (N := 1) ?hd (cs := #[.int .u16 a0_0, .int .u16 a0_1, .int .u8 a0_2, .int .u8 a0_3, .int .i64 a0_4]) (t := 24) ?hr ?_; (case hd => rfl); (case hg => rfl); (case hr => first | (go_simp; done) | (go_simp; rfl)); intro gb111 hg w41 hbox hb; have n0_ := Aside0.mk (below_step (by repeat (first | (with_reducible first | exact HB.out | apply below_alloc | apply pw_below_drewN | apply below_drew1) | exact HB.out)) hb); have n1_ := Aside0.mk (hbox); have n2_ := Aside0.mk ((by rw [hg]; exact (below_size (by repeat (first | (with_reducible first | exact HB.out | apply below_alloc | apply pw_below_drewN | apply below_drew1) | exact HB.out))) : w.heap.size ≤ gb111)); have n3_ := Aside0.mk ((by rw [hg]; exact (below_size (by repeat (first | (with_reducible first | exact HB.out | apply below_alloc | apply pw_below_drewN | apply below_drew1) | exact HB.out))) : w.heap.size ≤ gb111)); clear HB; have HB := n0_; have BK111 := n1_; have GW111 := n2_; have GE111 := n3_; clear n0_ n1_ n2_ n3_; clear hb hbox hg; have hcz42_0 : w41.cell? ⟨gb111, 0, none⟩ = some (.int .u16 a0_0) := (blk_cell BK111.out 0).trans rfl; have hcz42_1 : w41.cell? ⟨gb111, 1, none⟩ = some (.int .u16 a0_1) := (blk_cell BK111.out 1).trans rfl; have hcz42_2 : w41.cell? ⟨gb111, 2, none⟩ = some (.int .u8 a0_2) := (blk_cell BK111.out 2).trans rfl; have hcz42_3 : w41.cell? ⟨gb111, 3, none⟩ = some (.int .u8 a0_3) := (blk_cell BK111.out 3).trans rfl; have hcz42_4 : w41.cell? ⟨gb111, 4, none⟩ = some (.int .i64 a0_4) := (blk_cell BK111.out 4).trans rfl; have hfz42_0 := blk_frozen BK111.out 0; have hfz42_1 := blk_frozen BK111.out 1; have hfz42_2 := blk_frozen BK111.out 2; have hfz42_3 := blk_frozen BK111.out 3; have hfz42_4 := blk_frozen BK111.out 4) | (go_at_call 14; (with_reducible refine (spec_RuleOk.calls a0_0 a0_1 a0_2 a0_3 a0_4 false _ A2.out).mono ?_); rintro e w43 ⟨rfl, hb⟩; have n0_ := Aside0.mk (blk_below (g := gb111) (o := .cells #[.int .u16 a0_0, .int .u16 a0_1, .int .u8 a0_2, .int .u8 a0_3, .int .i64 a0_4] 24 (0, 0)) (by (with_reducible repeat (first | refine blk_drewN ?_ _ | refine blk_drew ?_ | refine blk_alloc ?_ _)); exact BK111.out) hb); have n1_ := Aside0.mk (below_step (by repeat (first | (with_reducible first | exact HB.out | apply below_alloc | apply pw_below_drewN | apply below_drew1 | refine below_set ?_ GE111.out) | exact HB.out)) hb); clear BK111; clear HB; have BK111 := n0_; have HB := n1_; clear n0_ n1_; (try clear hb); (try clear hb2); (try clear hk); (try clear hi))); try go_wp2_with (first | ((with_reducible refine gate_dst (N := 1) rfl ?_); refine box_event ?hg (N := 1) ?hd (cs := #[.int .u16 a0_0, .int .u16 a0_1, .int .u8 a0_2, .int .u8 a0_3, .int .i64 a0_4]) (t := 24) ?hr ?_; (case hd => rfl); (case hg => rfl); (case hr => first | (go_simp; done) | (go_simp; rfl)); intro gb111 hg w41 hbox hb; have n0_ := Aside0.mk (below_step (by repeat (first | (with_reducible first | exact HB.out | apply below_alloc | apply pw_below_drewN | apply below_drew1) | exact HB.out)) hb); have n1_ := Aside0.mk (hbox); have n2_ := Aside0.mk ((by rw [hg]; exact (below_size (by repeat (first | (with_reducible first | exact HB.out | apply below_alloc | apply pw_below_drewN | apply below_drew1) | exact HB.out))) : w.heap.size ≤ gb111)); have n3_ := Aside0.mk ((by rw [hg]; exact (below_size (by repeat (first | (with_reducible first | exact HB.out | apply below_alloc | apply pw_below_drewN | apply below_drew1) | exact HB.out))) : w.heap.size ≤ gb111)); clear HB; have HB := n0_; have BK111 := n1_; have GW111 := n2_; have GE111 := n3_; clear n0_ n1_ n2_ n3_; clear hb hbox hg; have hcz42_0 : w41.cell? ⟨gb111, 0, none⟩ = some (.int .u16 a0_0) := (blk_cell BK111.out 0).trans rfl; have hcz42_1 : w41.cell? ⟨gb111, 1, none⟩ = some (.int .u16 a0_1) := (blk_cell BK111.out 1).trans rfl; have hcz42_2 : w41.cell? ⟨gb111, 2, none⟩ = some (.int .u8 a0_2) := (blk_cell BK111.out 2).trans rfl; have hcz42_3 : w41.cell? ⟨gb111, 3, none⟩ = some (.int .u8 a0_3) := (blk_cell BK111.out 3).trans rfl; have hcz42_4 : w41.cell? ⟨gb111, 4, none⟩ = some (.int .i64 a0_4) := (blk_cell BK111.out 4).trans rfl; have hfz42_0 := blk_frozen BK111.out 0; have hfz42_1 := blk_frozen BK111.out 1; have hfz42_2 := blk_frozen BK111.out 2; have hfz42_3 := blk_frozen BK111.out 3; have hfz42_4 := blk_frozen BK111.out 4) | (go_at_call 14; (with_reducible refine (spec_RuleOk.calls a0_0 a0_1 a0_2 a0_3 a0_4 false _ A2.out).mono ?_); rintro e w43 ⟨rfl, hb⟩; have n0_ := Aside0.mk (blk_below (g := gb111) (o := .cells #[.int .u16 a0_0, .int .u16 a0_1, .int .u8 a0_2, .int .u8 a0_3, .int .i64 a0_4] 24 (0, 0)) (by (with_reducible repeat (first | refine blk_drewN ?_ _ | refine blk_drew ?_ | refine blk_alloc ?_ _)); exact BK111.out) hb); have n1_ := Aside0.mk (below_step (by repeat (first | (with_reducible first | exact HB.out | apply below_alloc | apply pw_below_drewN | apply below_drew1 | refine below_set ?_ GE111.out) | exact HB.out)) hb); clear BK111; clear HB; have BK111 := n0_; have HB := n1_; clear n0_ n1_; (try clear hb); (try clear hb2); (try clear hk); (try clear hi))))
    go_ret
    exact ⟨by first | rfl | (simp [errW_none, errW_some] <;> rfl) | (simp [*, errW_none, errW_some] <;> rfl), by repeat (first | (with_reducible first | exact HB.out | apply below_alloc | apply pw_below_drewN | apply below_drew1 | refine below_set ?_ GE111.out) | exact HB.out)⟩

end Go.Proofs.Ytkngnnfjdmndeaa.ME
