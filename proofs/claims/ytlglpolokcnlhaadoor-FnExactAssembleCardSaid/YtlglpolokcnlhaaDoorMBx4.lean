-- Written by this session's own program (wip/myprint.py) over the kit's print of the translation. Lean checks it.
import Derived.Test.YtlglpolokcnlhaaDoorMBx0
import Derived.Test.YtlglpolokcnlhaaDoorMBx2
import Derived.Test.YtlglpolokcnlhaaDoorMBx3
namespace Go.Proofs.YtlglpolokcnlhaaDoor.MB
open Go.RowKit Go.Proofs.YtlglpolokcnlhaaDoorW.PrintWords Go.Proofs.YtlglpolokcnlhaaDoorW.PrintLast Go.Proofs.YtlglpolokcnlhaaDoorW.PrintMore
attribute [local go_sem] max2_int min2_int max_two min_two max_three min_three max_four min_four   -- for this text's walks alone
set_option linter.unusedVariables false
set_option linter.unusedSimpArgs false

/-! ### spec_ShowOp: function 18 -/
mutual
def spec_ShowOp.j0 : Nat → List Int → Int → Bool → Option (ByteArray)
 | 0, _, _, _ => none
 | k + 1, x0, x1, x26 => if x26 = true then (some (⟨#[]⟩ : ByteArray)) else (if 0 < (x0.length : Int) then ((spec_NameOf.f k (rd x0 0)).bind fun t179 => (if (x0.length : Int) > 1 then (if 1 < (x0.length : Int) then ((spec_HexText.f k (wrap64 (rd x0 1)) 2).bind fun t181 => (if 1 + t181.size ≤ 9223372036854775807 then (spec_ShowOp.j1 k x0 x1 t179 ((⟨#[36]⟩ : ByteArray) ++ t181) (⟨#[]⟩ : ByteArray)) else (none))) else (none)) else (spec_ShowOp.j1 k x0 x1 t179 (⟨#[]⟩ : ByteArray) (⟨#[]⟩ : ByteArray)))) else (none))
def spec_ShowOp.j1 : Nat → List Int → Int → ByteArray → ByteArray → ByteArray → Option (ByteArray)
 | 0, _, _, _, _, _ => none
 | k + 1, x0, x1, x5, x6, x7 => if (x0.length : Int) > 2 then (if 1 < (x0.length : Int) then (if 2 < (x0.length : Int) then ((spec_l04Word.f (rd x0 1) (rd x0 2)).bind fun t184 => ((spec_HexText.f k t184 4).bind fun t185 => (if 1 + t185.size ≤ 9223372036854775807 then (spec_ShowOp.j2 k x0 x1 x5 x6 ((⟨#[36]⟩ : ByteArray) ++ t185)) else (none)))) else (none)) else (none)) else (spec_ShowOp.j2 k x0 x1 x5 x6 x7)
def spec_ShowOp.j2 : Nat → List Int → Int → ByteArray → ByteArray → ByteArray → Option (ByteArray)
 | 0, _, _, _, _, _ => none
 | k + 1, x0, x1, x5, x6, x7 => if 0 < (x0.length : Int) then ((spec_ModeOf.f k (rd x0 0)).bind fun t187 => (if t187 = 1 then (if x5.size + 2 ≤ 9223372036854775807 then (some (x5 ++ (⟨#[32, 65]⟩ : ByteArray))) else (none)) else (if t187 = 2 then (if x5.size + 2 ≤ 9223372036854775807 then (if (x5 ++ (⟨#[32, 35]⟩ : ByteArray)).size + x6.size ≤ 9223372036854775807 then (some ((x5 ++ (⟨#[32, 35]⟩ : ByteArray)) ++ x6)) else (none)) else (none)) else (if t187 = 3 then (if x5.size + 1 ≤ 9223372036854775807 then (if (x5 ++ (⟨#[32]⟩ : ByteArray)).size + x6.size ≤ 9223372036854775807 then (some ((x5 ++ (⟨#[32]⟩ : ByteArray)) ++ x6)) else (none)) else (none)) else (if t187 = 4 then (if x5.size + 1 ≤ 9223372036854775807 then (if (x5 ++ (⟨#[32]⟩ : ByteArray)).size + x6.size ≤ 9223372036854775807 then (if ((x5 ++ (⟨#[32]⟩ : ByteArray)) ++ x6).size + 2 ≤ 9223372036854775807 then (some (((x5 ++ (⟨#[32]⟩ : ByteArray)) ++ x6) ++ (⟨#[44, 88]⟩ : ByteArray))) else (none)) else (none)) else (none)) else (if t187 = 5 then (if x5.size + 1 ≤ 9223372036854775807 then (if (x5 ++ (⟨#[32]⟩ : ByteArray)).size + x6.size ≤ 9223372036854775807 then (if ((x5 ++ (⟨#[32]⟩ : ByteArray)) ++ x6).size + 2 ≤ 9223372036854775807 then (some (((x5 ++ (⟨#[32]⟩ : ByteArray)) ++ x6) ++ (⟨#[44, 89]⟩ : ByteArray))) else (none)) else (none)) else (none)) else (if t187 = 6 then (if x5.size + 1 ≤ 9223372036854775807 then (if (x5 ++ (⟨#[32]⟩ : ByteArray)).size + x7.size ≤ 9223372036854775807 then (some ((x5 ++ (⟨#[32]⟩ : ByteArray)) ++ x7)) else (none)) else (none)) else (if t187 = 7 then (if x5.size + 1 ≤ 9223372036854775807 then (if (x5 ++ (⟨#[32]⟩ : ByteArray)).size + x7.size ≤ 9223372036854775807 then (if ((x5 ++ (⟨#[32]⟩ : ByteArray)) ++ x7).size + 2 ≤ 9223372036854775807 then (some (((x5 ++ (⟨#[32]⟩ : ByteArray)) ++ x7) ++ (⟨#[44, 88]⟩ : ByteArray))) else (none)) else (none)) else (none)) else (if t187 = 8 then (if x5.size + 1 ≤ 9223372036854775807 then (if (x5 ++ (⟨#[32]⟩ : ByteArray)).size + x7.size ≤ 9223372036854775807 then (if ((x5 ++ (⟨#[32]⟩ : ByteArray)) ++ x7).size + 2 ≤ 9223372036854775807 then (some (((x5 ++ (⟨#[32]⟩ : ByteArray)) ++ x7) ++ (⟨#[44, 89]⟩ : ByteArray))) else (none)) else (none)) else (none)) else (if t187 = 9 then (if x5.size + 2 ≤ 9223372036854775807 then (if (x5 ++ (⟨#[32, 40]⟩ : ByteArray)).size + x7.size ≤ 9223372036854775807 then (if ((x5 ++ (⟨#[32, 40]⟩ : ByteArray)) ++ x7).size + 1 ≤ 9223372036854775807 then (some (((x5 ++ (⟨#[32, 40]⟩ : ByteArray)) ++ x7) ++ (⟨#[41]⟩ : ByteArray))) else (none)) else (none)) else (none)) else (if t187 = 10 then (if x5.size + 2 ≤ 9223372036854775807 then (if (x5 ++ (⟨#[32, 40]⟩ : ByteArray)).size + x6.size ≤ 9223372036854775807 then (if ((x5 ++ (⟨#[32, 40]⟩ : ByteArray)) ++ x6).size + 3 ≤ 9223372036854775807 then (some (((x5 ++ (⟨#[32, 40]⟩ : ByteArray)) ++ x6) ++ (⟨#[44, 88, 41]⟩ : ByteArray))) else (none)) else (none)) else (none)) else (if t187 = 11 then (if x5.size + 2 ≤ 9223372036854775807 then (if (x5 ++ (⟨#[32, 40]⟩ : ByteArray)).size + x6.size ≤ 9223372036854775807 then (if ((x5 ++ (⟨#[32, 40]⟩ : ByteArray)) ++ x6).size + 3 ≤ 9223372036854775807 then (some (((x5 ++ (⟨#[32, 40]⟩ : ByteArray)) ++ x6) ++ (⟨#[41, 44, 89]⟩ : ByteArray))) else (none)) else (none)) else (none)) else (if t187 = 12 then (if x5.size + 2 ≤ 9223372036854775807 then (if 1 < (x0.length : Int) then ((spec_l04Offset.f (rd x0 1)).bind fun t189 => ((spec_HexText.f k (Go.bits .and .i64 (wrap64 ((wrap64 ((wrap64 (x1)) + 2)) + t189)) 65535) 4).bind fun t190 => (if (x5 ++ (⟨#[32, 36]⟩ : ByteArray)).size + t190.size ≤ 9223372036854775807 then (some ((x5 ++ (⟨#[32, 36]⟩ : ByteArray)) ++ t190)) else (none)))) else (none)) else (none)) else (some x5)))))))))))))) else (none)
end
def spec_ShowOp.f (k : Nat) (l0 : List Int) (a1 : Int) : Option (ByteArray) := if (l0.length : Int) = 0 then (spec_ShowOp.j0 k l0 a1 true) else (if 0 < (l0.length : Int) then ((spec_SizeOf.f k (rd l0 0)).bind fun t175 => (if t175 = 0 then (spec_ShowOp.j0 k l0 a1 true) else ((spec_SizeOf.f k (rd l0 0)).bind fun t177 => (spec_ShowOp.j0 k l0 a1 (decide ((l0.length : Int) < t177)))))) else (none))
theorem spec_ShowOp.mono_l : ∀ k, (∀ y0 y1 y2, LeO (spec_ShowOp.j0 k y0 y1 y2) (spec_ShowOp.j0 (k + 1) y0 y1 y2)) ∧ (∀ y0 y1 y2 y3 y4, LeO (spec_ShowOp.j1 k y0 y1 y2 y3 y4) (spec_ShowOp.j1 (k + 1) y0 y1 y2 y3 y4)) ∧ (∀ y0 y1 y2 y3 y4, LeO (spec_ShowOp.j2 k y0 y1 y2 y3 y4) (spec_ShowOp.j2 (k + 1) y0 y1 y2 y3 y4))
 | 0 => ⟨fun _ _ _ r h => by simp [spec_ShowOp.j0] at h, fun _ _ _ _ _ r h => by simp [spec_ShowOp.j1] at h, fun _ _ _ _ _ r h => by simp [spec_ShowOp.j2] at h⟩
 | k + 1 => by
  obtain ⟨ih0, ih1, ih2⟩ := spec_ShowOp.mono_l k
  refine ⟨?_, ?_, ?_⟩
  ·intro y0 y1 y2
   unfold spec_ShowOp.j0
   repeat' first
   | (with_reducible exact ih0 _ _ _)
   | (with_reducible exact ih1 _ _ _ _ _)
   | (with_reducible exact ih2 _ _ _ _ _)
   | (with_reducible exact spec_HexText.mono _ _ _)
   | (with_reducible exact spec_ModeOf.mono _ _)
   | (with_reducible exact spec_NameOf.mono _ _)
   | (with_reducible exact spec_SizeOf.mono _ _)
   | (with_reducible exact LeO.refl _)
   | (with_reducible exact LeO.none _)
   | (with_reducible refine LeO.ite ?_ ?_)
   | (with_reducible refine LeO.bind ?_ (fun _ => ?_))
   | exact ih0 _ _ _
   | exact ih1 _ _ _ _ _
   | exact ih2 _ _ _ _ _
   | exact spec_HexText.mono _ _ _
   | exact spec_ModeOf.mono _ _
   | exact spec_NameOf.mono _ _
   | exact spec_SizeOf.mono _ _
   | exact LeO.none _
   | refine LeO.ite ?_ ?_
   | refine LeO.bind ?_ (fun _ => ?_)
  ·intro y0 y1 y2 y3 y4
   unfold spec_ShowOp.j1
   repeat' first
   | (with_reducible exact ih0 _ _ _)
   | (with_reducible exact ih1 _ _ _ _ _)
   | (with_reducible exact ih2 _ _ _ _ _)
   | (with_reducible exact spec_HexText.mono _ _ _)
   | (with_reducible exact spec_ModeOf.mono _ _)
   | (with_reducible exact spec_NameOf.mono _ _)
   | (with_reducible exact spec_SizeOf.mono _ _)
   | (with_reducible exact LeO.refl _)
   | (with_reducible exact LeO.none _)
   | (with_reducible refine LeO.ite ?_ ?_)
   | (with_reducible refine LeO.bind ?_ (fun _ => ?_))
   | exact ih0 _ _ _
   | exact ih1 _ _ _ _ _
   | exact ih2 _ _ _ _ _
   | exact spec_HexText.mono _ _ _
   | exact spec_ModeOf.mono _ _
   | exact spec_NameOf.mono _ _
   | exact spec_SizeOf.mono _ _
   | exact LeO.none _
   | refine LeO.ite ?_ ?_
   | refine LeO.bind ?_ (fun _ => ?_)
  ·intro y0 y1 y2 y3 y4
   unfold spec_ShowOp.j2
   repeat' first
   | (with_reducible exact ih0 _ _ _)
   | (with_reducible exact ih1 _ _ _ _ _)
   | (with_reducible exact ih2 _ _ _ _ _)
   | (with_reducible exact spec_HexText.mono _ _ _)
   | (with_reducible exact spec_ModeOf.mono _ _)
   | (with_reducible exact spec_NameOf.mono _ _)
   | (with_reducible exact spec_SizeOf.mono _ _)
   | (with_reducible exact LeO.refl _)
   | (with_reducible exact LeO.none _)
   | (with_reducible refine LeO.ite ?_ ?_)
   | (with_reducible refine LeO.bind ?_ (fun _ => ?_))
   | exact ih0 _ _ _
   | exact ih1 _ _ _ _ _
   | exact ih2 _ _ _ _ _
   | exact spec_HexText.mono _ _ _
   | exact spec_ModeOf.mono _ _
   | exact spec_NameOf.mono _ _
   | exact spec_SizeOf.mono _ _
   | exact LeO.none _
   | refine LeO.ite ?_ ?_
   | refine LeO.bind ?_ (fun _ => ?_)
theorem spec_ShowOp.mono : ∀ a0 a1 k, LeO (spec_ShowOp.f k a0 a1) (spec_ShowOp.f (k + 1) a0 a1) := by
 intro a0 a1 k
 obtain ⟨ih0, ih1, ih2⟩ := spec_ShowOp.mono_l k
 unfold spec_ShowOp.f
 repeat' first
   | (with_reducible exact ih0 _ _ _)
   | (with_reducible exact ih1 _ _ _ _ _)
   | (with_reducible exact ih2 _ _ _ _ _)
   | (with_reducible exact spec_HexText.mono _ _ _)
   | (with_reducible exact spec_ModeOf.mono _ _)
   | (with_reducible exact spec_NameOf.mono _ _)
   | (with_reducible exact spec_SizeOf.mono _ _)
   | (with_reducible exact LeO.refl _)
   | (with_reducible exact LeO.none _)
   | (with_reducible refine LeO.ite ?_ ?_)
   | (with_reducible refine LeO.bind ?_ (fun _ => ?_))
   | exact ih0 _ _ _
   | exact ih1 _ _ _ _ _
   | exact ih2 _ _ _ _ _
   | exact spec_HexText.mono _ _ _
   | exact spec_ModeOf.mono _ _
   | exact spec_NameOf.mono _ _
   | exact spec_SizeOf.mono _ _
   | exact LeO.none _
   | refine LeO.ite ?_ ?_
   | refine LeO.bind ?_ (fun _ => ?_)
set_option maxHeartbeats 8000000 in
set_option maxRecDepth 100000 in
theorem spec_ShowOp.calls (k : Nat) (A0 : Option Addr) (c0 : Nat) (l0 : List Int) (a1 : Int) (r : ByteArray) (w : World) (hr0 : Kd.C (Kd.int .u8) w A0 l0.length l0) (hc0 : l0.length ≤ c0) (h : spec_ShowOp.f k l0 a1 = some r) :
  Calls Tryd.prog 18 #[.slice A0 l0.length c0, .int .u16 a1] w fun e w' => e = .returned (.string r) ∧ Below w.heap.size w w' := by
 have HR0 := Aside0.mk hr0
 have HC0 := Aside0.mk hc0
 clear hr0 hc0
 have HB := Aside0.mk (Below.refl w.heap.size w)
 have H : (if (l0.length : Int) = 0 then (spec_ShowOp.j0 k l0 a1 true) else (if 0 < (l0.length : Int) then ((spec_SizeOf.f k (rd l0 0)).bind fun t175 => (if t175 = 0 then (spec_ShowOp.j0 k l0 a1 true) else ((spec_SizeOf.f k (rd l0 0)).bind fun t177 => (spec_ShowOp.j0 k l0 a1 (decide ((l0.length : Int) < t177)))))) else (none))) = some r := h
 clear h
 have HC3 := Aside0.mk H
 clear H
 go_enter Tryd.func18, Tryd.ntmps18
 go_upto_region 1 with (fail)
 repeat (go_quiet (fail); go_upto_region 1 with (fail))
 go_cut [26] (fun v26 wc => ∃ (kq : Nat) (x26_2 : Bool), v26 = .bool x26_2 ∧ Aside0 (spec_ShowOp.j0 kq l0 a1 x26_2 = some r) ∧ Aside0 (kq ≤ k) ∧ Aside0 (Below w.heap.size w wc))
 case first =>
  have H := HC3.out
  clear HC3
  by_cases c4 : (l0.length : Int) = 0
  ·rw [if_pos c4] at H
   have c4b0 : ((l0.length : Int) == 0) = true := beq_iff_eq.mpr c4
   have c4b1 : ((l0.length : Int) != 0) = false := bne_eq_false_iff_eq.mpr c4
   clear c4
   (first | rw [c4b0] | (simp only [i64_w, i32_w]; rw [c4b0]) | skip)
   have H' := Aside0.mk H
   clear H
   go_wp2
   repeat (go_quiet (fail); try go_wp2)
   go_meet
   case rel => exact ⟨_, (true), (by first | rfl | (simp; done) | (simp [*]; done)), H', ⟨by first | omega | exact Nat.le_refl _⟩, ⟨by repeat (first | (with_reducible first | exact HB.out | apply below_alloc | apply pw_below_drewN | apply below_drew1) | exact HB.out)⟩⟩
  ·rw [if_neg c4] at H
   have c4b0 : ((l0.length : Int) == 0) = false := beq_eq_false_iff_ne.mpr c4
   have c4b1 : ((l0.length : Int) != 0) = true := bne_iff_ne.mpr c4
   have c4b2 : ¬ (l0 = []) := fun h_ => c4 (by rw [h_]; rfl)
   (first | rw [c4b0] | (simp only [i64_w, i32_w]; rw [c4b0]) | skip)
   by_cases c5 : 0 < (l0.length : Int)
   ·rw [if_pos c5] at H
    have c5b0 : decide (0 < (l0.length : Int)) = true := decide_eq_true c5
    have c5b1 : decide (0 < l0.length) = true := decide_eq_true (by omega)
    clear c5
    replace H := Option.bind_eq_some_iff.mp H
    obtain ⟨t175, A60, H⟩ := H
    replace H : (if t175 = 0 then (spec_ShowOp.j0 k l0 a1 true) else ((spec_SizeOf.f k (rd l0 0)).bind fun t177 => (spec_ShowOp.j0 k l0 a1 (decide ((l0.length : Int) < t177))))) = some r := H
    have A6 := Aside0.mk A60
    clear A60
    by_cases c7 : t175 = 0
    ·rw [if_pos c7] at H
     have c7b0 : (t175 == 0) = true := beq_iff_eq.mpr c7
     have c7b1 : (t175 != 0) = false := bne_eq_false_iff_eq.mpr c7
     clear c7
     have H' := Aside0.mk H
     clear H
     have p174 : 0 ≤ (0 : Int) := (by omega)
     have q174 : 0 < (l0.length : Int) := of_decide_eq_true (by first | (with_reducible assumption) | assumption)
     obtain ⟨ad174, e174, hx174_0⟩ := Kd.at_int HR0.out 0 p174 q174
     cases e174
     have qi174 : (0 < l0.length) = True := eq_true (by omega)
     (try rw [show ((0 : Int)).toNat = 0 from rfl] at hx174_0)
     (try rw [Addr.add_zero'] at hx174_0)
     replace hx174_0 := (HB.out.cell (World.block_lt_of_cell? w _ hx174_0)).trans hx174_0
     replace p174 := eq_true p174
     replace q174 := eq_true q174
     go_wp2_with (first | (go_at_call 28; (with_reducible refine (spec_SizeOf.calls k (rd l0 0) t175 _ A6.out).mono ?_); rintro e w8 ⟨rfl, hb⟩; have n0_ := Aside0.mk (below_step (by repeat (first | (with_reducible first | exact HB.out | apply below_alloc | apply pw_below_drewN | apply below_drew1) | exact HB.out)) hb); clear HB; have HB := n0_; clear n0_; (try clear hb); (try clear hb2); (try clear hk); (try clear hi)))
     repeat (go_quiet (first | (go_at_call 28; (with_reducible refine (spec_SizeOf.calls k (rd l0 0) t175 _ A6.out).mono ?_); rintro e w8 ⟨rfl, hb⟩; have n0_ := Aside0.mk (below_step (by repeat (first | (with_reducible first | exact HB.out | apply below_alloc | apply pw_below_drewN | apply below_drew1) | exact HB.out)) hb); clear HB; have HB := n0_; clear n0_; (try clear hb); (try clear hb2); (try clear hk); (try clear hi))); try go_wp2_with (first | (go_at_call 28; (with_reducible refine (spec_SizeOf.calls k (rd l0 0) t175 _ A6.out).mono ?_); rintro e w8 ⟨rfl, hb⟩; have n0_ := Aside0.mk (below_step (by repeat (first | (with_reducible first | exact HB.out | apply below_alloc | apply pw_below_drewN | apply below_drew1) | exact HB.out)) hb); clear HB; have HB := n0_; clear n0_; (try clear hb); (try clear hb2); (try clear hk); (try clear hi))))
     go_meet
     case rel => exact ⟨_, (true), (by first | rfl | (simp; done) | (simp [*]; done)), H', ⟨by first | omega | exact Nat.le_refl _⟩, ⟨by repeat (first | (with_reducible first | exact HB.out | apply below_alloc | apply pw_below_drewN | apply below_drew1) | exact HB.out)⟩⟩
    ·rw [if_neg c7] at H
     have c7b0 : (t175 == 0) = false := beq_eq_false_iff_ne.mpr c7
     have c7b1 : (t175 != 0) = true := bne_iff_ne.mpr c7
     replace H := Option.bind_eq_some_iff.mp H
     obtain ⟨t177, A90, H⟩ := H
     replace H : (spec_ShowOp.j0 k l0 a1 (decide ((l0.length : Int) < t177))) = some r := H
     have A9 := Aside0.mk A90
     clear A90
     (try (have E177 := Aside0.mk (Option.some.inj (A6.out.symm.trans A9.out) : t175 = t177)))
     have H' := Aside0.mk H
     clear H
     have p174 : 0 ≤ (0 : Int) := (by omega)
     have q174 : 0 < (l0.length : Int) := of_decide_eq_true (by first | (with_reducible assumption) | assumption)
     obtain ⟨ad174, e174, hx174_0⟩ := Kd.at_int HR0.out 0 p174 q174
     cases e174
     have qi174 : (0 < l0.length) = True := eq_true (by omega)
     (try rw [show ((0 : Int)).toNat = 0 from rfl] at hx174_0)
     (try rw [Addr.add_zero'] at hx174_0)
     replace hx174_0 := (HB.out.cell (World.block_lt_of_cell? w _ hx174_0)).trans hx174_0
     replace p174 := eq_true p174
     replace q174 := eq_true q174
     go_wp2_with (first | (go_at_call 28; (with_reducible refine (spec_SizeOf.calls k (rd l0 0) t175 _ A6.out).mono ?_); rintro e w10 ⟨rfl, hb⟩; have n0_ := Aside0.mk (below_step (by repeat (first | (with_reducible first | exact HB.out | apply below_alloc | apply pw_below_drewN | apply below_drew1) | exact HB.out)) hb); clear HB; have HB := n0_; clear n0_; (try clear hb); (try clear hb2); (try clear hk); (try clear hi); have p176 : 0 ≤ (0 : Int) := (by omega); have q176 : 0 < (l0.length : Int) := of_decide_eq_true (by first | (with_reducible assumption) | assumption); obtain ⟨ad176, e176, hx176_0⟩ := Kd.at_int HR0.out 0 p176 q176; obtain rfl : ad174 = ad176 := (by injection e176); have qi176 : (0 < l0.length) = True := eq_true (by omega); (try rw [show ((0 : Int)).toNat = 0 from rfl] at hx176_0); (try rw [Addr.add_zero'] at hx176_0); replace hx176_0 := (HB.out.cell (World.block_lt_of_cell? w _ hx176_0)).trans hx176_0; replace p176 := eq_true p176; replace q176 := eq_true q176) | (go_at_call 28; (with_reducible refine (spec_SizeOf.calls k (rd l0 0) t177 _ A9.out).mono ?_); rintro e w11 ⟨rfl, hb⟩; have n0_ := Aside0.mk (below_step (by repeat (first | (with_reducible first | exact HB.out | apply below_alloc | apply pw_below_drewN | apply below_drew1) | exact HB.out)) hb); clear HB; have HB := n0_; clear n0_; (try clear hb); (try clear hb2); (try clear hk); (try clear hi)))
     repeat (go_quiet (first | (go_at_call 28; (with_reducible refine (spec_SizeOf.calls k (rd l0 0) t175 _ A6.out).mono ?_); rintro e w10 ⟨rfl, hb⟩; have n0_ := Aside0.mk (below_step (by repeat (first | (with_reducible first | exact HB.out | apply below_alloc | apply pw_below_drewN | apply below_drew1) | exact HB.out)) hb); clear HB; have HB := n0_; clear n0_; (try clear hb); (try clear hb2); (try clear hk); (try clear hi); have p176 : 0 ≤ (0 : Int) := (by omega); have q176 : 0 < (l0.length : Int) := of_decide_eq_true (by first | (with_reducible assumption) | assumption); obtain ⟨ad176, e176, hx176_0⟩ := Kd.at_int HR0.out 0 p176 q176; obtain rfl : ad174 = ad176 := (by injection e176); have qi176 : (0 < l0.length) = True := eq_true (by omega); (try rw [show ((0 : Int)).toNat = 0 from rfl] at hx176_0); (try rw [Addr.add_zero'] at hx176_0); replace hx176_0 := (HB.out.cell (World.block_lt_of_cell? w _ hx176_0)).trans hx176_0; replace p176 := eq_true p176; replace q176 := eq_true q176) | (go_at_call 28; (with_reducible refine (spec_SizeOf.calls k (rd l0 0) t177 _ A9.out).mono ?_); rintro e w11 ⟨rfl, hb⟩; have n0_ := Aside0.mk (below_step (by repeat (first | (with_reducible first | exact HB.out | apply below_alloc | apply pw_below_drewN | apply below_drew1) | exact HB.out)) hb); clear HB; have HB := n0_; clear n0_; (try clear hb); (try clear hb2); (try clear hk); (try clear hi))); try go_wp2_with (first | (go_at_call 28; (with_reducible refine (spec_SizeOf.calls k (rd l0 0) t175 _ A6.out).mono ?_); rintro e w10 ⟨rfl, hb⟩; have n0_ := Aside0.mk (below_step (by repeat (first | (with_reducible first | exact HB.out | apply below_alloc | apply pw_below_drewN | apply below_drew1) | exact HB.out)) hb); clear HB; have HB := n0_; clear n0_; (try clear hb); (try clear hb2); (try clear hk); (try clear hi); have p176 : 0 ≤ (0 : Int) := (by omega); have q176 : 0 < (l0.length : Int) := of_decide_eq_true (by first | (with_reducible assumption) | assumption); obtain ⟨ad176, e176, hx176_0⟩ := Kd.at_int HR0.out 0 p176 q176; obtain rfl : ad174 = ad176 := (by injection e176); have qi176 : (0 < l0.length) = True := eq_true (by omega); (try rw [show ((0 : Int)).toNat = 0 from rfl] at hx176_0); (try rw [Addr.add_zero'] at hx176_0); replace hx176_0 := (HB.out.cell (World.block_lt_of_cell? w _ hx176_0)).trans hx176_0; replace p176 := eq_true p176; replace q176 := eq_true q176) | (go_at_call 28; (with_reducible refine (spec_SizeOf.calls k (rd l0 0) t177 _ A9.out).mono ?_); rintro e w11 ⟨rfl, hb⟩; have n0_ := Aside0.mk (below_step (by repeat (first | (with_reducible first | exact HB.out | apply below_alloc | apply pw_below_drewN | apply below_drew1) | exact HB.out)) hb); clear HB; have HB := n0_; clear n0_; (try clear hb); (try clear hb2); (try clear hk); (try clear hi))))
     go_meet
     case rel => exact ⟨_, (decide ((l0.length : Int) < t177)), (by first | rfl | (simp only [E177.out] <;> first | rfl | (simp; done)) | (simp; done) | (simp [*]; done)), H', ⟨by first | omega | exact Nat.le_refl _⟩, ⟨by repeat (first | (with_reducible first | exact HB.out | apply below_alloc | apply pw_below_drewN | apply below_drew1) | exact HB.out)⟩⟩
   ·rw [if_neg c5] at H
    exact absurd H (by simp)
 case rest =>
  clear HC3
  try clear c1
  try clear p1
  try clear q1
  try clear hx1
  try clear qi1
  try clear p2
  try clear c4
  try clear c4b0
  try clear c4b1
  try clear c4b2
  try clear c5
  try clear c5b0
  try clear c5b1
  try clear c7
  try clear c7b0
  try clear c7b1
  try clear hx174_0
  try clear hx176_0
  try clear p174
  try clear p176
  try clear q174
  try clear q176
  obtain ⟨kq, x26_2, rfl, HA, HJ2, HB⟩ := hcut
  cases kq with
  | zero => exact absurd HA.out (by simp [spec_ShowOp.j0])
  | succ kj2 =>
   have H := HA.out
   clear HA
   simp only [spec_ShowOp.j0] at H
   by_cases c12 : x26_2 = true
   ·subst c12
    have H1 : (some (⟨#[]⟩ : ByteArray)) = some r := by rw [if_pos rfl] at H; exact H
    clear H
    have H := H1
    clear H1
    obtain rfl := Option.some.inj H
    go_wp2
    repeat (go_quiet (fail); try go_wp2)
    go_ret
    exact ⟨by first | rfl | (simp [errW_none, errW_some] <;> rfl) | (simp [*, errW_none, errW_some] <;> rfl), by repeat (first | (with_reducible first | exact HB.out | apply below_alloc | apply pw_below_drewN | apply below_drew1) | exact HB.out)⟩
   ·replace c12 := Bool.eq_false_iff.mpr c12
    subst c12
    have H1 : (if 0 < (l0.length : Int) then ((spec_NameOf.f kj2 (rd l0 0)).bind fun t179 => (if (l0.length : Int) > 1 then (if 1 < (l0.length : Int) then ((spec_HexText.f kj2 (wrap64 (rd l0 1)) 2).bind fun t181 => (if 1 + t181.size ≤ 9223372036854775807 then (spec_ShowOp.j1 kj2 l0 a1 t179 ((⟨#[36]⟩ : ByteArray) ++ t181) (⟨#[]⟩ : ByteArray)) else (none))) else (none)) else (spec_ShowOp.j1 kj2 l0 a1 t179 (⟨#[]⟩ : ByteArray) (⟨#[]⟩ : ByteArray)))) else (none)) = some r := by rw [if_neg (show ¬ (false = true) by decide)] at H; exact H
    clear H
    have H := H1
    clear H1
    by_cases c13 : 0 < (l0.length : Int)
    ·rw [if_pos c13] at H
     have c13b0 : decide (0 < (l0.length : Int)) = true := decide_eq_true c13
     have c13b1 : decide (0 < l0.length) = true := decide_eq_true (by omega)
     clear c13
     replace H := Option.bind_eq_some_iff.mp H
     obtain ⟨t179, A140, H⟩ := H
     replace H : (if (l0.length : Int) > 1 then (if 1 < (l0.length : Int) then ((spec_HexText.f kj2 (wrap64 (rd l0 1)) 2).bind fun t181 => (if 1 + t181.size ≤ 9223372036854775807 then (spec_ShowOp.j1 kj2 l0 a1 t179 ((⟨#[36]⟩ : ByteArray) ++ t181) (⟨#[]⟩ : ByteArray)) else (none))) else (none)) else (spec_ShowOp.j1 kj2 l0 a1 t179 (⟨#[]⟩ : ByteArray) (⟨#[]⟩ : ByteArray))) = some r := H
     have A14 := Aside0.mk A140
     clear A140
     have HC15 := Aside0.mk H
     clear H
     have p178 : 0 ≤ (0 : Int) := (by omega)
     have q178 : 0 < (l0.length : Int) := of_decide_eq_true (by first | (with_reducible assumption) | assumption)
     obtain ⟨ad178, e178, hx178_0⟩ := Kd.at_int HR0.out 0 p178 q178
     cases e178
     have qi178 : (0 < l0.length) = True := eq_true (by omega)
     (try rw [show ((0 : Int)).toNat = 0 from rfl] at hx178_0)
     (try rw [Addr.add_zero'] at hx178_0)
     replace hx178_0 := (HB.out.cell (World.block_lt_of_cell? w _ hx178_0)).trans hx178_0
     replace p178 := eq_true p178
     replace q178 := eq_true q178
     go_upto_if 33 with (first | (go_at_call 27; (with_reducible refine (spec_NameOf.calls kj2 (rd l0 0) t179 _ A14.out).mono ?_); rintro e w16 ⟨rfl, hb⟩; have n0_ := Aside0.mk (below_step (by repeat (first | (with_reducible first | exact HB.out | apply below_alloc | apply pw_below_drewN | apply below_drew1) | exact HB.out)) hb); clear HB; have HB := n0_; clear n0_; (try clear hb); (try clear hb2); (try clear hk); (try clear hi)))
     repeat (go_quiet (first | (go_at_call 27; (with_reducible refine (spec_NameOf.calls kj2 (rd l0 0) t179 _ A14.out).mono ?_); rintro e w16 ⟨rfl, hb⟩; have n0_ := Aside0.mk (below_step (by repeat (first | (with_reducible first | exact HB.out | apply below_alloc | apply pw_below_drewN | apply below_drew1) | exact HB.out)) hb); clear HB; have HB := n0_; clear n0_; (try clear hb); (try clear hb2); (try clear hk); (try clear hi))); go_upto_if 33 with (first | (go_at_call 27; (with_reducible refine (spec_NameOf.calls kj2 (rd l0 0) t179 _ A14.out).mono ?_); rintro e w16 ⟨rfl, hb⟩; have n0_ := Aside0.mk (below_step (by repeat (first | (with_reducible first | exact HB.out | apply below_alloc | apply pw_below_drewN | apply below_drew1) | exact HB.out)) hb); clear HB; have HB := n0_; clear n0_; (try clear hb); (try clear hb2); (try clear hk); (try clear hi))))
     (try simp only [Act.put, List.setIfInBounds_toArray, List.set_cons_zero, List.set_cons_succ])
     go_cut [6] (fun v6 wc => ∃ (kq : Nat) (x6_14 : ByteArray), v6 = .string x6_14 ∧ Aside0 (spec_ShowOp.j1 kq l0 a1 t179 x6_14 (⟨#[]⟩ : ByteArray) = some r) ∧ Aside0 (kq ≤ kj2) ∧ Aside0 (Below w.heap.size w wc))
     case first =>
      have H := HC15.out
      clear HC15
      by_cases c17 : (l0.length : Int) > 1
      ·rw [if_pos c17] at H
       have c17b0 : decide (1 < (l0.length : Int)) = true := decide_eq_true c17
       have c17b1 : decide (1 < l0.length) = true := decide_eq_true (by omega)
       clear c17
       (first | rw [c17b0] | (simp only [i64_w, i32_w]; rw [c17b0]) | skip)
       by_cases c18 : 1 < (l0.length : Int)
       ·rw [if_pos c18] at H
        have c18b0 : decide (1 < (l0.length : Int)) = true := decide_eq_true c18
        have c18b1 : decide (1 < l0.length) = true := decide_eq_true (by omega)
        clear c18
        replace H := Option.bind_eq_some_iff.mp H
        obtain ⟨t181, A190, H⟩ := H
        replace H : (if 1 + t181.size ≤ 9223372036854775807 then (spec_ShowOp.j1 kj2 l0 a1 t179 ((⟨#[36]⟩ : ByteArray) ++ t181) (⟨#[]⟩ : ByteArray)) else (none)) = some r := H
        have A19 := Aside0.mk A190
        clear A190
        by_cases c20 : 1 + t181.size ≤ 9223372036854775807
        ·rw [if_pos c20] at H
         have c20b0 := eq_true c20
         have c20b1 : decide (1 + t181.size ≤ 9223372036854775807) = true := decide_eq_true c20
         try have c20b2 : (9223372036854775807 < 1 + t181.size) = False := eq_false (Nat.not_lt.2 c20)
         try (have c20b3 := c20; simp at c20b3; have c20b4 := eq_true c20b3; have c20b5 := decide_eq_true c20b3; have c20b6 := eq_false (Nat.not_lt.2 c20b3))
         have H' := Aside0.mk H
         clear H
         have p180 : 0 ≤ (1 : Int) := (by omega)
         have q180 : 1 < (l0.length : Int) := of_decide_eq_true (by first | (with_reducible assumption) | assumption)
         obtain ⟨ad180, e180, hx180_0⟩ := Kd.at_int HR0.out 1 p180 q180
         obtain rfl : ad178 = ad180 := (by injection e180)
         (try simp only [show (1 : Int).toNat = 1 from rfl, Nat.reduceMul, Nat.reduceEqDiff, Go.Addr.add, ↓reduceIte] at hx180_0)
         have qi180 : (1 < l0.length) = True := eq_true (by omega)
         (try rw [show ((1 : Int)).toNat = 1 from rfl] at hx180_0)
         replace hx180_0 := (HB.out.cell (World.block_lt_of_cell? w _ hx180_0)).trans hx180_0
         replace p180 := eq_true p180
         replace q180 := eq_true q180
         go_wp2_with (first | (go_at_call 46; (with_reducible refine (spec_HexText.calls kj2 (wrap64 (rd l0 1)) 2 t181 _ A19.out).mono ?_); rintro e w' ⟨rfl, ⟨nd, rfl⟩⟩; (try first | exact ⟨rfl, _, World.drewN_drewN _ _ _⟩ | exact ⟨rfl, _, Eq.trans (World.drewN_drewN _ _ _) (congrArg (World.drewN _) (Nat.add_assoc _ _ _))⟩)))
         repeat (go_quiet (first | (go_at_call 46; (with_reducible refine (spec_HexText.calls kj2 (wrap64 (rd l0 1)) 2 t181 _ A19.out).mono ?_); rintro e w' ⟨rfl, ⟨nd, rfl⟩⟩; (try first | exact ⟨rfl, _, World.drewN_drewN _ _ _⟩ | exact ⟨rfl, _, Eq.trans (World.drewN_drewN _ _ _) (congrArg (World.drewN _) (Nat.add_assoc _ _ _))⟩))); try go_wp2_with (first | (go_at_call 46; (with_reducible refine (spec_HexText.calls kj2 (wrap64 (rd l0 1)) 2 t181 _ A19.out).mono ?_); rintro e w' ⟨rfl, ⟨nd, rfl⟩⟩; (try first | exact ⟨rfl, _, World.drewN_drewN _ _ _⟩ | exact ⟨rfl, _, Eq.trans (World.drewN_drewN _ _ _) (congrArg (World.drewN _) (Nat.add_assoc _ _ _))⟩))))
         go_meet
         case rel => exact ⟨_, ((⟨#[36]⟩ : ByteArray) ++ t181), (by first | rfl | (simp; done) | (simp [*]; done)), H', ⟨by have := HJ2.out; first | omega | exact Nat.le_refl _⟩, ⟨by repeat (first | (with_reducible first | exact HB.out | apply below_alloc | apply pw_below_drewN | apply below_drew1) | exact HB.out)⟩⟩
        ·rw [if_neg c20] at H
         exact absurd H (by simp)
       ·rw [if_neg c18] at H
        exact absurd H (by simp)
      ·rw [if_neg c17] at H
       have c17b0 : decide (1 < (l0.length : Int)) = false := decide_eq_false c17
       have c17b1 : decide (1 < l0.length) = false := decide_eq_false (by omega)
       clear c17
       (first | rw [c17b0] | (simp only [i64_w, i32_w]; rw [c17b0]) | skip)
       have H' := Aside0.mk H
       clear H
       go_wp2
       repeat (go_quiet (fail); try go_wp2)
       go_meet
       case rel => exact ⟨_, ((⟨#[]⟩ : ByteArray)), (by first | rfl | (simp; done) | (simp [*]; done)), H', ⟨by have := HJ2.out; first | omega | exact Nat.le_refl _⟩, ⟨by repeat (first | (with_reducible first | exact HB.out | apply below_alloc | apply pw_below_drewN | apply below_drew1) | exact HB.out)⟩⟩
     case rest =>
      clear HC15
      try clear c1
      try clear p1
      try clear q1
      try clear hx1
      try clear qi1
      try clear c2
      try clear p2
      try clear c4
      try clear c4b0
      try clear c4b1
      try clear c4b2
      try clear c5
      try clear c5b0
      try clear c5b1
      try clear p6
      try clear c7
      try clear c7b0
      try clear c7b1
      try clear c12
      try clear c13
      try clear c13b0
      try clear c13b1
      try clear c17
      try clear c17b0
      try clear c17b1
      try clear p17
      try clear q17
      try clear hx17
      try clear qi17
      try clear c18
      try clear c18b0
      try clear c18b1
      try clear p18
      try clear q18
      try clear hx18
      try clear qi18
      try clear c20
      try clear c20b0
      try clear c20b1
      try clear c20b2
      try clear hx174_0
      try clear hx176_0
      try clear hx178_0
      try clear hx180_0
      try clear p1
      try clear p174
      try clear p176
      try clear p178
      try clear p180
      try clear p2
      try clear q1
      try clear q174
      try clear q176
      try clear q178
      try clear q180
      obtain ⟨kq, x6_14, rfl, HA, HJ14, HB⟩ := hcut
      cases kq with
      | zero => exact absurd HA.out (by simp [spec_ShowOp.j1])
      | succ kj14 =>
       have H := HA.out
       clear HA
       simp only [spec_ShowOp.j1] at H
       have HC21 := Aside0.mk H
       clear H
       go_upto_if 42 with (fail)
       repeat (go_quiet (fail); go_upto_if 42 with (fail))
       go_cut [7] (fun v7 wc => ∃ (kq : Nat) (x7_20 : ByteArray), v7 = .string x7_20 ∧ Aside0 (spec_ShowOp.j2 kq l0 a1 t179 x6_14 x7_20 = some r) ∧ Aside0 (kq ≤ kj14) ∧ Aside0 (Below w.heap.size w wc))
       case first =>
        have H := HC21.out
        clear HC21
        by_cases c22 : (l0.length : Int) > 2
        ·rw [if_pos c22] at H
         have c22b0 : decide (2 < (l0.length : Int)) = true := decide_eq_true c22
         have c22b1 : decide (2 < l0.length) = true := decide_eq_true (by omega)
         clear c22
         (first | rw [c22b0] | (simp only [i64_w, i32_w]; rw [c22b0]) | skip)
         by_cases c23 : 1 < (l0.length : Int)
         ·rw [if_pos c23] at H
          have c23b0 : decide (1 < (l0.length : Int)) = true := decide_eq_true c23
          have c23b1 : decide (1 < l0.length) = true := decide_eq_true (by omega)
          clear c23
          by_cases c24 : 2 < (l0.length : Int)
          ·rw [if_pos c24] at H
           have c24b0 : decide (2 < (l0.length : Int)) = true := decide_eq_true c24
           have c24b1 : decide (2 < l0.length) = true := decide_eq_true (by omega)
           clear c24
           replace H := Option.bind_eq_some_iff.mp H
           obtain ⟨t184, A250, H⟩ := H
           replace H : ((spec_HexText.f kj14 t184 4).bind fun t185 => (if 1 + t185.size ≤ 9223372036854775807 then (spec_ShowOp.j2 kj14 l0 a1 t179 x6_14 ((⟨#[36]⟩ : ByteArray) ++ t185)) else (none))) = some r := H
           have A25 := Aside0.mk A250
           clear A250
           replace H := Option.bind_eq_some_iff.mp H
           obtain ⟨t185, A260, H⟩ := H
           replace H : (if 1 + t185.size ≤ 9223372036854775807 then (spec_ShowOp.j2 kj14 l0 a1 t179 x6_14 ((⟨#[36]⟩ : ByteArray) ++ t185)) else (none)) = some r := H
           have A26 := Aside0.mk A260
           clear A260
           by_cases c27 : 1 + t185.size ≤ 9223372036854775807
           ·rw [if_pos c27] at H
            have c27b0 := eq_true c27
            have c27b1 : decide (1 + t185.size ≤ 9223372036854775807) = true := decide_eq_true c27
            try have c27b2 : (9223372036854775807 < 1 + t185.size) = False := eq_false (Nat.not_lt.2 c27)
            try (have c27b3 := c27; simp at c27b3; have c27b4 := eq_true c27b3; have c27b5 := decide_eq_true c27b3; have c27b6 := eq_false (Nat.not_lt.2 c27b3))
            have H' := Aside0.mk H
            clear H
            have p182 : 0 ≤ (1 : Int) := (by omega)
            have q182 : 1 < (l0.length : Int) := of_decide_eq_true (by first | (with_reducible assumption) | assumption)
            obtain ⟨ad182, e182, hx182_0⟩ := Kd.at_int HR0.out 1 p182 q182
            obtain rfl : ad178 = ad182 := (by injection e182)
            (try simp only [show (1 : Int).toNat = 1 from rfl, Nat.reduceMul, Nat.reduceEqDiff, Go.Addr.add, ↓reduceIte] at hx182_0)
            have qi182 : (1 < l0.length) = True := eq_true (by omega)
            (try rw [show ((1 : Int)).toNat = 1 from rfl] at hx182_0)
            replace hx182_0 := (HB.out.cell (World.block_lt_of_cell? w _ hx182_0)).trans hx182_0
            replace p182 := eq_true p182
            replace q182 := eq_true q182
            have p183 : 0 ≤ (2 : Int) := (by omega)
            have q183 : 2 < (l0.length : Int) := of_decide_eq_true (by first | (with_reducible assumption) | assumption)
            obtain ⟨ad183, e183, hx183_0⟩ := Kd.at_int HR0.out 2 p183 q183
            obtain rfl : ad178 = ad183 := (by injection e183)
            (try simp only [show (2 : Int).toNat = 2 from rfl, Nat.reduceMul, Nat.reduceEqDiff, Go.Addr.add, ↓reduceIte] at hx183_0)
            have qi183 : (2 < l0.length) = True := eq_true (by omega)
            (try rw [show ((2 : Int)).toNat = 2 from rfl] at hx183_0)
            replace hx183_0 := (HB.out.cell (World.block_lt_of_cell? w _ hx183_0)).trans hx183_0
            replace p183 := eq_true p183
            replace q183 := eq_true q183
            go_wp2_with (first | (go_at_call 47; (with_reducible refine (spec_l04Word.calls (rd l0 1) (rd l0 2) t184 _ A25.out).mono ?_); rintro e w' ⟨rfl, ⟨nd, rfl⟩⟩; (try first | exact ⟨rfl, _, World.drewN_drewN _ _ _⟩ | exact ⟨rfl, _, Eq.trans (World.drewN_drewN _ _ _) (congrArg (World.drewN _) (Nat.add_assoc _ _ _))⟩)) | (go_at_call 46; (with_reducible refine (spec_HexText.calls kj14 t184 4 t185 _ A26.out).mono ?_); rintro e w' ⟨rfl, ⟨nd, rfl⟩⟩; (try first | exact ⟨rfl, _, World.drewN_drewN _ _ _⟩ | exact ⟨rfl, _, Eq.trans (World.drewN_drewN _ _ _) (congrArg (World.drewN _) (Nat.add_assoc _ _ _))⟩)))
            repeat (go_quiet (first | (go_at_call 47; (with_reducible refine (spec_l04Word.calls (rd l0 1) (rd l0 2) t184 _ A25.out).mono ?_); rintro e w' ⟨rfl, ⟨nd, rfl⟩⟩; (try first | exact ⟨rfl, _, World.drewN_drewN _ _ _⟩ | exact ⟨rfl, _, Eq.trans (World.drewN_drewN _ _ _) (congrArg (World.drewN _) (Nat.add_assoc _ _ _))⟩)) | (go_at_call 46; (with_reducible refine (spec_HexText.calls kj14 t184 4 t185 _ A26.out).mono ?_); rintro e w' ⟨rfl, ⟨nd, rfl⟩⟩; (try first | exact ⟨rfl, _, World.drewN_drewN _ _ _⟩ | exact ⟨rfl, _, Eq.trans (World.drewN_drewN _ _ _) (congrArg (World.drewN _) (Nat.add_assoc _ _ _))⟩))); try go_wp2_with (first | (go_at_call 47; (with_reducible refine (spec_l04Word.calls (rd l0 1) (rd l0 2) t184 _ A25.out).mono ?_); rintro e w' ⟨rfl, ⟨nd, rfl⟩⟩; (try first | exact ⟨rfl, _, World.drewN_drewN _ _ _⟩ | exact ⟨rfl, _, Eq.trans (World.drewN_drewN _ _ _) (congrArg (World.drewN _) (Nat.add_assoc _ _ _))⟩)) | (go_at_call 46; (with_reducible refine (spec_HexText.calls kj14 t184 4 t185 _ A26.out).mono ?_); rintro e w' ⟨rfl, ⟨nd, rfl⟩⟩; (try first | exact ⟨rfl, _, World.drewN_drewN _ _ _⟩ | exact ⟨rfl, _, Eq.trans (World.drewN_drewN _ _ _) (congrArg (World.drewN _) (Nat.add_assoc _ _ _))⟩))))
            go_meet
            case rel => exact ⟨_, ((⟨#[36]⟩ : ByteArray) ++ t185), (by first | rfl | (simp; done) | (simp [*]; done)), H', ⟨by have := HJ2.out; have := HJ14.out; first | omega | exact Nat.le_refl _⟩, ⟨by repeat (first | (with_reducible first | exact HB.out | apply below_alloc | apply pw_below_drewN | apply below_drew1) | exact HB.out)⟩⟩
           ·rw [if_neg c27] at H
            exact absurd H (by simp)
          ·rw [if_neg c24] at H
           exact absurd H (by simp)
         ·rw [if_neg c23] at H
          exact absurd H (by simp)
        ·rw [if_neg c22] at H
         have c22b0 : decide (2 < (l0.length : Int)) = false := decide_eq_false c22
         have c22b1 : decide (2 < l0.length) = false := decide_eq_false (by omega)
         clear c22
         (first | rw [c22b0] | (simp only [i64_w, i32_w]; rw [c22b0]) | skip)
         have H' := Aside0.mk H
         clear H
         go_wp2
         repeat (go_quiet (fail); try go_wp2)
         go_meet
         case rel => exact ⟨_, ((⟨#[]⟩ : ByteArray)), (by first | rfl | (simp; done) | (simp [*]; done)), H', ⟨by have := HJ2.out; have := HJ14.out; first | omega | exact Nat.le_refl _⟩, ⟨by repeat (first | (with_reducible first | exact HB.out | apply below_alloc | apply pw_below_drewN | apply below_drew1) | exact HB.out)⟩⟩
       case rest =>
        clear HC21
        try clear c1
        try clear p1
        try clear q1
        try clear hx1
        try clear qi1
        try clear c2
        try clear p2
        try clear c4
        try clear c4b0
        try clear c4b1
        try clear c4b2
        try clear c5
        try clear c5b0
        try clear c5b1
        try clear p6
        try clear c7
        try clear c7b0
        try clear c7b1
        try clear c12
        try clear c13
        try clear c13b0
        try clear c13b1
        try clear c17
        try clear c17b0
        try clear c17b1
        try clear p17
        try clear q17
        try clear hx17
        try clear qi17
        try clear c18
        try clear c18b0
        try clear c18b1
        try clear p18
        try clear q18
        try clear hx18
        try clear qi18
        try clear c20
        try clear c20b0
        try clear c20b1
        try clear c20b2
        try clear c22
        try clear c22b0
        try clear c22b1
        try clear c23
        try clear c23b0
        try clear c23b1
        try clear c24
        try clear c24b0
        try clear c24b1
        try clear c27
        try clear c27b0
        try clear c27b1
        try clear c27b2
        try clear hx174_0
        try clear hx176_0
        try clear hx178_0
        try clear hx180_0
        try clear hx182_0
        try clear hx183_0
        try clear p1
        try clear p17
        try clear p174
        try clear p176
        try clear p178
        try clear p18
        try clear p180
        try clear p182
        try clear p183
        try clear p2
        try clear p6
        try clear q1
        try clear q17
        try clear q174
        try clear q176
        try clear q178
        try clear q18
        try clear q180
        try clear q182
        try clear q183
        obtain ⟨kq, x7_20, rfl, HA, HJ20, HB⟩ := hcut
        cases kq with
        | zero => exact absurd HA.out (by simp [spec_ShowOp.j2])
        | succ kj20 =>
         have H := HA.out
         clear HA
         simp only [spec_ShowOp.j2] at H
         by_cases c28 : 0 < (l0.length : Int)
         ·rw [if_pos c28] at H
          have c28b0 : decide (0 < (l0.length : Int)) = true := decide_eq_true c28
          have c28b1 : decide (0 < l0.length) = true := decide_eq_true (by omega)
          clear c28
          replace H := Option.bind_eq_some_iff.mp H
          obtain ⟨t187, A290, H⟩ := H
          replace H : (if t187 = 1 then (if t179.size + 2 ≤ 9223372036854775807 then (some (t179 ++ (⟨#[32, 65]⟩ : ByteArray))) else (none)) else (if t187 = 2 then (if t179.size + 2 ≤ 9223372036854775807 then (if (t179 ++ (⟨#[32, 35]⟩ : ByteArray)).size + x6_14.size ≤ 9223372036854775807 then (some ((t179 ++ (⟨#[32, 35]⟩ : ByteArray)) ++ x6_14)) else (none)) else (none)) else (if t187 = 3 then (if t179.size + 1 ≤ 9223372036854775807 then (if (t179 ++ (⟨#[32]⟩ : ByteArray)).size + x6_14.size ≤ 9223372036854775807 then (some ((t179 ++ (⟨#[32]⟩ : ByteArray)) ++ x6_14)) else (none)) else (none)) else (if t187 = 4 then (if t179.size + 1 ≤ 9223372036854775807 then (if (t179 ++ (⟨#[32]⟩ : ByteArray)).size + x6_14.size ≤ 9223372036854775807 then (if ((t179 ++ (⟨#[32]⟩ : ByteArray)) ++ x6_14).size + 2 ≤ 9223372036854775807 then (some (((t179 ++ (⟨#[32]⟩ : ByteArray)) ++ x6_14) ++ (⟨#[44, 88]⟩ : ByteArray))) else (none)) else (none)) else (none)) else (if t187 = 5 then (if t179.size + 1 ≤ 9223372036854775807 then (if (t179 ++ (⟨#[32]⟩ : ByteArray)).size + x6_14.size ≤ 9223372036854775807 then (if ((t179 ++ (⟨#[32]⟩ : ByteArray)) ++ x6_14).size + 2 ≤ 9223372036854775807 then (some (((t179 ++ (⟨#[32]⟩ : ByteArray)) ++ x6_14) ++ (⟨#[44, 89]⟩ : ByteArray))) else (none)) else (none)) else (none)) else (if t187 = 6 then (if t179.size + 1 ≤ 9223372036854775807 then (if (t179 ++ (⟨#[32]⟩ : ByteArray)).size + x7_20.size ≤ 9223372036854775807 then (some ((t179 ++ (⟨#[32]⟩ : ByteArray)) ++ x7_20)) else (none)) else (none)) else (if t187 = 7 then (if t179.size + 1 ≤ 9223372036854775807 then (if (t179 ++ (⟨#[32]⟩ : ByteArray)).size + x7_20.size ≤ 9223372036854775807 then (if ((t179 ++ (⟨#[32]⟩ : ByteArray)) ++ x7_20).size + 2 ≤ 9223372036854775807 then (some (((t179 ++ (⟨#[32]⟩ : ByteArray)) ++ x7_20) ++ (⟨#[44, 88]⟩ : ByteArray))) else (none)) else (none)) else (none)) else (if t187 = 8 then (if t179.size + 1 ≤ 9223372036854775807 then (if (t179 ++ (⟨#[32]⟩ : ByteArray)).size + x7_20.size ≤ 9223372036854775807 then (if ((t179 ++ (⟨#[32]⟩ : ByteArray)) ++ x7_20).size + 2 ≤ 9223372036854775807 then (some (((t179 ++ (⟨#[32]⟩ : ByteArray)) ++ x7_20) ++ (⟨#[44, 89]⟩ : ByteArray))) else (none)) else (none)) else (none)) else (if t187 = 9 then (if t179.size + 2 ≤ 9223372036854775807 then (if (t179 ++ (⟨#[32, 40]⟩ : ByteArray)).size + x7_20.size ≤ 9223372036854775807 then (if ((t179 ++ (⟨#[32, 40]⟩ : ByteArray)) ++ x7_20).size + 1 ≤ 9223372036854775807 then (some (((t179 ++ (⟨#[32, 40]⟩ : ByteArray)) ++ x7_20) ++ (⟨#[41]⟩ : ByteArray))) else (none)) else (none)) else (none)) else (if t187 = 10 then (if t179.size + 2 ≤ 9223372036854775807 then (if (t179 ++ (⟨#[32, 40]⟩ : ByteArray)).size + x6_14.size ≤ 9223372036854775807 then (if ((t179 ++ (⟨#[32, 40]⟩ : ByteArray)) ++ x6_14).size + 3 ≤ 9223372036854775807 then (some (((t179 ++ (⟨#[32, 40]⟩ : ByteArray)) ++ x6_14) ++ (⟨#[44, 88, 41]⟩ : ByteArray))) else (none)) else (none)) else (none)) else (if t187 = 11 then (if t179.size + 2 ≤ 9223372036854775807 then (if (t179 ++ (⟨#[32, 40]⟩ : ByteArray)).size + x6_14.size ≤ 9223372036854775807 then (if ((t179 ++ (⟨#[32, 40]⟩ : ByteArray)) ++ x6_14).size + 3 ≤ 9223372036854775807 then (some (((t179 ++ (⟨#[32, 40]⟩ : ByteArray)) ++ x6_14) ++ (⟨#[41, 44, 89]⟩ : ByteArray))) else (none)) else (none)) else (none)) else (if t187 = 12 then (if t179.size + 2 ≤ 9223372036854775807 then (if 1 < (l0.length : Int) then ((spec_l04Offset.f (rd l0 1)).bind fun t189 => ((spec_HexText.f kj20 (Go.bits .and .i64 (wrap64 ((wrap64 ((wrap64 (a1)) + 2)) + t189)) 65535) 4).bind fun t190 => (if (t179 ++ (⟨#[32, 36]⟩ : ByteArray)).size + t190.size ≤ 9223372036854775807 then (some ((t179 ++ (⟨#[32, 36]⟩ : ByteArray)) ++ t190)) else (none)))) else (none)) else (none)) else (some t179))))))))))))) = some r := H
          have A29 := Aside0.mk A290
          clear A290
          by_cases c30 : t187 = 1
          ·rw [if_pos c30] at H
           have c30b0 : (t187 == 1) = true := beq_iff_eq.mpr c30
           have c30b1 : (t187 != 1) = false := bne_eq_false_iff_eq.mpr c30
           clear c30
           by_cases c31 : t179.size + 2 ≤ 9223372036854775807
           ·rw [if_pos c31] at H
            have c31b0 := eq_true c31
            have c31b1 : decide (t179.size + 2 ≤ 9223372036854775807) = true := decide_eq_true c31
            try have c31b2 : (9223372036854775807 < t179.size + 2) = False := eq_false (Nat.not_lt.2 c31)
            try (have c31b3 := c31; simp at c31b3; have c31b4 := eq_true c31b3; have c31b5 := decide_eq_true c31b3; have c31b6 := eq_false (Nat.not_lt.2 c31b3))
            obtain rfl := Option.some.inj H
            have p186 : 0 ≤ (0 : Int) := (by omega)
            have q186 : 0 < (l0.length : Int) := of_decide_eq_true (by first | (with_reducible assumption) | assumption)
            obtain ⟨ad186, e186, hx186_0⟩ := Kd.at_int HR0.out 0 p186 q186
            obtain rfl : ad178 = ad186 := (by injection e186)
            have qi186 : (0 < l0.length) = True := eq_true (by omega)
            (try rw [show ((0 : Int)).toNat = 0 from rfl] at hx186_0)
            (try rw [Addr.add_zero'] at hx186_0)
            replace hx186_0 := (HB.out.cell (World.block_lt_of_cell? w _ hx186_0)).trans hx186_0
            replace p186 := eq_true p186
            replace q186 := eq_true q186
            go_wp2_with (first | (go_at_call 29; (with_reducible refine (spec_ModeOf.calls kj20 (rd l0 0) t187 _ A29.out).mono ?_); rintro e w32 ⟨rfl, hb⟩; have n0_ := Aside0.mk (below_step (by repeat (first | (with_reducible first | exact HB.out | apply below_alloc | apply pw_below_drewN | apply below_drew1) | exact HB.out)) hb); clear HB; have HB := n0_; clear n0_; (try clear hb); (try clear hb2); (try clear hk); (try clear hi)))
            repeat (go_quiet (first | (go_at_call 29; (with_reducible refine (spec_ModeOf.calls kj20 (rd l0 0) t187 _ A29.out).mono ?_); rintro e w32 ⟨rfl, hb⟩; have n0_ := Aside0.mk (below_step (by repeat (first | (with_reducible first | exact HB.out | apply below_alloc | apply pw_below_drewN | apply below_drew1) | exact HB.out)) hb); clear HB; have HB := n0_; clear n0_; (try clear hb); (try clear hb2); (try clear hk); (try clear hi))); try go_wp2_with (first | (go_at_call 29; (with_reducible refine (spec_ModeOf.calls kj20 (rd l0 0) t187 _ A29.out).mono ?_); rintro e w32 ⟨rfl, hb⟩; have n0_ := Aside0.mk (below_step (by repeat (first | (with_reducible first | exact HB.out | apply below_alloc | apply pw_below_drewN | apply below_drew1) | exact HB.out)) hb); clear HB; have HB := n0_; clear n0_; (try clear hb); (try clear hb2); (try clear hk); (try clear hi))))
            go_ret
            exact ⟨by first | rfl | (simp [errW_none, errW_some] <;> rfl) | (simp [*, errW_none, errW_some] <;> rfl), by repeat (first | (with_reducible first | exact HB.out | apply below_alloc | apply pw_below_drewN | apply below_drew1) | exact HB.out)⟩
           ·rw [if_neg c31] at H
            exact absurd H (by simp)
          ·rw [if_neg c30] at H
           have c30b0 : (t187 == 1) = false := beq_eq_false_iff_ne.mpr c30
           have c30b1 : (t187 != 1) = true := bne_iff_ne.mpr c30
           by_cases c33 : t187 = 2
           ·rw [if_pos c33] at H
            have c33b0 : (t187 == 2) = true := beq_iff_eq.mpr c33
            have c33b1 : (t187 != 2) = false := bne_eq_false_iff_eq.mpr c33
            clear c33
            by_cases c34 : t179.size + 2 ≤ 9223372036854775807
            ·rw [if_pos c34] at H
             have c34b0 := eq_true c34
             have c34b1 : decide (t179.size + 2 ≤ 9223372036854775807) = true := decide_eq_true c34
             try have c34b2 : (9223372036854775807 < t179.size + 2) = False := eq_false (Nat.not_lt.2 c34)
             try (have c34b3 := c34; simp at c34b3; have c34b4 := eq_true c34b3; have c34b5 := decide_eq_true c34b3; have c34b6 := eq_false (Nat.not_lt.2 c34b3))
             by_cases c35 : (t179 ++ (⟨#[32, 35]⟩ : ByteArray)).size + x6_14.size ≤ 9223372036854775807
             ·rw [if_pos c35] at H
              have c35b0 := eq_true c35
              have c35b1 : decide ((t179 ++ (⟨#[32, 35]⟩ : ByteArray)).size + x6_14.size ≤ 9223372036854775807) = true := decide_eq_true c35
              try have c35b2 : (9223372036854775807 < (t179 ++ (⟨#[32, 35]⟩ : ByteArray)).size + x6_14.size) = False := eq_false (Nat.not_lt.2 c35)
              try (have c35b3 := c35; simp at c35b3; have c35b4 := eq_true c35b3; have c35b5 := decide_eq_true c35b3; have c35b6 := eq_false (Nat.not_lt.2 c35b3))
              have c35b7 : t179.size + 2 + x6_14.size ≤ 9223372036854775807 := by have h_ := c35; simp only [ByteArray.size_append] at h_; exact h_
              have c35b8 := eq_false (Nat.not_lt.2 c35b7)
              replace c35b7 := eq_true c35b7
              obtain rfl := Option.some.inj H
              have p186 : 0 ≤ (0 : Int) := (by omega)
              have q186 : 0 < (l0.length : Int) := of_decide_eq_true (by first | (with_reducible assumption) | assumption)
              obtain ⟨ad186, e186, hx186_0⟩ := Kd.at_int HR0.out 0 p186 q186
              obtain rfl : ad178 = ad186 := (by injection e186)
              have qi186 : (0 < l0.length) = True := eq_true (by omega)
              (try rw [show ((0 : Int)).toNat = 0 from rfl] at hx186_0)
              (try rw [Addr.add_zero'] at hx186_0)
              replace hx186_0 := (HB.out.cell (World.block_lt_of_cell? w _ hx186_0)).trans hx186_0
              replace p186 := eq_true p186
              replace q186 := eq_true q186
              go_wp2_with (first | (go_at_call 29; (with_reducible refine (spec_ModeOf.calls kj20 (rd l0 0) t187 _ A29.out).mono ?_); rintro e w36 ⟨rfl, hb⟩; have n0_ := Aside0.mk (below_step (by repeat (first | (with_reducible first | exact HB.out | apply below_alloc | apply pw_below_drewN | apply below_drew1) | exact HB.out)) hb); clear HB; have HB := n0_; clear n0_; (try clear hb); (try clear hb2); (try clear hk); (try clear hi)))
              repeat (go_quiet (first | (go_at_call 29; (with_reducible refine (spec_ModeOf.calls kj20 (rd l0 0) t187 _ A29.out).mono ?_); rintro e w36 ⟨rfl, hb⟩; have n0_ := Aside0.mk (below_step (by repeat (first | (with_reducible first | exact HB.out | apply below_alloc | apply pw_below_drewN | apply below_drew1) | exact HB.out)) hb); clear HB; have HB := n0_; clear n0_; (try clear hb); (try clear hb2); (try clear hk); (try clear hi))); try go_wp2_with (first | (go_at_call 29; (with_reducible refine (spec_ModeOf.calls kj20 (rd l0 0) t187 _ A29.out).mono ?_); rintro e w36 ⟨rfl, hb⟩; have n0_ := Aside0.mk (below_step (by repeat (first | (with_reducible first | exact HB.out | apply below_alloc | apply pw_below_drewN | apply below_drew1) | exact HB.out)) hb); clear HB; have HB := n0_; clear n0_; (try clear hb); (try clear hb2); (try clear hk); (try clear hi))))
              go_ret
              exact ⟨by first | rfl | (simp [errW_none, errW_some] <;> rfl) | (simp [*, errW_none, errW_some] <;> rfl), by repeat (first | (with_reducible first | exact HB.out | apply below_alloc | apply pw_below_drewN | apply below_drew1) | exact HB.out)⟩
             ·rw [if_neg c35] at H
              exact absurd H (by simp)
            ·rw [if_neg c34] at H
             exact absurd H (by simp)
           ·rw [if_neg c33] at H
            have c33b0 : (t187 == 2) = false := beq_eq_false_iff_ne.mpr c33
            have c33b1 : (t187 != 2) = true := bne_iff_ne.mpr c33
            by_cases c37 : t187 = 3
            ·rw [if_pos c37] at H
             have c37b0 : (t187 == 3) = true := beq_iff_eq.mpr c37
             have c37b1 : (t187 != 3) = false := bne_eq_false_iff_eq.mpr c37
             clear c37
             by_cases c38 : t179.size + 1 ≤ 9223372036854775807
             ·rw [if_pos c38] at H
              have c38b0 := eq_true c38
              have c38b1 : decide (t179.size + 1 ≤ 9223372036854775807) = true := decide_eq_true c38
              try have c38b2 : (9223372036854775807 < t179.size + 1) = False := eq_false (Nat.not_lt.2 c38)
              try (have c38b3 := c38; simp at c38b3; have c38b4 := eq_true c38b3; have c38b5 := decide_eq_true c38b3; have c38b6 := eq_false (Nat.not_lt.2 c38b3))
              by_cases c39 : (t179 ++ (⟨#[32]⟩ : ByteArray)).size + x6_14.size ≤ 9223372036854775807
              ·rw [if_pos c39] at H
               have c39b0 := eq_true c39
               have c39b1 : decide ((t179 ++ (⟨#[32]⟩ : ByteArray)).size + x6_14.size ≤ 9223372036854775807) = true := decide_eq_true c39
               try have c39b2 : (9223372036854775807 < (t179 ++ (⟨#[32]⟩ : ByteArray)).size + x6_14.size) = False := eq_false (Nat.not_lt.2 c39)
               try (have c39b3 := c39; simp at c39b3; have c39b4 := eq_true c39b3; have c39b5 := decide_eq_true c39b3; have c39b6 := eq_false (Nat.not_lt.2 c39b3))
               have c39b7 : t179.size + 1 + x6_14.size ≤ 9223372036854775807 := by have h_ := c39; simp only [ByteArray.size_append] at h_; exact h_
               have c39b8 := eq_false (Nat.not_lt.2 c39b7)
               replace c39b7 := eq_true c39b7
               obtain rfl := Option.some.inj H
               have p186 : 0 ≤ (0 : Int) := (by omega)
               have q186 : 0 < (l0.length : Int) := of_decide_eq_true (by first | (with_reducible assumption) | assumption)
               obtain ⟨ad186, e186, hx186_0⟩ := Kd.at_int HR0.out 0 p186 q186
               obtain rfl : ad178 = ad186 := (by injection e186)
               have qi186 : (0 < l0.length) = True := eq_true (by omega)
               (try rw [show ((0 : Int)).toNat = 0 from rfl] at hx186_0)
               (try rw [Addr.add_zero'] at hx186_0)
               replace hx186_0 := (HB.out.cell (World.block_lt_of_cell? w _ hx186_0)).trans hx186_0
               replace p186 := eq_true p186
               replace q186 := eq_true q186
               go_wp2_with (first | (go_at_call 29; (with_reducible refine (spec_ModeOf.calls kj20 (rd l0 0) t187 _ A29.out).mono ?_); rintro e w40 ⟨rfl, hb⟩; have n0_ := Aside0.mk (below_step (by repeat (first | (with_reducible first | exact HB.out | apply below_alloc | apply pw_below_drewN | apply below_drew1) | exact HB.out)) hb); clear HB; have HB := n0_; clear n0_; (try clear hb); (try clear hb2); (try clear hk); (try clear hi)))
               repeat (go_quiet (first | (go_at_call 29; (with_reducible refine (spec_ModeOf.calls kj20 (rd l0 0) t187 _ A29.out).mono ?_); rintro e w40 ⟨rfl, hb⟩; have n0_ := Aside0.mk (below_step (by repeat (first | (with_reducible first | exact HB.out | apply below_alloc | apply pw_below_drewN | apply below_drew1) | exact HB.out)) hb); clear HB; have HB := n0_; clear n0_; (try clear hb); (try clear hb2); (try clear hk); (try clear hi))); try go_wp2_with (first | (go_at_call 29; (with_reducible refine (spec_ModeOf.calls kj20 (rd l0 0) t187 _ A29.out).mono ?_); rintro e w40 ⟨rfl, hb⟩; have n0_ := Aside0.mk (below_step (by repeat (first | (with_reducible first | exact HB.out | apply below_alloc | apply pw_below_drewN | apply below_drew1) | exact HB.out)) hb); clear HB; have HB := n0_; clear n0_; (try clear hb); (try clear hb2); (try clear hk); (try clear hi))))
               go_ret
               exact ⟨by first | rfl | (simp [errW_none, errW_some] <;> rfl) | (simp [*, errW_none, errW_some] <;> rfl), by repeat (first | (with_reducible first | exact HB.out | apply below_alloc | apply pw_below_drewN | apply below_drew1) | exact HB.out)⟩
              ·rw [if_neg c39] at H
               exact absurd H (by simp)
             ·rw [if_neg c38] at H
              exact absurd H (by simp)
            ·rw [if_neg c37] at H
             have c37b0 : (t187 == 3) = false := beq_eq_false_iff_ne.mpr c37
             have c37b1 : (t187 != 3) = true := bne_iff_ne.mpr c37
             by_cases c41 : t187 = 4
             ·rw [if_pos c41] at H
              have c41b0 : (t187 == 4) = true := beq_iff_eq.mpr c41
              have c41b1 : (t187 != 4) = false := bne_eq_false_iff_eq.mpr c41
              clear c41
              by_cases c42 : t179.size + 1 ≤ 9223372036854775807
              ·rw [if_pos c42] at H
               have c42b0 := eq_true c42
               have c42b1 : decide (t179.size + 1 ≤ 9223372036854775807) = true := decide_eq_true c42
               try have c42b2 : (9223372036854775807 < t179.size + 1) = False := eq_false (Nat.not_lt.2 c42)
               try (have c42b3 := c42; simp at c42b3; have c42b4 := eq_true c42b3; have c42b5 := decide_eq_true c42b3; have c42b6 := eq_false (Nat.not_lt.2 c42b3))
               by_cases c43 : (t179 ++ (⟨#[32]⟩ : ByteArray)).size + x6_14.size ≤ 9223372036854775807
               ·rw [if_pos c43] at H
                have c43b0 := eq_true c43
                have c43b1 : decide ((t179 ++ (⟨#[32]⟩ : ByteArray)).size + x6_14.size ≤ 9223372036854775807) = true := decide_eq_true c43
                try have c43b2 : (9223372036854775807 < (t179 ++ (⟨#[32]⟩ : ByteArray)).size + x6_14.size) = False := eq_false (Nat.not_lt.2 c43)
                try (have c43b3 := c43; simp at c43b3; have c43b4 := eq_true c43b3; have c43b5 := decide_eq_true c43b3; have c43b6 := eq_false (Nat.not_lt.2 c43b3))
                have c43b7 : t179.size + 1 + x6_14.size ≤ 9223372036854775807 := by have h_ := c43; simp only [ByteArray.size_append] at h_; exact h_
                have c43b8 := eq_false (Nat.not_lt.2 c43b7)
                replace c43b7 := eq_true c43b7
                by_cases c44 : ((t179 ++ (⟨#[32]⟩ : ByteArray)) ++ x6_14).size + 2 ≤ 9223372036854775807
                ·rw [if_pos c44] at H
                 have c44b0 := eq_true c44
                 have c44b1 : decide (((t179 ++ (⟨#[32]⟩ : ByteArray)) ++ x6_14).size + 2 ≤ 9223372036854775807) = true := decide_eq_true c44
                 try have c44b2 : (9223372036854775807 < ((t179 ++ (⟨#[32]⟩ : ByteArray)) ++ x6_14).size + 2) = False := eq_false (Nat.not_lt.2 c44)
                 try (have c44b3 := c44; simp at c44b3; have c44b4 := eq_true c44b3; have c44b5 := decide_eq_true c44b3; have c44b6 := eq_false (Nat.not_lt.2 c44b3))
                 have c44b7 : t179.size + 1 + x6_14.size + 2 ≤ 9223372036854775807 := by have h_ := c44; simp only [ByteArray.size_append] at h_; exact h_
                 have c44b8 := eq_false (Nat.not_lt.2 c44b7)
                 replace c44b7 := eq_true c44b7
                 obtain rfl := Option.some.inj H
                 have p186 : 0 ≤ (0 : Int) := (by omega)
                 have q186 : 0 < (l0.length : Int) := of_decide_eq_true (by first | (with_reducible assumption) | assumption)
                 obtain ⟨ad186, e186, hx186_0⟩ := Kd.at_int HR0.out 0 p186 q186
                 obtain rfl : ad178 = ad186 := (by injection e186)
                 have qi186 : (0 < l0.length) = True := eq_true (by omega)
                 (try rw [show ((0 : Int)).toNat = 0 from rfl] at hx186_0)
                 (try rw [Addr.add_zero'] at hx186_0)
                 replace hx186_0 := (HB.out.cell (World.block_lt_of_cell? w _ hx186_0)).trans hx186_0
                 replace p186 := eq_true p186
                 replace q186 := eq_true q186
                 go_wp2_with (first | (go_at_call 29; (with_reducible refine (spec_ModeOf.calls kj20 (rd l0 0) t187 _ A29.out).mono ?_); rintro e w45 ⟨rfl, hb⟩; have n0_ := Aside0.mk (below_step (by repeat (first | (with_reducible first | exact HB.out | apply below_alloc | apply pw_below_drewN | apply below_drew1) | exact HB.out)) hb); clear HB; have HB := n0_; clear n0_; (try clear hb); (try clear hb2); (try clear hk); (try clear hi)))
                 repeat (go_quiet (first | (go_at_call 29; (with_reducible refine (spec_ModeOf.calls kj20 (rd l0 0) t187 _ A29.out).mono ?_); rintro e w45 ⟨rfl, hb⟩; have n0_ := Aside0.mk (below_step (by repeat (first | (with_reducible first | exact HB.out | apply below_alloc | apply pw_below_drewN | apply below_drew1) | exact HB.out)) hb); clear HB; have HB := n0_; clear n0_; (try clear hb); (try clear hb2); (try clear hk); (try clear hi))); try go_wp2_with (first | (go_at_call 29; (with_reducible refine (spec_ModeOf.calls kj20 (rd l0 0) t187 _ A29.out).mono ?_); rintro e w45 ⟨rfl, hb⟩; have n0_ := Aside0.mk (below_step (by repeat (first | (with_reducible first | exact HB.out | apply below_alloc | apply pw_below_drewN | apply below_drew1) | exact HB.out)) hb); clear HB; have HB := n0_; clear n0_; (try clear hb); (try clear hb2); (try clear hk); (try clear hi))))
                 go_ret
                 exact ⟨by first | rfl | (simp [errW_none, errW_some] <;> rfl) | (simp [*, errW_none, errW_some] <;> rfl), by repeat (first | (with_reducible first | exact HB.out | apply below_alloc | apply pw_below_drewN | apply below_drew1) | exact HB.out)⟩
                ·rw [if_neg c44] at H
                 exact absurd H (by simp)
               ·rw [if_neg c43] at H
                exact absurd H (by simp)
              ·rw [if_neg c42] at H
               exact absurd H (by simp)
             ·rw [if_neg c41] at H
              have c41b0 : (t187 == 4) = false := beq_eq_false_iff_ne.mpr c41
              have c41b1 : (t187 != 4) = true := bne_iff_ne.mpr c41
              by_cases c46 : t187 = 5
              ·rw [if_pos c46] at H
               have c46b0 : (t187 == 5) = true := beq_iff_eq.mpr c46
               have c46b1 : (t187 != 5) = false := bne_eq_false_iff_eq.mpr c46
               clear c46
               by_cases c47 : t179.size + 1 ≤ 9223372036854775807
               ·rw [if_pos c47] at H
                have c47b0 := eq_true c47
                have c47b1 : decide (t179.size + 1 ≤ 9223372036854775807) = true := decide_eq_true c47
                try have c47b2 : (9223372036854775807 < t179.size + 1) = False := eq_false (Nat.not_lt.2 c47)
                try (have c47b3 := c47; simp at c47b3; have c47b4 := eq_true c47b3; have c47b5 := decide_eq_true c47b3; have c47b6 := eq_false (Nat.not_lt.2 c47b3))
                by_cases c48 : (t179 ++ (⟨#[32]⟩ : ByteArray)).size + x6_14.size ≤ 9223372036854775807
                ·rw [if_pos c48] at H
                 have c48b0 := eq_true c48
                 have c48b1 : decide ((t179 ++ (⟨#[32]⟩ : ByteArray)).size + x6_14.size ≤ 9223372036854775807) = true := decide_eq_true c48
                 try have c48b2 : (9223372036854775807 < (t179 ++ (⟨#[32]⟩ : ByteArray)).size + x6_14.size) = False := eq_false (Nat.not_lt.2 c48)
                 try (have c48b3 := c48; simp at c48b3; have c48b4 := eq_true c48b3; have c48b5 := decide_eq_true c48b3; have c48b6 := eq_false (Nat.not_lt.2 c48b3))
                 have c48b7 : t179.size + 1 + x6_14.size ≤ 9223372036854775807 := by have h_ := c48; simp only [ByteArray.size_append] at h_; exact h_
                 have c48b8 := eq_false (Nat.not_lt.2 c48b7)
                 replace c48b7 := eq_true c48b7
                 by_cases c49 : ((t179 ++ (⟨#[32]⟩ : ByteArray)) ++ x6_14).size + 2 ≤ 9223372036854775807
                 ·rw [if_pos c49] at H
                  have c49b0 := eq_true c49
                  have c49b1 : decide (((t179 ++ (⟨#[32]⟩ : ByteArray)) ++ x6_14).size + 2 ≤ 9223372036854775807) = true := decide_eq_true c49
                  try have c49b2 : (9223372036854775807 < ((t179 ++ (⟨#[32]⟩ : ByteArray)) ++ x6_14).size + 2) = False := eq_false (Nat.not_lt.2 c49)
                  try (have c49b3 := c49; simp at c49b3; have c49b4 := eq_true c49b3; have c49b5 := decide_eq_true c49b3; have c49b6 := eq_false (Nat.not_lt.2 c49b3))
                  have c49b7 : t179.size + 1 + x6_14.size + 2 ≤ 9223372036854775807 := by have h_ := c49; simp only [ByteArray.size_append] at h_; exact h_
                  have c49b8 := eq_false (Nat.not_lt.2 c49b7)
                  replace c49b7 := eq_true c49b7
                  obtain rfl := Option.some.inj H
                  have p186 : 0 ≤ (0 : Int) := (by omega)
                  have q186 : 0 < (l0.length : Int) := of_decide_eq_true (by first | (with_reducible assumption) | assumption)
                  obtain ⟨ad186, e186, hx186_0⟩ := Kd.at_int HR0.out 0 p186 q186
                  obtain rfl : ad178 = ad186 := (by injection e186)
                  have qi186 : (0 < l0.length) = True := eq_true (by omega)
                  (try rw [show ((0 : Int)).toNat = 0 from rfl] at hx186_0)
                  (try rw [Addr.add_zero'] at hx186_0)
                  replace hx186_0 := (HB.out.cell (World.block_lt_of_cell? w _ hx186_0)).trans hx186_0
                  replace p186 := eq_true p186
                  replace q186 := eq_true q186
                  go_wp2_with (first | (go_at_call 29; (with_reducible refine (spec_ModeOf.calls kj20 (rd l0 0) t187 _ A29.out).mono ?_); rintro e w50 ⟨rfl, hb⟩; have n0_ := Aside0.mk (below_step (by repeat (first | (with_reducible first | exact HB.out | apply below_alloc | apply pw_below_drewN | apply below_drew1) | exact HB.out)) hb); clear HB; have HB := n0_; clear n0_; (try clear hb); (try clear hb2); (try clear hk); (try clear hi)))
                  repeat (go_quiet (first | (go_at_call 29; (with_reducible refine (spec_ModeOf.calls kj20 (rd l0 0) t187 _ A29.out).mono ?_); rintro e w50 ⟨rfl, hb⟩; have n0_ := Aside0.mk (below_step (by repeat (first | (with_reducible first | exact HB.out | apply below_alloc | apply pw_below_drewN | apply below_drew1) | exact HB.out)) hb); clear HB; have HB := n0_; clear n0_; (try clear hb); (try clear hb2); (try clear hk); (try clear hi))); try go_wp2_with (first | (go_at_call 29; (with_reducible refine (spec_ModeOf.calls kj20 (rd l0 0) t187 _ A29.out).mono ?_); rintro e w50 ⟨rfl, hb⟩; have n0_ := Aside0.mk (below_step (by repeat (first | (with_reducible first | exact HB.out | apply below_alloc | apply pw_below_drewN | apply below_drew1) | exact HB.out)) hb); clear HB; have HB := n0_; clear n0_; (try clear hb); (try clear hb2); (try clear hk); (try clear hi))))
                  go_ret
                  exact ⟨by first | rfl | (simp [errW_none, errW_some] <;> rfl) | (simp [*, errW_none, errW_some] <;> rfl), by repeat (first | (with_reducible first | exact HB.out | apply below_alloc | apply pw_below_drewN | apply below_drew1) | exact HB.out)⟩
                 ·rw [if_neg c49] at H
                  exact absurd H (by simp)
                ·rw [if_neg c48] at H
                 exact absurd H (by simp)
               ·rw [if_neg c47] at H
                exact absurd H (by simp)
              ·rw [if_neg c46] at H
               have c46b0 : (t187 == 5) = false := beq_eq_false_iff_ne.mpr c46
               have c46b1 : (t187 != 5) = true := bne_iff_ne.mpr c46
               by_cases c51 : t187 = 6
               ·rw [if_pos c51] at H
                have c51b0 : (t187 == 6) = true := beq_iff_eq.mpr c51
                have c51b1 : (t187 != 6) = false := bne_eq_false_iff_eq.mpr c51
                clear c51
                by_cases c52 : t179.size + 1 ≤ 9223372036854775807
                ·rw [if_pos c52] at H
                 have c52b0 := eq_true c52
                 have c52b1 : decide (t179.size + 1 ≤ 9223372036854775807) = true := decide_eq_true c52
                 try have c52b2 : (9223372036854775807 < t179.size + 1) = False := eq_false (Nat.not_lt.2 c52)
                 try (have c52b3 := c52; simp at c52b3; have c52b4 := eq_true c52b3; have c52b5 := decide_eq_true c52b3; have c52b6 := eq_false (Nat.not_lt.2 c52b3))
                 by_cases c53 : (t179 ++ (⟨#[32]⟩ : ByteArray)).size + x7_20.size ≤ 9223372036854775807
                 ·rw [if_pos c53] at H
                  have c53b0 := eq_true c53
                  have c53b1 : decide ((t179 ++ (⟨#[32]⟩ : ByteArray)).size + x7_20.size ≤ 9223372036854775807) = true := decide_eq_true c53
                  try have c53b2 : (9223372036854775807 < (t179 ++ (⟨#[32]⟩ : ByteArray)).size + x7_20.size) = False := eq_false (Nat.not_lt.2 c53)
                  try (have c53b3 := c53; simp at c53b3; have c53b4 := eq_true c53b3; have c53b5 := decide_eq_true c53b3; have c53b6 := eq_false (Nat.not_lt.2 c53b3))
                  have c53b7 : t179.size + 1 + x7_20.size ≤ 9223372036854775807 := by have h_ := c53; simp only [ByteArray.size_append] at h_; exact h_
                  have c53b8 := eq_false (Nat.not_lt.2 c53b7)
                  replace c53b7 := eq_true c53b7
                  obtain rfl := Option.some.inj H
                  have p186 : 0 ≤ (0 : Int) := (by omega)
                  have q186 : 0 < (l0.length : Int) := of_decide_eq_true (by first | (with_reducible assumption) | assumption)
                  obtain ⟨ad186, e186, hx186_0⟩ := Kd.at_int HR0.out 0 p186 q186
                  obtain rfl : ad178 = ad186 := (by injection e186)
                  have qi186 : (0 < l0.length) = True := eq_true (by omega)
                  (try rw [show ((0 : Int)).toNat = 0 from rfl] at hx186_0)
                  (try rw [Addr.add_zero'] at hx186_0)
                  replace hx186_0 := (HB.out.cell (World.block_lt_of_cell? w _ hx186_0)).trans hx186_0
                  replace p186 := eq_true p186
                  replace q186 := eq_true q186
                  go_wp2_with (first | (go_at_call 29; (with_reducible refine (spec_ModeOf.calls kj20 (rd l0 0) t187 _ A29.out).mono ?_); rintro e w54 ⟨rfl, hb⟩; have n0_ := Aside0.mk (below_step (by repeat (first | (with_reducible first | exact HB.out | apply below_alloc | apply pw_below_drewN | apply below_drew1) | exact HB.out)) hb); clear HB; have HB := n0_; clear n0_; (try clear hb); (try clear hb2); (try clear hk); (try clear hi)))
                  repeat (go_quiet (first | (go_at_call 29; (with_reducible refine (spec_ModeOf.calls kj20 (rd l0 0) t187 _ A29.out).mono ?_); rintro e w54 ⟨rfl, hb⟩; have n0_ := Aside0.mk (below_step (by repeat (first | (with_reducible first | exact HB.out | apply below_alloc | apply pw_below_drewN | apply below_drew1) | exact HB.out)) hb); clear HB; have HB := n0_; clear n0_; (try clear hb); (try clear hb2); (try clear hk); (try clear hi))); try go_wp2_with (first | (go_at_call 29; (with_reducible refine (spec_ModeOf.calls kj20 (rd l0 0) t187 _ A29.out).mono ?_); rintro e w54 ⟨rfl, hb⟩; have n0_ := Aside0.mk (below_step (by repeat (first | (with_reducible first | exact HB.out | apply below_alloc | apply pw_below_drewN | apply below_drew1) | exact HB.out)) hb); clear HB; have HB := n0_; clear n0_; (try clear hb); (try clear hb2); (try clear hk); (try clear hi))))
                  go_ret
                  exact ⟨by first | rfl | (simp [errW_none, errW_some] <;> rfl) | (simp [*, errW_none, errW_some] <;> rfl), by repeat (first | (with_reducible first | exact HB.out | apply below_alloc | apply pw_below_drewN | apply below_drew1) | exact HB.out)⟩
                 ·rw [if_neg c53] at H
                  exact absurd H (by simp)
                ·rw [if_neg c52] at H
                 exact absurd H (by simp)
               ·rw [if_neg c51] at H
                have c51b0 : (t187 == 6) = false := beq_eq_false_iff_ne.mpr c51
                have c51b1 : (t187 != 6) = true := bne_iff_ne.mpr c51
                by_cases c55 : t187 = 7
                ·rw [if_pos c55] at H
                 have c55b0 : (t187 == 7) = true := beq_iff_eq.mpr c55
                 have c55b1 : (t187 != 7) = false := bne_eq_false_iff_eq.mpr c55
                 clear c55
                 by_cases c56 : t179.size + 1 ≤ 9223372036854775807
                 ·rw [if_pos c56] at H
                  have c56b0 := eq_true c56
                  have c56b1 : decide (t179.size + 1 ≤ 9223372036854775807) = true := decide_eq_true c56
                  try have c56b2 : (9223372036854775807 < t179.size + 1) = False := eq_false (Nat.not_lt.2 c56)
                  try (have c56b3 := c56; simp at c56b3; have c56b4 := eq_true c56b3; have c56b5 := decide_eq_true c56b3; have c56b6 := eq_false (Nat.not_lt.2 c56b3))
                  by_cases c57 : (t179 ++ (⟨#[32]⟩ : ByteArray)).size + x7_20.size ≤ 9223372036854775807
                  ·rw [if_pos c57] at H
                   have c57b0 := eq_true c57
                   have c57b1 : decide ((t179 ++ (⟨#[32]⟩ : ByteArray)).size + x7_20.size ≤ 9223372036854775807) = true := decide_eq_true c57
                   try have c57b2 : (9223372036854775807 < (t179 ++ (⟨#[32]⟩ : ByteArray)).size + x7_20.size) = False := eq_false (Nat.not_lt.2 c57)
                   try (have c57b3 := c57; simp at c57b3; have c57b4 := eq_true c57b3; have c57b5 := decide_eq_true c57b3; have c57b6 := eq_false (Nat.not_lt.2 c57b3))
                   have c57b7 : t179.size + 1 + x7_20.size ≤ 9223372036854775807 := by have h_ := c57; simp only [ByteArray.size_append] at h_; exact h_
                   have c57b8 := eq_false (Nat.not_lt.2 c57b7)
                   replace c57b7 := eq_true c57b7
                   by_cases c58 : ((t179 ++ (⟨#[32]⟩ : ByteArray)) ++ x7_20).size + 2 ≤ 9223372036854775807
                   ·rw [if_pos c58] at H
                    have c58b0 := eq_true c58
                    have c58b1 : decide (((t179 ++ (⟨#[32]⟩ : ByteArray)) ++ x7_20).size + 2 ≤ 9223372036854775807) = true := decide_eq_true c58
                    try have c58b2 : (9223372036854775807 < ((t179 ++ (⟨#[32]⟩ : ByteArray)) ++ x7_20).size + 2) = False := eq_false (Nat.not_lt.2 c58)
                    try (have c58b3 := c58; simp at c58b3; have c58b4 := eq_true c58b3; have c58b5 := decide_eq_true c58b3; have c58b6 := eq_false (Nat.not_lt.2 c58b3))
                    have c58b7 : t179.size + 1 + x7_20.size + 2 ≤ 9223372036854775807 := by have h_ := c58; simp only [ByteArray.size_append] at h_; exact h_
                    have c58b8 := eq_false (Nat.not_lt.2 c58b7)
                    replace c58b7 := eq_true c58b7
                    obtain rfl := Option.some.inj H
                    have p186 : 0 ≤ (0 : Int) := (by omega)
                    have q186 : 0 < (l0.length : Int) := of_decide_eq_true (by first | (with_reducible assumption) | assumption)
                    obtain ⟨ad186, e186, hx186_0⟩ := Kd.at_int HR0.out 0 p186 q186
                    obtain rfl : ad178 = ad186 := (by injection e186)
                    have qi186 : (0 < l0.length) = True := eq_true (by omega)
                    (try rw [show ((0 : Int)).toNat = 0 from rfl] at hx186_0)
                    (try rw [Addr.add_zero'] at hx186_0)
                    replace hx186_0 := (HB.out.cell (World.block_lt_of_cell? w _ hx186_0)).trans hx186_0
                    replace p186 := eq_true p186
                    replace q186 := eq_true q186
                    go_wp2_with (first | (go_at_call 29; (with_reducible refine (spec_ModeOf.calls kj20 (rd l0 0) t187 _ A29.out).mono ?_); rintro e w59 ⟨rfl, hb⟩; have n0_ := Aside0.mk (below_step (by repeat (first | (with_reducible first | exact HB.out | apply below_alloc | apply pw_below_drewN | apply below_drew1) | exact HB.out)) hb); clear HB; have HB := n0_; clear n0_; (try clear hb); (try clear hb2); (try clear hk); (try clear hi)))
                    repeat (go_quiet (first | (go_at_call 29; (with_reducible refine (spec_ModeOf.calls kj20 (rd l0 0) t187 _ A29.out).mono ?_); rintro e w59 ⟨rfl, hb⟩; have n0_ := Aside0.mk (below_step (by repeat (first | (with_reducible first | exact HB.out | apply below_alloc | apply pw_below_drewN | apply below_drew1) | exact HB.out)) hb); clear HB; have HB := n0_; clear n0_; (try clear hb); (try clear hb2); (try clear hk); (try clear hi))); try go_wp2_with (first | (go_at_call 29; (with_reducible refine (spec_ModeOf.calls kj20 (rd l0 0) t187 _ A29.out).mono ?_); rintro e w59 ⟨rfl, hb⟩; have n0_ := Aside0.mk (below_step (by repeat (first | (with_reducible first | exact HB.out | apply below_alloc | apply pw_below_drewN | apply below_drew1) | exact HB.out)) hb); clear HB; have HB := n0_; clear n0_; (try clear hb); (try clear hb2); (try clear hk); (try clear hi))))
                    go_ret
                    exact ⟨by first | rfl | (simp [errW_none, errW_some] <;> rfl) | (simp [*, errW_none, errW_some] <;> rfl), by repeat (first | (with_reducible first | exact HB.out | apply below_alloc | apply pw_below_drewN | apply below_drew1) | exact HB.out)⟩
                   ·rw [if_neg c58] at H
                    exact absurd H (by simp)
                  ·rw [if_neg c57] at H
                   exact absurd H (by simp)
                 ·rw [if_neg c56] at H
                  exact absurd H (by simp)
                ·rw [if_neg c55] at H
                 have c55b0 : (t187 == 7) = false := beq_eq_false_iff_ne.mpr c55
                 have c55b1 : (t187 != 7) = true := bne_iff_ne.mpr c55
                 by_cases c60 : t187 = 8
                 ·rw [if_pos c60] at H
                  have c60b0 : (t187 == 8) = true := beq_iff_eq.mpr c60
                  have c60b1 : (t187 != 8) = false := bne_eq_false_iff_eq.mpr c60
                  clear c60
                  by_cases c61 : t179.size + 1 ≤ 9223372036854775807
                  ·rw [if_pos c61] at H
                   have c61b0 := eq_true c61
                   have c61b1 : decide (t179.size + 1 ≤ 9223372036854775807) = true := decide_eq_true c61
                   try have c61b2 : (9223372036854775807 < t179.size + 1) = False := eq_false (Nat.not_lt.2 c61)
                   try (have c61b3 := c61; simp at c61b3; have c61b4 := eq_true c61b3; have c61b5 := decide_eq_true c61b3; have c61b6 := eq_false (Nat.not_lt.2 c61b3))
                   by_cases c62 : (t179 ++ (⟨#[32]⟩ : ByteArray)).size + x7_20.size ≤ 9223372036854775807
                   ·rw [if_pos c62] at H
                    have c62b0 := eq_true c62
                    have c62b1 : decide ((t179 ++ (⟨#[32]⟩ : ByteArray)).size + x7_20.size ≤ 9223372036854775807) = true := decide_eq_true c62
                    try have c62b2 : (9223372036854775807 < (t179 ++ (⟨#[32]⟩ : ByteArray)).size + x7_20.size) = False := eq_false (Nat.not_lt.2 c62)
                    try (have c62b3 := c62; simp at c62b3; have c62b4 := eq_true c62b3; have c62b5 := decide_eq_true c62b3; have c62b6 := eq_false (Nat.not_lt.2 c62b3))
                    have c62b7 : t179.size + 1 + x7_20.size ≤ 9223372036854775807 := by have h_ := c62; simp only [ByteArray.size_append] at h_; exact h_
                    have c62b8 := eq_false (Nat.not_lt.2 c62b7)
                    replace c62b7 := eq_true c62b7
                    by_cases c63 : ((t179 ++ (⟨#[32]⟩ : ByteArray)) ++ x7_20).size + 2 ≤ 9223372036854775807
                    ·rw [if_pos c63] at H
                     have c63b0 := eq_true c63
                     have c63b1 : decide (((t179 ++ (⟨#[32]⟩ : ByteArray)) ++ x7_20).size + 2 ≤ 9223372036854775807) = true := decide_eq_true c63
                     try have c63b2 : (9223372036854775807 < ((t179 ++ (⟨#[32]⟩ : ByteArray)) ++ x7_20).size + 2) = False := eq_false (Nat.not_lt.2 c63)
                     try (have c63b3 := c63; simp at c63b3; have c63b4 := eq_true c63b3; have c63b5 := decide_eq_true c63b3; have c63b6 := eq_false (Nat.not_lt.2 c63b3))
                     have c63b7 : t179.size + 1 + x7_20.size + 2 ≤ 9223372036854775807 := by have h_ := c63; simp only [ByteArray.size_append] at h_; exact h_
                     have c63b8 := eq_false (Nat.not_lt.2 c63b7)
                     replace c63b7 := eq_true c63b7
                     obtain rfl := Option.some.inj H
                     have p186 : 0 ≤ (0 : Int) := (by omega)
                     have q186 : 0 < (l0.length : Int) := of_decide_eq_true (by first | (with_reducible assumption) | assumption)
                     obtain ⟨ad186, e186, hx186_0⟩ := Kd.at_int HR0.out 0 p186 q186
                     obtain rfl : ad178 = ad186 := (by injection e186)
                     have qi186 : (0 < l0.length) = True := eq_true (by omega)
                     (try rw [show ((0 : Int)).toNat = 0 from rfl] at hx186_0)
                     (try rw [Addr.add_zero'] at hx186_0)
                     replace hx186_0 := (HB.out.cell (World.block_lt_of_cell? w _ hx186_0)).trans hx186_0
                     replace p186 := eq_true p186
                     replace q186 := eq_true q186
                     go_wp2_with (first | (go_at_call 29; (with_reducible refine (spec_ModeOf.calls kj20 (rd l0 0) t187 _ A29.out).mono ?_); rintro e w64 ⟨rfl, hb⟩; have n0_ := Aside0.mk (below_step (by repeat (first | (with_reducible first | exact HB.out | apply below_alloc | apply pw_below_drewN | apply below_drew1) | exact HB.out)) hb); clear HB; have HB := n0_; clear n0_; (try clear hb); (try clear hb2); (try clear hk); (try clear hi)))
                     repeat (go_quiet (first | (go_at_call 29; (with_reducible refine (spec_ModeOf.calls kj20 (rd l0 0) t187 _ A29.out).mono ?_); rintro e w64 ⟨rfl, hb⟩; have n0_ := Aside0.mk (below_step (by repeat (first | (with_reducible first | exact HB.out | apply below_alloc | apply pw_below_drewN | apply below_drew1) | exact HB.out)) hb); clear HB; have HB := n0_; clear n0_; (try clear hb); (try clear hb2); (try clear hk); (try clear hi))); try go_wp2_with (first | (go_at_call 29; (with_reducible refine (spec_ModeOf.calls kj20 (rd l0 0) t187 _ A29.out).mono ?_); rintro e w64 ⟨rfl, hb⟩; have n0_ := Aside0.mk (below_step (by repeat (first | (with_reducible first | exact HB.out | apply below_alloc | apply pw_below_drewN | apply below_drew1) | exact HB.out)) hb); clear HB; have HB := n0_; clear n0_; (try clear hb); (try clear hb2); (try clear hk); (try clear hi))))
                     go_ret
                     exact ⟨by first | rfl | (simp [errW_none, errW_some] <;> rfl) | (simp [*, errW_none, errW_some] <;> rfl), by repeat (first | (with_reducible first | exact HB.out | apply below_alloc | apply pw_below_drewN | apply below_drew1) | exact HB.out)⟩
                    ·rw [if_neg c63] at H
                     exact absurd H (by simp)
                   ·rw [if_neg c62] at H
                    exact absurd H (by simp)
                  ·rw [if_neg c61] at H
                   exact absurd H (by simp)
                 ·rw [if_neg c60] at H
                  have c60b0 : (t187 == 8) = false := beq_eq_false_iff_ne.mpr c60
                  have c60b1 : (t187 != 8) = true := bne_iff_ne.mpr c60
                  by_cases c65 : t187 = 9
                  ·rw [if_pos c65] at H
                   have c65b0 : (t187 == 9) = true := beq_iff_eq.mpr c65
                   have c65b1 : (t187 != 9) = false := bne_eq_false_iff_eq.mpr c65
                   clear c65
                   by_cases c66 : t179.size + 2 ≤ 9223372036854775807
                   ·rw [if_pos c66] at H
                    have c66b0 := eq_true c66
                    have c66b1 : decide (t179.size + 2 ≤ 9223372036854775807) = true := decide_eq_true c66
                    try have c66b2 : (9223372036854775807 < t179.size + 2) = False := eq_false (Nat.not_lt.2 c66)
                    try (have c66b3 := c66; simp at c66b3; have c66b4 := eq_true c66b3; have c66b5 := decide_eq_true c66b3; have c66b6 := eq_false (Nat.not_lt.2 c66b3))
                    by_cases c67 : (t179 ++ (⟨#[32, 40]⟩ : ByteArray)).size + x7_20.size ≤ 9223372036854775807
                    ·rw [if_pos c67] at H
                     have c67b0 := eq_true c67
                     have c67b1 : decide ((t179 ++ (⟨#[32, 40]⟩ : ByteArray)).size + x7_20.size ≤ 9223372036854775807) = true := decide_eq_true c67
                     try have c67b2 : (9223372036854775807 < (t179 ++ (⟨#[32, 40]⟩ : ByteArray)).size + x7_20.size) = False := eq_false (Nat.not_lt.2 c67)
                     try (have c67b3 := c67; simp at c67b3; have c67b4 := eq_true c67b3; have c67b5 := decide_eq_true c67b3; have c67b6 := eq_false (Nat.not_lt.2 c67b3))
                     have c67b7 : t179.size + 2 + x7_20.size ≤ 9223372036854775807 := by have h_ := c67; simp only [ByteArray.size_append] at h_; exact h_
                     have c67b8 := eq_false (Nat.not_lt.2 c67b7)
                     replace c67b7 := eq_true c67b7
                     by_cases c68 : ((t179 ++ (⟨#[32, 40]⟩ : ByteArray)) ++ x7_20).size + 1 ≤ 9223372036854775807
                     ·rw [if_pos c68] at H
                      have c68b0 := eq_true c68
                      have c68b1 : decide (((t179 ++ (⟨#[32, 40]⟩ : ByteArray)) ++ x7_20).size + 1 ≤ 9223372036854775807) = true := decide_eq_true c68
                      try have c68b2 : (9223372036854775807 < ((t179 ++ (⟨#[32, 40]⟩ : ByteArray)) ++ x7_20).size + 1) = False := eq_false (Nat.not_lt.2 c68)
                      try (have c68b3 := c68; simp at c68b3; have c68b4 := eq_true c68b3; have c68b5 := decide_eq_true c68b3; have c68b6 := eq_false (Nat.not_lt.2 c68b3))
                      have c68b7 : t179.size + 2 + x7_20.size + 1 ≤ 9223372036854775807 := by have h_ := c68; simp only [ByteArray.size_append] at h_; exact h_
                      have c68b8 := eq_false (Nat.not_lt.2 c68b7)
                      replace c68b7 := eq_true c68b7
                      obtain rfl := Option.some.inj H
                      have p186 : 0 ≤ (0 : Int) := (by omega)
                      have q186 : 0 < (l0.length : Int) := of_decide_eq_true (by first | (with_reducible assumption) | assumption)
                      obtain ⟨ad186, e186, hx186_0⟩ := Kd.at_int HR0.out 0 p186 q186
                      obtain rfl : ad178 = ad186 := (by injection e186)
                      have qi186 : (0 < l0.length) = True := eq_true (by omega)
                      (try rw [show ((0 : Int)).toNat = 0 from rfl] at hx186_0)
                      (try rw [Addr.add_zero'] at hx186_0)
                      replace hx186_0 := (HB.out.cell (World.block_lt_of_cell? w _ hx186_0)).trans hx186_0
                      replace p186 := eq_true p186
                      replace q186 := eq_true q186
                      go_wp2_with (first | (go_at_call 29; (with_reducible refine (spec_ModeOf.calls kj20 (rd l0 0) t187 _ A29.out).mono ?_); rintro e w69 ⟨rfl, hb⟩; have n0_ := Aside0.mk (below_step (by repeat (first | (with_reducible first | exact HB.out | apply below_alloc | apply pw_below_drewN | apply below_drew1) | exact HB.out)) hb); clear HB; have HB := n0_; clear n0_; (try clear hb); (try clear hb2); (try clear hk); (try clear hi)))
                      repeat (go_quiet (first | (go_at_call 29; (with_reducible refine (spec_ModeOf.calls kj20 (rd l0 0) t187 _ A29.out).mono ?_); rintro e w69 ⟨rfl, hb⟩; have n0_ := Aside0.mk (below_step (by repeat (first | (with_reducible first | exact HB.out | apply below_alloc | apply pw_below_drewN | apply below_drew1) | exact HB.out)) hb); clear HB; have HB := n0_; clear n0_; (try clear hb); (try clear hb2); (try clear hk); (try clear hi))); try go_wp2_with (first | (go_at_call 29; (with_reducible refine (spec_ModeOf.calls kj20 (rd l0 0) t187 _ A29.out).mono ?_); rintro e w69 ⟨rfl, hb⟩; have n0_ := Aside0.mk (below_step (by repeat (first | (with_reducible first | exact HB.out | apply below_alloc | apply pw_below_drewN | apply below_drew1) | exact HB.out)) hb); clear HB; have HB := n0_; clear n0_; (try clear hb); (try clear hb2); (try clear hk); (try clear hi))))
                      go_ret
                      exact ⟨by first | rfl | (simp [errW_none, errW_some] <;> rfl) | (simp [*, errW_none, errW_some] <;> rfl), by repeat (first | (with_reducible first | exact HB.out | apply below_alloc | apply pw_below_drewN | apply below_drew1) | exact HB.out)⟩
                     ·rw [if_neg c68] at H
                      exact absurd H (by simp)
                    ·rw [if_neg c67] at H
                     exact absurd H (by simp)
                   ·rw [if_neg c66] at H
                    exact absurd H (by simp)
                  ·rw [if_neg c65] at H
                   have c65b0 : (t187 == 9) = false := beq_eq_false_iff_ne.mpr c65
                   have c65b1 : (t187 != 9) = true := bne_iff_ne.mpr c65
                   by_cases c70 : t187 = 10
                   ·rw [if_pos c70] at H
                    have c70b0 : (t187 == 10) = true := beq_iff_eq.mpr c70
                    have c70b1 : (t187 != 10) = false := bne_eq_false_iff_eq.mpr c70
                    clear c70
                    by_cases c71 : t179.size + 2 ≤ 9223372036854775807
                    ·rw [if_pos c71] at H
                     have c71b0 := eq_true c71
                     have c71b1 : decide (t179.size + 2 ≤ 9223372036854775807) = true := decide_eq_true c71
                     try have c71b2 : (9223372036854775807 < t179.size + 2) = False := eq_false (Nat.not_lt.2 c71)
                     try (have c71b3 := c71; simp at c71b3; have c71b4 := eq_true c71b3; have c71b5 := decide_eq_true c71b3; have c71b6 := eq_false (Nat.not_lt.2 c71b3))
                     by_cases c72 : (t179 ++ (⟨#[32, 40]⟩ : ByteArray)).size + x6_14.size ≤ 9223372036854775807
                     ·rw [if_pos c72] at H
                      have c72b0 := eq_true c72
                      have c72b1 : decide ((t179 ++ (⟨#[32, 40]⟩ : ByteArray)).size + x6_14.size ≤ 9223372036854775807) = true := decide_eq_true c72
                      try have c72b2 : (9223372036854775807 < (t179 ++ (⟨#[32, 40]⟩ : ByteArray)).size + x6_14.size) = False := eq_false (Nat.not_lt.2 c72)
                      try (have c72b3 := c72; simp at c72b3; have c72b4 := eq_true c72b3; have c72b5 := decide_eq_true c72b3; have c72b6 := eq_false (Nat.not_lt.2 c72b3))
                      have c72b7 : t179.size + 2 + x6_14.size ≤ 9223372036854775807 := by have h_ := c72; simp only [ByteArray.size_append] at h_; exact h_
                      have c72b8 := eq_false (Nat.not_lt.2 c72b7)
                      replace c72b7 := eq_true c72b7
                      by_cases c73 : ((t179 ++ (⟨#[32, 40]⟩ : ByteArray)) ++ x6_14).size + 3 ≤ 9223372036854775807
                      ·rw [if_pos c73] at H
                       have c73b0 := eq_true c73
                       have c73b1 : decide (((t179 ++ (⟨#[32, 40]⟩ : ByteArray)) ++ x6_14).size + 3 ≤ 9223372036854775807) = true := decide_eq_true c73
                       try have c73b2 : (9223372036854775807 < ((t179 ++ (⟨#[32, 40]⟩ : ByteArray)) ++ x6_14).size + 3) = False := eq_false (Nat.not_lt.2 c73)
                       try (have c73b3 := c73; simp at c73b3; have c73b4 := eq_true c73b3; have c73b5 := decide_eq_true c73b3; have c73b6 := eq_false (Nat.not_lt.2 c73b3))
                       have c73b7 : t179.size + 2 + x6_14.size + 3 ≤ 9223372036854775807 := by have h_ := c73; simp only [ByteArray.size_append] at h_; exact h_
                       have c73b8 := eq_false (Nat.not_lt.2 c73b7)
                       replace c73b7 := eq_true c73b7
                       obtain rfl := Option.some.inj H
                       have p186 : 0 ≤ (0 : Int) := (by omega)
                       have q186 : 0 < (l0.length : Int) := of_decide_eq_true (by first | (with_reducible assumption) | assumption)
                       obtain ⟨ad186, e186, hx186_0⟩ := Kd.at_int HR0.out 0 p186 q186
                       obtain rfl : ad178 = ad186 := (by injection e186)
                       have qi186 : (0 < l0.length) = True := eq_true (by omega)
                       (try rw [show ((0 : Int)).toNat = 0 from rfl] at hx186_0)
                       (try rw [Addr.add_zero'] at hx186_0)
                       replace hx186_0 := (HB.out.cell (World.block_lt_of_cell? w _ hx186_0)).trans hx186_0
                       replace p186 := eq_true p186
                       replace q186 := eq_true q186
                       go_wp2_with (first | (go_at_call 29; (with_reducible refine (spec_ModeOf.calls kj20 (rd l0 0) t187 _ A29.out).mono ?_); rintro e w74 ⟨rfl, hb⟩; have n0_ := Aside0.mk (below_step (by repeat (first | (with_reducible first | exact HB.out | apply below_alloc | apply pw_below_drewN | apply below_drew1) | exact HB.out)) hb); clear HB; have HB := n0_; clear n0_; (try clear hb); (try clear hb2); (try clear hk); (try clear hi)))
                       repeat (go_quiet (first | (go_at_call 29; (with_reducible refine (spec_ModeOf.calls kj20 (rd l0 0) t187 _ A29.out).mono ?_); rintro e w74 ⟨rfl, hb⟩; have n0_ := Aside0.mk (below_step (by repeat (first | (with_reducible first | exact HB.out | apply below_alloc | apply pw_below_drewN | apply below_drew1) | exact HB.out)) hb); clear HB; have HB := n0_; clear n0_; (try clear hb); (try clear hb2); (try clear hk); (try clear hi))); try go_wp2_with (first | (go_at_call 29; (with_reducible refine (spec_ModeOf.calls kj20 (rd l0 0) t187 _ A29.out).mono ?_); rintro e w74 ⟨rfl, hb⟩; have n0_ := Aside0.mk (below_step (by repeat (first | (with_reducible first | exact HB.out | apply below_alloc | apply pw_below_drewN | apply below_drew1) | exact HB.out)) hb); clear HB; have HB := n0_; clear n0_; (try clear hb); (try clear hb2); (try clear hk); (try clear hi))))
                       go_ret
                       exact ⟨by first | rfl | (simp [errW_none, errW_some] <;> rfl) | (simp [*, errW_none, errW_some] <;> rfl), by repeat (first | (with_reducible first | exact HB.out | apply below_alloc | apply pw_below_drewN | apply below_drew1) | exact HB.out)⟩
                      ·rw [if_neg c73] at H
                       exact absurd H (by simp)
                     ·rw [if_neg c72] at H
                      exact absurd H (by simp)
                    ·rw [if_neg c71] at H
                     exact absurd H (by simp)
                   ·rw [if_neg c70] at H
                    have c70b0 : (t187 == 10) = false := beq_eq_false_iff_ne.mpr c70
                    have c70b1 : (t187 != 10) = true := bne_iff_ne.mpr c70
                    by_cases c75 : t187 = 11
                    ·rw [if_pos c75] at H
                     have c75b0 : (t187 == 11) = true := beq_iff_eq.mpr c75
                     have c75b1 : (t187 != 11) = false := bne_eq_false_iff_eq.mpr c75
                     clear c75
                     by_cases c76 : t179.size + 2 ≤ 9223372036854775807
                     ·rw [if_pos c76] at H
                      have c76b0 := eq_true c76
                      have c76b1 : decide (t179.size + 2 ≤ 9223372036854775807) = true := decide_eq_true c76
                      try have c76b2 : (9223372036854775807 < t179.size + 2) = False := eq_false (Nat.not_lt.2 c76)
                      try (have c76b3 := c76; simp at c76b3; have c76b4 := eq_true c76b3; have c76b5 := decide_eq_true c76b3; have c76b6 := eq_false (Nat.not_lt.2 c76b3))
                      by_cases c77 : (t179 ++ (⟨#[32, 40]⟩ : ByteArray)).size + x6_14.size ≤ 9223372036854775807
                      ·rw [if_pos c77] at H
                       have c77b0 := eq_true c77
                       have c77b1 : decide ((t179 ++ (⟨#[32, 40]⟩ : ByteArray)).size + x6_14.size ≤ 9223372036854775807) = true := decide_eq_true c77
                       try have c77b2 : (9223372036854775807 < (t179 ++ (⟨#[32, 40]⟩ : ByteArray)).size + x6_14.size) = False := eq_false (Nat.not_lt.2 c77)
                       try (have c77b3 := c77; simp at c77b3; have c77b4 := eq_true c77b3; have c77b5 := decide_eq_true c77b3; have c77b6 := eq_false (Nat.not_lt.2 c77b3))
                       have c77b7 : t179.size + 2 + x6_14.size ≤ 9223372036854775807 := by have h_ := c77; simp only [ByteArray.size_append] at h_; exact h_
                       have c77b8 := eq_false (Nat.not_lt.2 c77b7)
                       replace c77b7 := eq_true c77b7
                       by_cases c78 : ((t179 ++ (⟨#[32, 40]⟩ : ByteArray)) ++ x6_14).size + 3 ≤ 9223372036854775807
                       ·rw [if_pos c78] at H
                        have c78b0 := eq_true c78
                        have c78b1 : decide (((t179 ++ (⟨#[32, 40]⟩ : ByteArray)) ++ x6_14).size + 3 ≤ 9223372036854775807) = true := decide_eq_true c78
                        try have c78b2 : (9223372036854775807 < ((t179 ++ (⟨#[32, 40]⟩ : ByteArray)) ++ x6_14).size + 3) = False := eq_false (Nat.not_lt.2 c78)
                        try (have c78b3 := c78; simp at c78b3; have c78b4 := eq_true c78b3; have c78b5 := decide_eq_true c78b3; have c78b6 := eq_false (Nat.not_lt.2 c78b3))
                        have c78b7 : t179.size + 2 + x6_14.size + 3 ≤ 9223372036854775807 := by have h_ := c78; simp only [ByteArray.size_append] at h_; exact h_
                        have c78b8 := eq_false (Nat.not_lt.2 c78b7)
                        replace c78b7 := eq_true c78b7
                        obtain rfl := Option.some.inj H
                        have p186 : 0 ≤ (0 : Int) := (by omega)
                        have q186 : 0 < (l0.length : Int) := of_decide_eq_true (by first | (with_reducible assumption) | assumption)
                        obtain ⟨ad186, e186, hx186_0⟩ := Kd.at_int HR0.out 0 p186 q186
                        obtain rfl : ad178 = ad186 := (by injection e186)
                        have qi186 : (0 < l0.length) = True := eq_true (by omega)
                        (try rw [show ((0 : Int)).toNat = 0 from rfl] at hx186_0)
                        (try rw [Addr.add_zero'] at hx186_0)
                        replace hx186_0 := (HB.out.cell (World.block_lt_of_cell? w _ hx186_0)).trans hx186_0
                        replace p186 := eq_true p186
                        replace q186 := eq_true q186
                        go_wp2_with (first | (go_at_call 29; (with_reducible refine (spec_ModeOf.calls kj20 (rd l0 0) t187 _ A29.out).mono ?_); rintro e w79 ⟨rfl, hb⟩; have n0_ := Aside0.mk (below_step (by repeat (first | (with_reducible first | exact HB.out | apply below_alloc | apply pw_below_drewN | apply below_drew1) | exact HB.out)) hb); clear HB; have HB := n0_; clear n0_; (try clear hb); (try clear hb2); (try clear hk); (try clear hi)))
                        repeat (go_quiet (first | (go_at_call 29; (with_reducible refine (spec_ModeOf.calls kj20 (rd l0 0) t187 _ A29.out).mono ?_); rintro e w79 ⟨rfl, hb⟩; have n0_ := Aside0.mk (below_step (by repeat (first | (with_reducible first | exact HB.out | apply below_alloc | apply pw_below_drewN | apply below_drew1) | exact HB.out)) hb); clear HB; have HB := n0_; clear n0_; (try clear hb); (try clear hb2); (try clear hk); (try clear hi))); try go_wp2_with (first | (go_at_call 29; (with_reducible refine (spec_ModeOf.calls kj20 (rd l0 0) t187 _ A29.out).mono ?_); rintro e w79 ⟨rfl, hb⟩; have n0_ := Aside0.mk (below_step (by repeat (first | (with_reducible first | exact HB.out | apply below_alloc | apply pw_below_drewN | apply below_drew1) | exact HB.out)) hb); clear HB; have HB := n0_; clear n0_; (try clear hb); (try clear hb2); (try clear hk); (try clear hi))))
                        go_ret
                        exact ⟨by first | rfl | (simp [errW_none, errW_some] <;> rfl) | (simp [*, errW_none, errW_some] <;> rfl), by repeat (first | (with_reducible first | exact HB.out | apply below_alloc | apply pw_below_drewN | apply below_drew1) | exact HB.out)⟩
                       ·rw [if_neg c78] at H
                        exact absurd H (by simp)
                      ·rw [if_neg c77] at H
                       exact absurd H (by simp)
                     ·rw [if_neg c76] at H
                      exact absurd H (by simp)
                    ·rw [if_neg c75] at H
                     have c75b0 : (t187 == 11) = false := beq_eq_false_iff_ne.mpr c75
                     have c75b1 : (t187 != 11) = true := bne_iff_ne.mpr c75
                     by_cases c80 : t187 = 12
                     ·rw [if_pos c80] at H
                      have c80b0 : (t187 == 12) = true := beq_iff_eq.mpr c80
                      have c80b1 : (t187 != 12) = false := bne_eq_false_iff_eq.mpr c80
                      clear c80
                      by_cases c81 : t179.size + 2 ≤ 9223372036854775807
                      ·rw [if_pos c81] at H
                       have c81b0 := eq_true c81
                       have c81b1 : decide (t179.size + 2 ≤ 9223372036854775807) = true := decide_eq_true c81
                       try have c81b2 : (9223372036854775807 < t179.size + 2) = False := eq_false (Nat.not_lt.2 c81)
                       try (have c81b3 := c81; simp at c81b3; have c81b4 := eq_true c81b3; have c81b5 := decide_eq_true c81b3; have c81b6 := eq_false (Nat.not_lt.2 c81b3))
                       by_cases c82 : 1 < (l0.length : Int)
                       ·rw [if_pos c82] at H
                        have c82b0 : decide (1 < (l0.length : Int)) = true := decide_eq_true c82
                        have c82b1 : decide (1 < l0.length) = true := decide_eq_true (by omega)
                        clear c82
                        replace H := Option.bind_eq_some_iff.mp H
                        obtain ⟨t189, A830, H⟩ := H
                        replace H : ((spec_HexText.f kj20 (Go.bits .and .i64 (wrap64 ((wrap64 ((wrap64 (a1)) + 2)) + t189)) 65535) 4).bind fun t190 => (if (t179 ++ (⟨#[32, 36]⟩ : ByteArray)).size + t190.size ≤ 9223372036854775807 then (some ((t179 ++ (⟨#[32, 36]⟩ : ByteArray)) ++ t190)) else (none))) = some r := H
                        have A83 := Aside0.mk A830
                        clear A830
                        replace H := Option.bind_eq_some_iff.mp H
                        obtain ⟨t190, A840, H⟩ := H
                        replace H : (if (t179 ++ (⟨#[32, 36]⟩ : ByteArray)).size + t190.size ≤ 9223372036854775807 then (some ((t179 ++ (⟨#[32, 36]⟩ : ByteArray)) ++ t190)) else (none)) = some r := H
                        have A84 := Aside0.mk A840
                        clear A840
                        by_cases c85 : (t179 ++ (⟨#[32, 36]⟩ : ByteArray)).size + t190.size ≤ 9223372036854775807
                        ·rw [if_pos c85] at H
                         have c85b0 := eq_true c85
                         have c85b1 : decide ((t179 ++ (⟨#[32, 36]⟩ : ByteArray)).size + t190.size ≤ 9223372036854775807) = true := decide_eq_true c85
                         try have c85b2 : (9223372036854775807 < (t179 ++ (⟨#[32, 36]⟩ : ByteArray)).size + t190.size) = False := eq_false (Nat.not_lt.2 c85)
                         try (have c85b3 := c85; simp at c85b3; have c85b4 := eq_true c85b3; have c85b5 := decide_eq_true c85b3; have c85b6 := eq_false (Nat.not_lt.2 c85b3))
                         have c85b7 : t179.size + 2 + t190.size ≤ 9223372036854775807 := by have h_ := c85; simp only [ByteArray.size_append] at h_; exact h_
                         have c85b8 := eq_false (Nat.not_lt.2 c85b7)
                         replace c85b7 := eq_true c85b7
                         obtain rfl := Option.some.inj H
                         have p186 : 0 ≤ (0 : Int) := (by omega)
                         have q186 : 0 < (l0.length : Int) := of_decide_eq_true (by first | (with_reducible assumption) | assumption)
                         obtain ⟨ad186, e186, hx186_0⟩ := Kd.at_int HR0.out 0 p186 q186
                         obtain rfl : ad178 = ad186 := (by injection e186)
                         have qi186 : (0 < l0.length) = True := eq_true (by omega)
                         (try rw [show ((0 : Int)).toNat = 0 from rfl] at hx186_0)
                         (try rw [Addr.add_zero'] at hx186_0)
                         replace hx186_0 := (HB.out.cell (World.block_lt_of_cell? w _ hx186_0)).trans hx186_0
                         replace p186 := eq_true p186
                         replace q186 := eq_true q186
                         go_wp2_with (first | (go_at_call 29; (with_reducible refine (spec_ModeOf.calls kj20 (rd l0 0) t187 _ A29.out).mono ?_); rintro e w86 ⟨rfl, hb⟩; have n0_ := Aside0.mk (below_step (by repeat (first | (with_reducible first | exact HB.out | apply below_alloc | apply pw_below_drewN | apply below_drew1) | exact HB.out)) hb); clear HB; have HB := n0_; clear n0_; (try clear hb); (try clear hb2); (try clear hk); (try clear hi); have p188 : 0 ≤ (1 : Int) := (by omega); have q188 : 1 < (l0.length : Int) := of_decide_eq_true (by first | (with_reducible assumption) | assumption); obtain ⟨ad188, e188, hx188_0⟩ := Kd.at_int HR0.out 1 p188 q188; obtain rfl : ad178 = ad188 := (by injection e188); (try simp only [show (1 : Int).toNat = 1 from rfl, Nat.reduceMul, Nat.reduceEqDiff, Go.Addr.add, ↓reduceIte] at hx188_0); have qi188 : (1 < l0.length) = True := eq_true (by omega); (try rw [show ((1 : Int)).toNat = 1 from rfl] at hx188_0); replace hx188_0 := (HB.out.cell (World.block_lt_of_cell? w _ hx188_0)).trans hx188_0; replace p188 := eq_true p188; replace q188 := eq_true q188) | (go_at_call 48; (with_reducible refine (spec_l04Offset.calls (rd l0 1) t189 _ A83.out).mono ?_); rintro e w' ⟨rfl, ⟨nd, rfl⟩⟩; (try first | exact ⟨rfl, _, World.drewN_drewN _ _ _⟩ | exact ⟨rfl, _, Eq.trans (World.drewN_drewN _ _ _) (congrArg (World.drewN _) (Nat.add_assoc _ _ _))⟩)) | (go_at_call 46; (with_reducible refine (spec_HexText.calls kj20 (Go.bits .and .i64 (wrap64 ((wrap64 ((wrap64 (a1)) + 2)) + t189)) 65535) 4 t190 _ A84.out).mono ?_); rintro e w' ⟨rfl, ⟨nd, rfl⟩⟩; (try first | exact ⟨rfl, _, World.drewN_drewN _ _ _⟩ | exact ⟨rfl, _, Eq.trans (World.drewN_drewN _ _ _) (congrArg (World.drewN _) (Nat.add_assoc _ _ _))⟩)))
                         repeat (go_quiet (first | (go_at_call 29; (with_reducible refine (spec_ModeOf.calls kj20 (rd l0 0) t187 _ A29.out).mono ?_); rintro e w86 ⟨rfl, hb⟩; have n0_ := Aside0.mk (below_step (by repeat (first | (with_reducible first | exact HB.out | apply below_alloc | apply pw_below_drewN | apply below_drew1) | exact HB.out)) hb); clear HB; have HB := n0_; clear n0_; (try clear hb); (try clear hb2); (try clear hk); (try clear hi); have p188 : 0 ≤ (1 : Int) := (by omega); have q188 : 1 < (l0.length : Int) := of_decide_eq_true (by first | (with_reducible assumption) | assumption); obtain ⟨ad188, e188, hx188_0⟩ := Kd.at_int HR0.out 1 p188 q188; obtain rfl : ad178 = ad188 := (by injection e188); (try simp only [show (1 : Int).toNat = 1 from rfl, Nat.reduceMul, Nat.reduceEqDiff, Go.Addr.add, ↓reduceIte] at hx188_0); have qi188 : (1 < l0.length) = True := eq_true (by omega); (try rw [show ((1 : Int)).toNat = 1 from rfl] at hx188_0); replace hx188_0 := (HB.out.cell (World.block_lt_of_cell? w _ hx188_0)).trans hx188_0; replace p188 := eq_true p188; replace q188 := eq_true q188) | (go_at_call 48; (with_reducible refine (spec_l04Offset.calls (rd l0 1) t189 _ A83.out).mono ?_); rintro e w' ⟨rfl, ⟨nd, rfl⟩⟩; (try first | exact ⟨rfl, _, World.drewN_drewN _ _ _⟩ | exact ⟨rfl, _, Eq.trans (World.drewN_drewN _ _ _) (congrArg (World.drewN _) (Nat.add_assoc _ _ _))⟩)) | (go_at_call 46; (with_reducible refine (spec_HexText.calls kj20 (Go.bits .and .i64 (wrap64 ((wrap64 ((wrap64 (a1)) + 2)) + t189)) 65535) 4 t190 _ A84.out).mono ?_); rintro e w' ⟨rfl, ⟨nd, rfl⟩⟩; (try first | exact ⟨rfl, _, World.drewN_drewN _ _ _⟩ | exact ⟨rfl, _, Eq.trans (World.drewN_drewN _ _ _) (congrArg (World.drewN _) (Nat.add_assoc _ _ _))⟩))); try go_wp2_with (first | (go_at_call 29; (with_reducible refine (spec_ModeOf.calls kj20 (rd l0 0) t187 _ A29.out).mono ?_); rintro e w86 ⟨rfl, hb⟩; have n0_ := Aside0.mk (below_step (by repeat (first | (with_reducible first | exact HB.out | apply below_alloc | apply pw_below_drewN | apply below_drew1) | exact HB.out)) hb); clear HB; have HB := n0_; clear n0_; (try clear hb); (try clear hb2); (try clear hk); (try clear hi); have p188 : 0 ≤ (1 : Int) := (by omega); have q188 : 1 < (l0.length : Int) := of_decide_eq_true (by first | (with_reducible assumption) | assumption); obtain ⟨ad188, e188, hx188_0⟩ := Kd.at_int HR0.out 1 p188 q188; obtain rfl : ad178 = ad188 := (by injection e188); (try simp only [show (1 : Int).toNat = 1 from rfl, Nat.reduceMul, Nat.reduceEqDiff, Go.Addr.add, ↓reduceIte] at hx188_0); have qi188 : (1 < l0.length) = True := eq_true (by omega); (try rw [show ((1 : Int)).toNat = 1 from rfl] at hx188_0); replace hx188_0 := (HB.out.cell (World.block_lt_of_cell? w _ hx188_0)).trans hx188_0; replace p188 := eq_true p188; replace q188 := eq_true q188) | (go_at_call 48; (with_reducible refine (spec_l04Offset.calls (rd l0 1) t189 _ A83.out).mono ?_); rintro e w' ⟨rfl, ⟨nd, rfl⟩⟩; (try first | exact ⟨rfl, _, World.drewN_drewN _ _ _⟩ | exact ⟨rfl, _, Eq.trans (World.drewN_drewN _ _ _) (congrArg (World.drewN _) (Nat.add_assoc _ _ _))⟩)) | (go_at_call 46; (with_reducible refine (spec_HexText.calls kj20 (Go.bits .and .i64 (wrap64 ((wrap64 ((wrap64 (a1)) + 2)) + t189)) 65535) 4 t190 _ A84.out).mono ?_); rintro e w' ⟨rfl, ⟨nd, rfl⟩⟩; (try first | exact ⟨rfl, _, World.drewN_drewN _ _ _⟩ | exact ⟨rfl, _, Eq.trans (World.drewN_drewN _ _ _) (congrArg (World.drewN _) (Nat.add_assoc _ _ _))⟩))))
                         go_ret
                         exact ⟨by first | rfl | (simp [errW_none, errW_some] <;> rfl) | (simp [*, errW_none, errW_some] <;> rfl), by repeat (first | (with_reducible first | exact HB.out | apply below_alloc | apply pw_below_drewN | apply below_drew1) | exact HB.out)⟩
                        ·rw [if_neg c85] at H
                         exact absurd H (by simp)
                       ·rw [if_neg c82] at H
                        exact absurd H (by simp)
                      ·rw [if_neg c81] at H
                       exact absurd H (by simp)
                     ·rw [if_neg c80] at H
                      have c80b0 : (t187 == 12) = false := beq_eq_false_iff_ne.mpr c80
                      have c80b1 : (t187 != 12) = true := bne_iff_ne.mpr c80
                      obtain rfl := Option.some.inj H
                      have p186 : 0 ≤ (0 : Int) := (by omega)
                      have q186 : 0 < (l0.length : Int) := of_decide_eq_true (by first | (with_reducible assumption) | assumption)
                      obtain ⟨ad186, e186, hx186_0⟩ := Kd.at_int HR0.out 0 p186 q186
                      obtain rfl : ad178 = ad186 := (by injection e186)
                      have qi186 : (0 < l0.length) = True := eq_true (by omega)
                      (try rw [show ((0 : Int)).toNat = 0 from rfl] at hx186_0)
                      (try rw [Addr.add_zero'] at hx186_0)
                      replace hx186_0 := (HB.out.cell (World.block_lt_of_cell? w _ hx186_0)).trans hx186_0
                      replace p186 := eq_true p186
                      replace q186 := eq_true q186
                      go_wp2_with (first | (go_at_call 29; (with_reducible refine (spec_ModeOf.calls kj20 (rd l0 0) t187 _ A29.out).mono ?_); rintro e w87 ⟨rfl, hb⟩; have n0_ := Aside0.mk (below_step (by repeat (first | (with_reducible first | exact HB.out | apply below_alloc | apply pw_below_drewN | apply below_drew1) | exact HB.out)) hb); clear HB; have HB := n0_; clear n0_; (try clear hb); (try clear hb2); (try clear hk); (try clear hi)))
                      repeat (go_quiet (first | (go_at_call 29; (with_reducible refine (spec_ModeOf.calls kj20 (rd l0 0) t187 _ A29.out).mono ?_); rintro e w87 ⟨rfl, hb⟩; have n0_ := Aside0.mk (below_step (by repeat (first | (with_reducible first | exact HB.out | apply below_alloc | apply pw_below_drewN | apply below_drew1) | exact HB.out)) hb); clear HB; have HB := n0_; clear n0_; (try clear hb); (try clear hb2); (try clear hk); (try clear hi))); try go_wp2_with (first | (go_at_call 29; (with_reducible refine (spec_ModeOf.calls kj20 (rd l0 0) t187 _ A29.out).mono ?_); rintro e w87 ⟨rfl, hb⟩; have n0_ := Aside0.mk (below_step (by repeat (first | (with_reducible first | exact HB.out | apply below_alloc | apply pw_below_drewN | apply below_drew1) | exact HB.out)) hb); clear HB; have HB := n0_; clear n0_; (try clear hb); (try clear hb2); (try clear hk); (try clear hi))))
                      go_ret
                      exact ⟨by first | rfl | (simp [errW_none, errW_some] <;> rfl) | (simp [*, errW_none, errW_some] <;> rfl), by repeat (first | (with_reducible first | exact HB.out | apply below_alloc | apply pw_below_drewN | apply below_drew1) | exact HB.out)⟩
         ·rw [if_neg c28] at H
          exact absurd H (by simp)
    ·rw [if_neg c13] at H
     exact absurd H (by simp)

end Go.Proofs.YtlglpolokcnlhaaDoor.MB
