-- Written by this session's own program (wip/myprint.py) over the kit's print of the translation. Lean checks it.
import Derived.Test.YtfbhgmpgkhmikaaDoorMLx0
import Derived.Test.YtfbhgmpgkhmikaaDoorMLx3
import Derived.Test.YtfbhgmpgkhmikaaDoorMLx4
namespace Go.Proofs.YtfbhgmpgkhmikaaDoor.ML
open Go.RowKit Go.Proofs.YtfbhgmpgkhmikaaDoorW.PrintWords Go.Proofs.YtfbhgmpgkhmikaaDoorW.PrintLast Go.Proofs.YtfbhgmpgkhmikaaDoorW.PrintMore
attribute [local go_sem] max2_int min2_int max_two min_two max_three min_three max_four min_four   -- for this text's walks alone
set_option linter.unusedVariables false
set_option linter.unusedSimpArgs false

/-! ### spec_Listing: function 37 -/
mutual
def spec_Listing.l0 : Nat → List Int → Int → List ByteArray → Int → Option (List ByteArray)
 | 0, _, _, _, _ => none
 | k + 1, x0, x1, x5, x6 => if x6 < (x0.length : Int) then (if 0 ≤ x6 then (if x6 ≤ (x0.length : Int) then ((spec_ShowOp.f k (x0.drop (x6 : Int).toNat) (IntKind.u16.wrap (x1 + (IntKind.u16.wrap (x6))))).bind fun t199 => ((spec_SizeOf.f k (rd x0 x6)).bind fun t201 => (if t199.toList = ([] : List UInt8) then ((spec_HexText.f k (wrap64 (rd x0 x6)) 2).bind fun t203 => (if 7 + t203.size ≤ 9223372036854775807 then (spec_Listing.j1 k x0 x1 x5 x6 (IntKind.u16.wrap (x1 + (IntKind.u16.wrap (x6)))) ((⟨#[46, 98, 121, 116, 101, 32, 36]⟩ : ByteArray) ++ t203) 1) else (none))) else (spec_Listing.j1 k x0 x1 x5 x6 (IntKind.u16.wrap (x1 + (IntKind.u16.wrap (x6)))) t199 t201)))) else (none)) else (none)) else (some x5)
def spec_Listing.j1 : Nat → List Int → Int → List ByteArray → Int → Int → ByteArray → Int → Option (List ByteArray)
 | 0, _, _, _, _, _, _, _ => none
 | k + 1, x0, x1, x5, x6, x7, x8, x9 => (spec_HexText.f k (wrap64 (x7)) 4).bind fun t204 => (if t204.size + 1 ≤ 9223372036854775807 then (spec_Listing.l1 k x0 x1 x5 x6 x8 x9 (t204 ++ (⟨#[58]⟩ : ByteArray)) 0) else (none))
def spec_Listing.l1 : Nat → List Int → Int → List ByteArray → Int → ByteArray → Int → ByteArray → Int → Option (List ByteArray)
 | 0, _, _, _, _, _, _, _, _ => none
 | k + 1, x0, x1, x5, x6, x8, x9, x10, x11 => if x11 < x9 then (if x10.size + 1 ≤ 9223372036854775807 then (if 0 ≤ (wrap64 (x6 + x11)) then (if (wrap64 (x6 + x11)) < (x0.length : Int) then ((spec_HexText.f k (wrap64 (rd x0 (wrap64 (x6 + x11)))) 2).bind fun t206 => (if (x10 ++ (⟨#[32]⟩ : ByteArray)).size + t206.size ≤ 9223372036854775807 then (spec_Listing.l1 k x0 x1 x5 x6 x8 x9 ((x10 ++ (⟨#[32]⟩ : ByteArray)) ++ t206) (wrap64 (x11 + 1))) else (none))) else (none)) else (none)) else (none)) else (spec_Listing.l2 k x0 x1 x5 x6 x8 x9 x10)
def spec_Listing.l2 : Nat → List Int → Int → List ByteArray → Int → ByteArray → Int → ByteArray → Option (List ByteArray)
 | 0, _, _, _, _, _, _, _ => none
 | k + 1, x0, x1, x5, x6, x8, x9, x10 => if (x10.size : Int) < 15 then (if x10.size + 1 ≤ 9223372036854775807 then (spec_Listing.l2 k x0 x1 x5 x6 x8 x9 (x10 ++ (⟨#[32]⟩ : ByteArray))) else (none)) else (if x10.size + x8.size ≤ 9223372036854775807 then (if x5.length < 8796093022208 then (spec_Listing.l0 k x0 x1 (x5 ++ [x10 ++ x8]) (wrap64 (x6 + x9))) else (none)) else (none))
end
def spec_Listing.f (k : Nat) (l0 : List Int) (a1 : Int) : Option (List ByteArray) := (some (([] : List ByteArray) : List ByteArray)).bind fun y195 => (if (l0.length : Int) > 1024 then (some y195) else (spec_Listing.l0 k l0 a1 y195 0))
theorem spec_Listing.mono_l : ∀ k, (∀ y0 y1 y2 y3, LeO (spec_Listing.l0 k y0 y1 y2 y3) (spec_Listing.l0 (k + 1) y0 y1 y2 y3)) ∧ (∀ y0 y1 y2 y3 y4 y5 y6, LeO (spec_Listing.j1 k y0 y1 y2 y3 y4 y5 y6) (spec_Listing.j1 (k + 1) y0 y1 y2 y3 y4 y5 y6)) ∧ (∀ y0 y1 y2 y3 y4 y5 y6 y7, LeO (spec_Listing.l1 k y0 y1 y2 y3 y4 y5 y6 y7) (spec_Listing.l1 (k + 1) y0 y1 y2 y3 y4 y5 y6 y7)) ∧ (∀ y0 y1 y2 y3 y4 y5 y6, LeO (spec_Listing.l2 k y0 y1 y2 y3 y4 y5 y6) (spec_Listing.l2 (k + 1) y0 y1 y2 y3 y4 y5 y6))
 | 0 => ⟨fun _ _ _ _ r h => by simp [spec_Listing.l0] at h, fun _ _ _ _ _ _ _ r h => by simp [spec_Listing.j1] at h, fun _ _ _ _ _ _ _ _ r h => by simp [spec_Listing.l1] at h, fun _ _ _ _ _ _ _ r h => by simp [spec_Listing.l2] at h⟩
 | k + 1 => by
  obtain ⟨ih0, ih1, ih2, ih3⟩ := spec_Listing.mono_l k
  refine ⟨?_, ?_, ?_, ?_⟩
  ·intro y0 y1 y2 y3
   unfold spec_Listing.l0
   repeat' first
   | (with_reducible exact ih0 _ _ _ _)
   | (with_reducible exact ih1 _ _ _ _ _ _ _)
   | (with_reducible exact ih2 _ _ _ _ _ _ _ _)
   | (with_reducible exact ih3 _ _ _ _ _ _ _)
   | (with_reducible exact spec_HexText.mono _ _ _)
   | (with_reducible exact spec_ShowOp.mono _ _ _)
   | (with_reducible exact spec_SizeOf.mono _ _)
   | (with_reducible exact LeO.refl _)
   | (with_reducible exact LeO.none _)
   | (with_reducible refine LeO.ite ?_ ?_)
   | (with_reducible refine LeO.bind ?_ (fun _ => ?_))
   | exact ih0 _ _ _ _
   | exact ih1 _ _ _ _ _ _ _
   | exact ih2 _ _ _ _ _ _ _ _
   | exact ih3 _ _ _ _ _ _ _
   | exact spec_HexText.mono _ _ _
   | exact spec_ShowOp.mono _ _ _
   | exact spec_SizeOf.mono _ _
   | exact LeO.none _
   | refine LeO.ite ?_ ?_
   | refine LeO.bind ?_ (fun _ => ?_)
  ·intro y0 y1 y2 y3 y4 y5 y6
   unfold spec_Listing.j1
   repeat' first
   | (with_reducible exact ih0 _ _ _ _)
   | (with_reducible exact ih1 _ _ _ _ _ _ _)
   | (with_reducible exact ih2 _ _ _ _ _ _ _ _)
   | (with_reducible exact ih3 _ _ _ _ _ _ _)
   | (with_reducible exact spec_HexText.mono _ _ _)
   | (with_reducible exact spec_ShowOp.mono _ _ _)
   | (with_reducible exact spec_SizeOf.mono _ _)
   | (with_reducible exact LeO.refl _)
   | (with_reducible exact LeO.none _)
   | (with_reducible refine LeO.ite ?_ ?_)
   | (with_reducible refine LeO.bind ?_ (fun _ => ?_))
   | exact ih0 _ _ _ _
   | exact ih1 _ _ _ _ _ _ _
   | exact ih2 _ _ _ _ _ _ _ _
   | exact ih3 _ _ _ _ _ _ _
   | exact spec_HexText.mono _ _ _
   | exact spec_ShowOp.mono _ _ _
   | exact spec_SizeOf.mono _ _
   | exact LeO.none _
   | refine LeO.ite ?_ ?_
   | refine LeO.bind ?_ (fun _ => ?_)
  ·intro y0 y1 y2 y3 y4 y5 y6 y7
   unfold spec_Listing.l1
   repeat' first
   | (with_reducible exact ih0 _ _ _ _)
   | (with_reducible exact ih1 _ _ _ _ _ _ _)
   | (with_reducible exact ih2 _ _ _ _ _ _ _ _)
   | (with_reducible exact ih3 _ _ _ _ _ _ _)
   | (with_reducible exact spec_HexText.mono _ _ _)
   | (with_reducible exact spec_ShowOp.mono _ _ _)
   | (with_reducible exact spec_SizeOf.mono _ _)
   | (with_reducible exact LeO.refl _)
   | (with_reducible exact LeO.none _)
   | (with_reducible refine LeO.ite ?_ ?_)
   | (with_reducible refine LeO.bind ?_ (fun _ => ?_))
   | exact ih0 _ _ _ _
   | exact ih1 _ _ _ _ _ _ _
   | exact ih2 _ _ _ _ _ _ _ _
   | exact ih3 _ _ _ _ _ _ _
   | exact spec_HexText.mono _ _ _
   | exact spec_ShowOp.mono _ _ _
   | exact spec_SizeOf.mono _ _
   | exact LeO.none _
   | refine LeO.ite ?_ ?_
   | refine LeO.bind ?_ (fun _ => ?_)
  ·intro y0 y1 y2 y3 y4 y5 y6
   unfold spec_Listing.l2
   repeat' first
   | (with_reducible exact ih0 _ _ _ _)
   | (with_reducible exact ih1 _ _ _ _ _ _ _)
   | (with_reducible exact ih2 _ _ _ _ _ _ _ _)
   | (with_reducible exact ih3 _ _ _ _ _ _ _)
   | (with_reducible exact spec_HexText.mono _ _ _)
   | (with_reducible exact spec_ShowOp.mono _ _ _)
   | (with_reducible exact spec_SizeOf.mono _ _)
   | (with_reducible exact LeO.refl _)
   | (with_reducible exact LeO.none _)
   | (with_reducible refine LeO.ite ?_ ?_)
   | (with_reducible refine LeO.bind ?_ (fun _ => ?_))
   | exact ih0 _ _ _ _
   | exact ih1 _ _ _ _ _ _ _
   | exact ih2 _ _ _ _ _ _ _ _
   | exact ih3 _ _ _ _ _ _ _
   | exact spec_HexText.mono _ _ _
   | exact spec_ShowOp.mono _ _ _
   | exact spec_SizeOf.mono _ _
   | exact LeO.none _
   | refine LeO.ite ?_ ?_
   | refine LeO.bind ?_ (fun _ => ?_)
theorem spec_Listing.mono : ∀ a0 a1 k, LeO (spec_Listing.f k a0 a1) (spec_Listing.f (k + 1) a0 a1) := by
 intro a0 a1 k
 obtain ⟨ih0, ih1, ih2, ih3⟩ := spec_Listing.mono_l k
 unfold spec_Listing.f
 repeat' first
   | (with_reducible exact ih0 _ _ _ _)
   | (with_reducible exact ih1 _ _ _ _ _ _ _)
   | (with_reducible exact ih2 _ _ _ _ _ _ _ _)
   | (with_reducible exact ih3 _ _ _ _ _ _ _)
   | (with_reducible exact spec_HexText.mono _ _ _)
   | (with_reducible exact spec_ShowOp.mono _ _ _)
   | (with_reducible exact spec_SizeOf.mono _ _)
   | (with_reducible exact LeO.refl _)
   | (with_reducible exact LeO.none _)
   | (with_reducible refine LeO.ite ?_ ?_)
   | (with_reducible refine LeO.bind ?_ (fun _ => ?_))
   | exact ih0 _ _ _ _
   | exact ih1 _ _ _ _ _ _ _
   | exact ih2 _ _ _ _ _ _ _ _
   | exact ih3 _ _ _ _ _ _ _
   | exact spec_HexText.mono _ _ _
   | exact spec_ShowOp.mono _ _ _
   | exact spec_SizeOf.mono _ _
   | exact LeO.none _
   | refine LeO.ite ?_ ?_
   | refine LeO.bind ?_ (fun _ => ?_)
set_option maxHeartbeats 8000000 in
set_option maxRecDepth 100000 in
theorem spec_Listing.calls (k : Nat) (A0 : Option Addr) (c0 : Nat) (l0 : List Int) (a1 : Int) (r : List ByteArray) (w : World) (hr0 : Kd.C (Kd.int .u8) w A0 l0.length l0) (hc0 : l0.length ≤ c0) (h : spec_Listing.f k l0 a1 = some r) :
  Calls Tryd.prog 37 #[.slice A0 l0.length c0, .int .u16 a1] w fun e w' => ∃ v0_ : Value, e = .returned (v0_) ∧ Kd.R Kd.string 9 w' w.heap.size (fun _ => True) v0_ r ∧ Below w.heap.size w w' := by
 have HR0 := Aside0.mk hr0
 have HC0 := Aside0.mk hc0
 clear hr0 hc0
 have HB := Aside0.mk (Below.refl w.heap.size w)
 have H : ((some (([] : List ByteArray) : List ByteArray)).bind fun y195 => (if (l0.length : Int) > 1024 then (some y195) else (spec_Listing.l0 k l0 a1 y195 0))) = some r := h
 clear h
 obtain ⟨y195, hy195⟩ : ∃ y_ : List ByteArray, y_ = (([] : List ByteArray)) := ⟨_, rfl⟩
 replace H : (if (l0.length : Int) > 1024 then (some y195) else (spec_Listing.l0 k l0 a1 y195 0)) = some r := by first | (rw [hy195]; with_reducible exact H) | (have H2_ := (Option.bind_some _ _).symm.trans H; rw [hy195]; with_reducible exact H2_) | (have H2_ := (Option.bind_some _ _).symm.trans H; with_reducible exact H2_) | with_reducible exact H | (rw [hy195]; exact H) | exact H
 have Ny195 := Aside0.mk hy195
 clear hy195
 by_cases c3 : (l0.length : Int) > 1024
 ·rw [if_pos c3] at H
  have c3b0 : decide (1024 < (l0.length : Int)) = true := decide_eq_true c3
  have c3b1 : decide (1024 < l0.length) = true := decide_eq_true (by omega)
  clear c3
  obtain rfl := Option.some.inj H
  go_enter Tryd.func37, Tryd.ntmps37
  go_wp2_with (first | ((with_reducible refine gate_dst (N := 12) rfl ?_); refine Kd.R_lit Kd.string _ 9 ?hg (N := 12) ?hd (xs := ([] : List ByteArray)) (inner := []) (ok := fun _ => True) (okp := fun _ => True) ?hr ?hp (fun _ hk => hk) trivial (Below.refl _ _) (Nat.le_refl _) (by simp) ?_; (case hd => rfl); (case hg => rfl); (case hr => first | (go_simp; done) | (go_simp; rfl)); (case hp => exact (Reps.none _ _)); intro v196 w4 ho5 hb hg_ hnew_; clear hg_ hnew_; (first | rw [← Ny195.out] at ho5 | (simp only [Int.reduceToNat] at ho5; rw [← Ny195.out] at ho5)); have n0_ := Aside0.mk (Kd.R_lower ho5 (below_size (by repeat (first | (with_reducible first | exact HB.out | apply below_alloc | apply pw_below_drewN | apply below_drew1) | exact HB.out)))); have n1_ := Aside0.mk (below_step (by repeat (first | (with_reducible first | exact HB.out | apply below_alloc | apply pw_below_drewN | apply below_drew1) | exact HB.out)) hb); clear HB; have HO197 := n0_; have HB := n1_; clear n0_ n1_; clear hb ho5))
  go_ret
  exact ⟨_, by first | rfl | (simp [errW_none, errW_some] <;> rfl) | (simp [*, errW_none, errW_some] <;> rfl), by (with_reducible repeat (first | apply Kd.R_alloc | apply Kd.R_drewN | apply Kd.R_drew)); exact HO197.out, by repeat (first | (with_reducible first | exact HB.out | apply below_alloc | apply pw_below_drewN | apply below_drew1) | exact HB.out)⟩
 ·rw [if_neg c3] at H
  have c3b0 : decide (1024 < (l0.length : Int)) = false := decide_eq_false c3
  have c3b1 : decide (1024 < l0.length) = false := decide_eq_false (by omega)
  clear c3
  have H' := Aside0.mk H
  clear H
  go_enter Tryd.func37, Tryd.ntmps37
  go_wp2_with (first | ((with_reducible refine gate_dst (N := 12) rfl ?_); refine Kd.R_lit Kd.string _ 9 ?hg (N := 12) ?hd (xs := ([] : List ByteArray)) (inner := []) (ok := fun _ => True) (okp := fun _ => True) ?hr ?hp (fun _ hk => hk) trivial (Below.refl _ _) (Nat.le_refl _) (by simp) ?_; (case hd => rfl); (case hg => rfl); (case hr => first | (go_simp; done) | (go_simp; rfl)); (case hp => exact (Reps.none _ _)); intro v196 w6 ho7 hb hg_ hnew_; clear hg_ hnew_; (first | rw [← Ny195.out] at ho7 | (simp only [Int.reduceToNat] at ho7; rw [← Ny195.out] at ho7)); have n0_ := Aside0.mk (Kd.R_lower ho7 (below_size (by repeat (first | (with_reducible first | exact HB.out | apply below_alloc | apply pw_below_drewN | apply below_drew1) | exact HB.out)))); have n1_ := Aside0.mk (below_step (by repeat (first | (with_reducible first | exact HB.out | apply below_alloc | apply pw_below_drewN | apply below_drew1) | exact HB.out)) hb); clear HB; have HO197 := n0_; have HB := n1_; clear n0_ n1_; clear hb ho7))
  go_loopg [5, 6] k (fun kq v5 v6 w' => ∃ (x5_1 : List ByteArray) (x6_1 : Int), v6 = .int .i64 x6_1 ∧ Aside0 (spec_Listing.l0 kq l0 a1 x5_1 x6_1 = some r) ∧ Aside0 (kq ≤ k) ∧ Aside0 (Kd.R Kd.string 9 w' w.heap.size (fun _ => True) v5 x5_1) ∧ Aside0 (Below w.heap.size w w'))
  case atStart => exact ⟨(y195), (0), (by first | rfl | (simp; done) | (simp [*]; done)), H', ⟨Nat.le_refl _⟩, ⟨by (with_reducible repeat (first | apply Kd.R_alloc | apply Kd.R_drewN | apply Kd.R_drew)); exact HO197.out⟩, ⟨by repeat (first | (with_reducible first | exact HB.out | apply below_alloc | apply pw_below_drewN | apply below_drew1) | exact HB.out)⟩⟩
  case round =>
   clear H'
   try clear p2
   try clear c3
   try clear c3b0
   try clear c3b1
   obtain ⟨x5_1, x6_1, rfl, HA, HK1, HO_5, HB⟩ := hrel
   cases gk with
   | zero => exact absurd HA.out (by simp [spec_Listing.l0])
   | succ k1 =>
    have H := HA.out; clear HA; simp only [spec_Listing.l0] at H
    by_cases c8 : x6_1 < (l0.length : Int)
    ·rw [if_pos c8] at H
     have c8b0 : decide (x6_1 < (l0.length : Int)) = true := decide_eq_true c8; clear c8
     by_cases c9 : 0 ≤ x6_1
     ·rw [if_pos c9] at H
      have c9b0 := eq_true c9; have c9b1 : decide (0 ≤ x6_1) = true := decide_eq_true c9; clear c9
      by_cases c10 : x6_1 ≤ (l0.length : Int)
      ·rw [if_pos c10] at H
       have c10b0 := eq_true c10; have c10b1 : decide (x6_1 ≤ (l0.length : Int)) = true := decide_eq_true c10; clear c10; replace H := Option.bind_eq_some_iff.mp H; obtain ⟨t199, A110, H⟩ := H; replace H : ((spec_SizeOf.f k1 (rd l0 x6_1)).bind fun t201 => (if t199.toList = ([] : List UInt8) then ((spec_HexText.f k1 (wrap64 (rd l0 x6_1)) 2).bind fun t203 => (if 7 + t203.size ≤ 9223372036854775807 then (spec_Listing.j1 k1 l0 a1 x5_1 x6_1 (IntKind.u16.wrap (a1 + (IntKind.u16.wrap (x6_1)))) ((⟨#[46, 98, 121, 116, 101, 32, 36]⟩ : ByteArray) ++ t203) 1) else (none))) else (spec_Listing.j1 k1 l0 a1 x5_1 x6_1 (IntKind.u16.wrap (a1 + (IntKind.u16.wrap (x6_1)))) t199 t201))) = some r := H; have A11 := Aside0.mk A110; clear A110; replace H := Option.bind_eq_some_iff.mp H; obtain ⟨t201, A120, H⟩ := H; replace H : (if t199.toList = ([] : List UInt8) then ((spec_HexText.f k1 (wrap64 (rd l0 x6_1)) 2).bind fun t203 => (if 7 + t203.size ≤ 9223372036854775807 then (spec_Listing.j1 k1 l0 a1 x5_1 x6_1 (IntKind.u16.wrap (a1 + (IntKind.u16.wrap (x6_1)))) ((⟨#[46, 98, 121, 116, 101, 32, 36]⟩ : ByteArray) ++ t203) 1) else (none))) else (spec_Listing.j1 k1 l0 a1 x5_1 x6_1 (IntKind.u16.wrap (a1 + (IntKind.u16.wrap (x6_1)))) t199 t201)) = some r := H; have A12 := Aside0.mk A120; clear A120; have HC13 := Aside0.mk H; clear H; obtain ⟨i014, hi014, _, hsz14, _⟩ := info_parts info5; obtain ⟨A14, hcut14, hA14, hC14⟩ := print_drop_of (P := Tryd.prog) (Value.int .u8) 0 27 5 .i64 Tryd.underlying27 hi014 hsz14 A0 c0 l0 x6_1 (of_decide_eq_true (by first | (with_reducible assumption) | assumption)) (of_decide_eq_true (by first | (with_reducible assumption) | assumption)) HC0.out; have HR198 := Aside0.mk (Kd.C_of_reads (h1 := fun _ => rfl) (hA14 _ (Kd.reads_of_C HR0.out))); have HC198 := Aside0.mk hC14; clear hA14 hC14 hi014 hsz14
       go_upto_if 36 with (first | ((with_reducible refine gate_callee (f := 29) rfl ?_); refine goesL_ (some 29) rfl rfl Tryd.func29 (by kernel_rfl) rfl #[.slice A14 (l0.drop (x6_1 : Int).toNat).length (c0 - x6_1.toNat), .int .u16 (IntKind.u16.wrap (a1 + (IntKind.u16.wrap (x6_1))))] rfl (by (try simp only [List.map_toArray, List.map_cons, List.map_nil]); first | done | (rw [show (l0.drop (x6_1 : Int).toNat).length = (l0.length - x6_1.toNat) from List.length_drop] <;> rfl) | rfl | (simp only [List.length_drop, List.length_take]; rfl)) ?_; (with_reducible refine (spec_ShowOp.calls k1 _ _ (l0.drop (x6_1 : Int).toNat) (IntKind.u16.wrap (a1 + (IntKind.u16.wrap (x6_1)))) t199 _ ?side1 ?side2 A11.out).mono ?_); (case side1 => repeat (first | exact (Kd.C_below HR198.out HB.out) | (with_reducible refine Kd.C_alloc ?_ _) | (with_reducible refine Kd.C_drewN ?_ _) | (with_reducible refine Kd.C_drew ?_))); (case side2 => exact HC198.out); rintro e w15 ⟨rfl, hb⟩; refine ⟨_, rfl, ?_⟩; have n0_ := Aside0.mk (Kd.R_below (by (with_reducible repeat (first | apply Kd.R_alloc | apply Kd.R_drewN | apply Kd.R_drew)); exact HO_5.out) hb); have n1_ := Aside0.mk (below_step (by repeat (first | (with_reducible first | exact HB.out | apply below_alloc | apply pw_below_drewN | apply below_drew1) | exact HB.out)) hb); clear HO_5; clear HB; have HO_5 := n0_; have HB := n1_; clear n0_ n1_; (try clear hb); (try clear hb2); (try clear hk); (try clear hi); have p200 : 0 ≤ (x6_1 : Int) := of_decide_eq_true (by first | (with_reducible assumption) | assumption); have q200 : x6_1 < (l0.length : Int) := of_decide_eq_true (by first | (with_reducible assumption) | assumption); obtain ⟨ad200, e200, hx200_0⟩ := Kd.at_int HR0.out x6_1 p200 q200; cases e200; replace hx200_0 := (HB.out.cell (World.block_lt_of_cell? w _ hx200_0)).trans hx200_0; replace p200 := eq_true p200; replace q200 := eq_true q200) | ((with_reducible refine gate_callee (f := 21) rfl ?_); refine goesL_ (some 34) rfl rfl Tryd.func21 (by kernel_rfl) rfl #[.int .u8 (rd l0 x6_1)] rfl (by (try simp only [List.map_toArray, List.map_cons, List.map_nil]); first | done | rfl | (simp only [List.length_drop, List.length_take]; rfl)) ?_; (with_reducible refine (spec_SizeOf.calls k1 (rd l0 x6_1) t201 _ A12.out).mono ?_); rintro e w16 ⟨rfl, hb⟩; refine ⟨_, rfl, ?_⟩; have n0_ := Aside0.mk (Kd.R_below (by (with_reducible repeat (first | apply Kd.R_alloc | apply Kd.R_drewN | apply Kd.R_drew)); exact HO_5.out) hb); have n1_ := Aside0.mk (below_step (by repeat (first | (with_reducible first | exact HB.out | apply below_alloc | apply pw_below_drewN | apply below_drew1) | exact HB.out)) hb); clear HO_5; clear HB; have HO_5 := n0_; have HB := n1_; clear n0_ n1_; (try clear hb); (try clear hb2); (try clear hk); (try clear hi)))
       (try simp only [Act.put, List.setIfInBounds_toArray, List.set_cons_zero, List.set_cons_succ])
       go_cut [8, 9] (fun v8 v9 wc => ∃ (kq : Nat) (x8_12 : ByteArray) (x9_12 : Int), v8 = .string x8_12 ∧ v9 = .int .i64 x9_12 ∧ Aside0 (spec_Listing.j1 kq l0 a1 x5_1 x6_1 (IntKind.u16.wrap (a1 + (IntKind.u16.wrap (x6_1)))) x8_12 x9_12 = some r) ∧ Aside0 (kq ≤ k1) ∧ Aside0 (Kd.R Kd.string 9 wc w.heap.size (fun _ => True) u5 x5_1) ∧ Aside0 (Below w.heap.size w wc))
       case first =>
        have H := HC13.out; clear HC13
        by_cases c17 : t199.toList = ([] : List UInt8)
        ·rw [if_pos c17] at H
         have c17b0 : (t199.toList == ([] : List UInt8)) = true := beq_iff_eq.mpr c17; have c17bE : t199.toList.isEmpty = true := List.isEmpty_iff.mpr c17; have c17b1 : (t199.toList != ([] : List UInt8)) = false := bne_eq_false_iff_eq.mpr c17; clear c17; (first | rw [c17b0] | rw [c17bE] | (simp only [i64_w, i32_w]; rw [c17b0]) | skip); replace H := Option.bind_eq_some_iff.mp H; obtain ⟨t203, A180, H⟩ := H; replace H : (if 7 + t203.size ≤ 9223372036854775807 then (spec_Listing.j1 k1 l0 a1 x5_1 x6_1 (IntKind.u16.wrap (a1 + (IntKind.u16.wrap (x6_1)))) ((⟨#[46, 98, 121, 116, 101, 32, 36]⟩ : ByteArray) ++ t203) 1) else (none)) = some r := H; have A18 := Aside0.mk A180; clear A180
         by_cases c19 : 7 + t203.size ≤ 9223372036854775807
         ·rw [if_pos c19] at H
          have c19b0 := eq_true c19; have c19b1 : decide (7 + t203.size ≤ 9223372036854775807) = true := decide_eq_true c19
          try have c19b2 : (9223372036854775807 < 7 + t203.size) = False := eq_false (Nat.not_lt.2 c19)
          try (have c19b3 := c19; simp at c19b3; have c19b4 := eq_true c19b3; have c19b5 := decide_eq_true c19b3; have c19b6 := eq_false (Nat.not_lt.2 c19b3))
          have H' := Aside0.mk H; clear H; have p202 : 0 ≤ (x6_1 : Int) := of_decide_eq_true (by first | (with_reducible assumption) | assumption); have q202 : x6_1 < (l0.length : Int) := of_decide_eq_true (by first | (with_reducible assumption) | assumption); obtain ⟨ad202, e202, hx202_0⟩ := Kd.at_int HR0.out x6_1 p202 q202; obtain rfl : ad200 = ad202 := (by injection e202); replace hx202_0 := (HB.out.cell (World.block_lt_of_cell? w _ hx202_0)).trans hx202_0; replace p202 := eq_true p202; replace q202 := eq_true q202
          go_wp2_with (first | ((with_reducible refine gate_callee (f := 52) rfl ?_); refine goesL_ (some 42) rfl rfl Tryd.func52 (by kernel_rfl) rfl #[.int .i64 (wrap64 (rd l0 x6_1)), .int .i64 2] rfl (by (try simp only [List.map_toArray, List.map_cons, List.map_nil]); first | done | rfl | (simp only [List.length_drop, List.length_take]; rfl)) ?_; (with_reducible refine (spec_HexText.calls k1 (wrap64 (rd l0 x6_1)) 2 t203 _ A18.out).mono ?_); rintro e w' ⟨rfl, ⟨nd, rfl⟩⟩; refine ⟨_, rfl, ?_⟩))
          go_meet
          case rel => exact ⟨_, ((⟨#[46, 98, 121, 116, 101, 32, 36]⟩ : ByteArray) ++ t203), (1), (by first | rfl | (simp; done) | (simp [*]; done)), (by first | rfl | (simp; done) | (simp [*]; done)), H', ⟨by have := HK1.out; first | omega | exact Nat.le_refl _⟩, ⟨by (with_reducible repeat (first | apply Kd.R_alloc | apply Kd.R_drewN | apply Kd.R_drew)); exact HO_5.out⟩, ⟨by repeat (first | (with_reducible first | exact HB.out | apply below_alloc | apply pw_below_drewN | apply below_drew1) | exact HB.out)⟩⟩
         ·rw [if_neg c19] at H
          exact absurd H (by simp)
        ·rw [if_neg c17] at H
         have c17b0 : (t199.toList == ([] : List UInt8)) = false := beq_eq_false_iff_ne.mpr c17; have c17bE : t199.toList.isEmpty = false := List.isEmpty_eq_false_iff.mpr c17; have c17b1 : (t199.toList != ([] : List UInt8)) = true := bne_iff_ne.mpr c17; (first | rw [c17b0] | rw [c17bE] | (simp only [i64_w, i32_w]; rw [c17b0]) | skip); have H' := Aside0.mk H; clear H
         go_wp2
         go_meet
         case rel => exact ⟨_, (t199), (t201), (by first | rfl | (simp; done) | (simp [*]; done)), (by first | rfl | (simp; done) | (simp [*]; done)), H', ⟨by have := HK1.out; first | omega | exact Nat.le_refl _⟩, ⟨by (with_reducible repeat (first | apply Kd.R_alloc | apply Kd.R_drewN | apply Kd.R_drew)); exact HO_5.out⟩, ⟨by repeat (first | (with_reducible first | exact HB.out | apply below_alloc | apply pw_below_drewN | apply below_drew1) | exact HB.out)⟩⟩
       case rest =>
        clear HC13
        try clear c1
        try clear c2
        try clear p2
        try clear q2
        try clear hx2
        try clear c3
        try clear c3b0
        try clear c3b1
        try clear c5
        try clear p6
        try clear c8
        try clear c8b0
        try clear c9
        try clear c9b0
        try clear c9b1
        try clear c10
        try clear c10b0
        try clear c10b1
        try clear c17
        try clear c17b0
        try clear c17b1
        try clear c19
        try clear c19b0
        try clear c19b1
        try clear c19b2
        try clear hx200_0
        try clear hx202_0
        try clear p2
        try clear p200
        try clear p202
        try clear q200
        try clear q202
        obtain ⟨kq, x8_12, x9_12, rfl, rfl, HA, HJ12, HO_5, HB⟩ := hcut
        cases kq with
        | zero => exact absurd HA.out (by simp [spec_Listing.j1])
        | succ kj12 =>
         have H := HA.out; clear HA; simp only [spec_Listing.j1] at H; replace H := Option.bind_eq_some_iff.mp H; obtain ⟨t204, A200, H⟩ := H; replace H : (if t204.size + 1 ≤ 9223372036854775807 then (spec_Listing.l1 kj12 l0 a1 x5_1 x6_1 x8_12 x9_12 (t204 ++ (⟨#[58]⟩ : ByteArray)) 0) else (none)) = some r := H; have A20 := Aside0.mk A200; clear A200
         by_cases c21 : t204.size + 1 ≤ 9223372036854775807
         ·rw [if_pos c21] at H
          have c21b0 := eq_true c21; have c21b1 : decide (t204.size + 1 ≤ 9223372036854775807) = true := decide_eq_true c21
          try have c21b2 : (9223372036854775807 < t204.size + 1) = False := eq_false (Nat.not_lt.2 c21)
          try (have c21b3 := c21; simp at c21b3; have c21b4 := eq_true c21b3; have c21b5 := decide_eq_true c21b3; have c21b6 := eq_false (Nat.not_lt.2 c21b3))
          have H' := Aside0.mk H; clear H
          go_wp2_with (first | ((with_reducible refine gate_callee (f := 52) rfl ?_); refine goesL_ (some 46) rfl rfl Tryd.func52 (by kernel_rfl) rfl #[.int .i64 (wrap64 ((IntKind.u16.wrap (a1 + (IntKind.u16.wrap (x6_1)))))), .int .i64 4] rfl (by (try simp only [List.map_toArray, List.map_cons, List.map_nil]); first | done | rfl | (simp only [List.length_drop, List.length_take]; rfl)) ?_; (with_reducible refine (spec_HexText.calls kj12 (wrap64 ((IntKind.u16.wrap (a1 + (IntKind.u16.wrap (x6_1)))))) 4 t204 _ A20.out).mono ?_); rintro e w' ⟨rfl, ⟨nd, rfl⟩⟩; refine ⟨_, rfl, ?_⟩))
          go_loopg [10, 11] kj12 (fun kq v10 v11 w' => ∃ (x10_3 : ByteArray) (x11_3 : Int), v10 = .string x10_3 ∧ v11 = .int .i64 x11_3 ∧ Aside0 (spec_Listing.l1 kq l0 a1 x5_1 x6_1 x8_12 x9_12 x10_3 x11_3 = some r) ∧ Aside0 (kq ≤ kj12) ∧ Aside0 (Kd.R Kd.string 9 w' w.heap.size (fun _ => True) u5 x5_1) ∧ Aside0 (Below w.heap.size w w'))
          case atStart => exact ⟨(t204 ++ (⟨#[58]⟩ : ByteArray)), (0), (by first | rfl | (simp; done) | (simp [*]; done)), (by first | rfl | (simp; done) | (simp [*]; done)), H', ⟨Nat.le_refl _⟩, ⟨by (with_reducible repeat (first | apply Kd.R_alloc | apply Kd.R_drewN | apply Kd.R_drew)); exact HO_5.out⟩, ⟨by repeat (first | (with_reducible first | exact HB.out | apply below_alloc | apply pw_below_drewN | apply below_drew1) | exact HB.out)⟩⟩
          case round =>
           clear H'
           try clear c1
           try clear c2
           try clear p2
           try clear q2
           try clear hx2
           try clear c3
           try clear c3b0
           try clear c3b1
           try clear c5
           try clear p6
           try clear c8
           try clear c8b0
           try clear c9
           try clear c9b0
           try clear c9b1
           try clear c10
           try clear c10b0
           try clear c10b1
           try clear c17
           try clear c17b0
           try clear c17b1
           try clear c19
           try clear c19b0
           try clear c19b1
           try clear c19b2
           try clear p20
           try clear q20
           try clear hx20
           try clear c21
           try clear c21b0
           try clear c21b1
           try clear c21b2
           try clear hx200_0
           try clear hx202_0
           try clear p2
           try clear p200
           try clear p202
           try clear p6
           try clear q2
           try clear q200
           try clear q202
           obtain ⟨x10_3, x11_3, rfl, rfl, HA, HK3, HO_5, HB⟩ := hrel
           cases gk with
           | zero => exact absurd HA.out (by simp [spec_Listing.l1])
           | succ k3 =>
            have H := HA.out; clear HA; simp only [spec_Listing.l1] at H
            by_cases c22 : x11_3 < x9_12
            ·rw [if_pos c22] at H
             have c22b0 : decide (x11_3 < x9_12) = true := decide_eq_true c22; clear c22
             by_cases c23 : x10_3.size + 1 ≤ 9223372036854775807
             ·rw [if_pos c23] at H
              have c23b0 := eq_true c23; have c23b1 : decide (x10_3.size + 1 ≤ 9223372036854775807) = true := decide_eq_true c23
              try have c23b2 : (9223372036854775807 < x10_3.size + 1) = False := eq_false (Nat.not_lt.2 c23)
              try (have c23b3 := c23; simp at c23b3; have c23b4 := eq_true c23b3; have c23b5 := decide_eq_true c23b3; have c23b6 := eq_false (Nat.not_lt.2 c23b3))
              obtain ⟨ji24, hji24⟩ : ∃ j_ : Int, (wrap64 (x6_1 + x11_3)) = j_ := ⟨_, rfl⟩
              replace H : (if 0 ≤ (ji24) then (if (ji24) < (l0.length : Int) then ((spec_HexText.f k3 (wrap64 (rd l0 (ji24))) 2).bind fun t206 => (if (x10_3 ++ (⟨#[32]⟩ : ByteArray)).size + t206.size ≤ 9223372036854775807 then (spec_Listing.l1 k3 l0 a1 x5_1 x6_1 x8_12 x9_12 ((x10_3 ++ (⟨#[32]⟩ : ByteArray)) ++ t206) (wrap64 (x11_3 + 1))) else (none))) else (none)) else (none)) = some r := by first | (rw [hji24] at H; exact H) | (simp only [hji24] at H ⊢; exact H)
              have hji24w : (IntKind.i64.wrap (x6_1 + x11_3)) = ji24 := (i64_w _).trans hji24
              by_cases c25 : 0 ≤ (ji24)
              ·rw [if_pos c25] at H
               have c25b0 : decide (0 ≤ (ji24)) = true := decide_eq_true c25; clear c25
               by_cases c26 : (ji24) < (l0.length : Int)
               ·rw [if_pos c26] at H
                have c26b0 : decide ((ji24) < (l0.length : Int)) = true := decide_eq_true c26; clear c26; replace H := Option.bind_eq_some_iff.mp H; obtain ⟨t206, A270, H⟩ := H; replace H : (if (x10_3 ++ (⟨#[32]⟩ : ByteArray)).size + t206.size ≤ 9223372036854775807 then (spec_Listing.l1 k3 l0 a1 x5_1 x6_1 x8_12 x9_12 ((x10_3 ++ (⟨#[32]⟩ : ByteArray)) ++ t206) (wrap64 (x11_3 + 1))) else (none)) = some r := H; have A27 := Aside0.mk A270; clear A270
                by_cases c28 : (x10_3 ++ (⟨#[32]⟩ : ByteArray)).size + t206.size ≤ 9223372036854775807
                ·rw [if_pos c28] at H
                 have c28b0 := eq_true c28; have c28b1 : decide ((x10_3 ++ (⟨#[32]⟩ : ByteArray)).size + t206.size ≤ 9223372036854775807) = true := decide_eq_true c28
                 try have c28b2 : (9223372036854775807 < (x10_3 ++ (⟨#[32]⟩ : ByteArray)).size + t206.size) = False := eq_false (Nat.not_lt.2 c28)
                 try (have c28b3 := c28; simp at c28b3; have c28b4 := eq_true c28b3; have c28b5 := decide_eq_true c28b3; have c28b6 := eq_false (Nat.not_lt.2 c28b3))
                 have c28b7 : x10_3.size + 1 + t206.size ≤ 9223372036854775807 := by have h_ := c28; simp only [ByteArray.size_append] at h_; exact h_
                 have c28b8 := eq_false (Nat.not_lt.2 c28b7); replace c28b7 := eq_true c28b7; have H' := Aside0.mk H; clear H; have p205 : 0 ≤ ((ji24) : Int) := of_decide_eq_true (by first | (with_reducible assumption) | assumption); have q205 : (ji24) < (l0.length : Int) := of_decide_eq_true (by first | (with_reducible assumption) | assumption); obtain ⟨ad205, e205, hx205_0⟩ := Kd.at_int HR0.out (ji24) p205 q205; obtain rfl : ad200 = ad205 := (by injection e205); replace hx205_0 := (HB.out.cell (World.block_lt_of_cell? w _ hx205_0)).trans hx205_0; replace p205 := eq_true p205; replace q205 := eq_true q205
                 go_wp2_with (first | ((with_reducible refine gate_callee (f := 52) rfl ?_); refine goesL_ (some 62) rfl rfl Tryd.func52 (by kernel_rfl) rfl #[.int .i64 (wrap64 (rd l0 (ji24))), .int .i64 2] rfl (by (try simp only [List.map_toArray, List.map_cons, List.map_nil]); first | done | (simp only [hji24]; rfl) | rfl | (simp only [List.length_drop, List.length_take]; rfl)) ?_; (with_reducible refine (spec_HexText.calls k3 (wrap64 (rd l0 (ji24))) 2 t206 _ A27.out).mono ?_); rintro e w' ⟨rfl, ⟨nd, rfl⟩⟩; refine ⟨_, rfl, ?_⟩))
                 go_roundg k3
                 case measure => have := HK1.out; have := HJ12.out; have := HK3.out; omega
                 case rel => exact ⟨((x10_3 ++ (⟨#[32]⟩ : ByteArray)) ++ t206), (wrap64 (x11_3 + 1)), (by first | rfl | (simp; done) | (simp [*]; done)), (by first | rfl | (simp; done) | (simp [*]; done)), H', ⟨by have := HK1.out; have := HJ12.out; have := HK3.out; omega⟩, ⟨by (with_reducible repeat (first | apply Kd.R_alloc | apply Kd.R_drewN | apply Kd.R_drew)); exact HO_5.out⟩, ⟨by repeat (first | (with_reducible first | exact HB.out | apply below_alloc | apply pw_below_drewN | apply below_drew1) | exact HB.out)⟩⟩
                ·rw [if_neg c28] at H
                 exact absurd H (by simp)
               ·rw [if_neg c26] at H
                exact absurd H (by simp)
              ·rw [if_neg c25] at H
               exact absurd H (by simp)
             ·rw [if_neg c23] at H
              exact absurd H (by simp)
            ·rw [if_neg c22] at H
             have c22b0 : decide (x11_3 < x9_12) = false := decide_eq_false c22; clear c22; have H' := Aside0.mk H; clear H
             go_wp2
             go_loopg [10] k3 (fun kq v10 w' => ∃ (x10_4 : ByteArray), v10 = .string x10_4 ∧ Aside0 (spec_Listing.l2 kq l0 a1 x5_1 x6_1 x8_12 x9_12 x10_4 = some r) ∧ Aside0 (kq ≤ k3) ∧ Aside0 (Kd.R Kd.string 9 w' w.heap.size (fun _ => True) u5 x5_1) ∧ Aside0 (Below w.heap.size w w'))
             case atStart => exact ⟨(x10_3), (by first | rfl | (simp; done) | (simp [*]; done)), H', ⟨Nat.le_refl _⟩, ⟨by (with_reducible repeat (first | apply Kd.R_alloc | apply Kd.R_drewN | apply Kd.R_drew)); exact HO_5.out⟩, ⟨by repeat (first | (with_reducible first | exact HB.out | apply below_alloc | apply pw_below_drewN | apply below_drew1) | exact HB.out)⟩⟩
             case round =>
              clear H'
              try clear c1
              try clear c2
              try clear p2
              try clear q2
              try clear hx2
              try clear c3
              try clear c3b0
              try clear c3b1
              try clear c5
              try clear p6
              try clear c8
              try clear c8b0
              try clear c9
              try clear c9b0
              try clear c9b1
              try clear c10
              try clear c10b0
              try clear c10b1
              try clear c17
              try clear c17b0
              try clear c17b1
              try clear c19
              try clear c19b0
              try clear c19b1
              try clear c19b2
              try clear p20
              try clear q20
              try clear hx20
              try clear c21
              try clear c21b0
              try clear c21b1
              try clear c21b2
              try clear c22
              try clear c22b0
              try clear c23
              try clear c23b0
              try clear c23b1
              try clear c23b2
              try clear c25
              try clear c25b0
              try clear c26
              try clear c26b0
              try clear c28
              try clear c28b0
              try clear c28b1
              try clear c28b2
              try clear hx200_0
              try clear hx202_0
              try clear hx205_0
              try clear p2
              try clear p20
              try clear p200
              try clear p202
              try clear p205
              try clear p6
              try clear q2
              try clear q20
              try clear q200
              try clear q202
              try clear q205
              obtain ⟨x10_4, rfl, HA, HK4, HO_5, HB⟩ := hrel
              cases gk with
              | zero => exact absurd HA.out (by simp [spec_Listing.l2])
              | succ k4 =>
               have H := HA.out; clear HA; simp only [spec_Listing.l2] at H
               by_cases c29 : (x10_4.size : Int) < 15
               ·rw [if_pos c29] at H
                have c29b0 : decide ((x10_4.size : Int) < 15) = true := decide_eq_true c29; have c29b1 : decide (x10_4.size < 15) = true := decide_eq_true (by omega); clear c29
                by_cases c30 : x10_4.size + 1 ≤ 9223372036854775807
                ·rw [if_pos c30] at H
                 have c30b0 := eq_true c30; have c30b1 : decide (x10_4.size + 1 ≤ 9223372036854775807) = true := decide_eq_true c30
                 try have c30b2 : (9223372036854775807 < x10_4.size + 1) = False := eq_false (Nat.not_lt.2 c30)
                 try (have c30b3 := c30; simp at c30b3; have c30b4 := eq_true c30b3; have c30b5 := decide_eq_true c30b3; have c30b6 := eq_false (Nat.not_lt.2 c30b3))
                 have H' := Aside0.mk H; clear H
                 go_wp2
                 go_roundg k4
                 case measure => have := HK1.out; have := HJ12.out; have := HK3.out; have := HK4.out; omega
                 case rel => exact ⟨(x10_4 ++ (⟨#[32]⟩ : ByteArray)), (by first | rfl | (simp; done) | (simp [*]; done)), H', ⟨by have := HK1.out; have := HJ12.out; have := HK3.out; have := HK4.out; omega⟩, ⟨by (with_reducible repeat (first | apply Kd.R_alloc | apply Kd.R_drewN | apply Kd.R_drew)); exact HO_5.out⟩, ⟨by repeat (first | (with_reducible first | exact HB.out | apply below_alloc | apply pw_below_drewN | apply below_drew1) | exact HB.out)⟩⟩
                ·rw [if_neg c30] at H
                 exact absurd H (by simp)
               ·rw [if_neg c29] at H
                have c29b0 : decide ((x10_4.size : Int) < 15) = false := decide_eq_false c29; have c29b1 : decide (x10_4.size < 15) = false := decide_eq_false (by omega); clear c29
                by_cases c31 : x10_4.size + x8_12.size ≤ 9223372036854775807
                ·rw [if_pos c31] at H
                 have c31b0 := eq_true c31; have c31b1 : decide (x10_4.size + x8_12.size ≤ 9223372036854775807) = true := decide_eq_true c31
                 try have c31b2 : (9223372036854775807 < x10_4.size + x8_12.size) = False := eq_false (Nat.not_lt.2 c31)
                 try (have c31b3 := c31; simp at c31b3; have c31b4 := eq_true c31b3; have c31b5 := decide_eq_true c31b3; have c31b6 := eq_false (Nat.not_lt.2 c31b3))
                 by_cases c32 : x5_1.length < 8796093022208
                 ·rw [if_pos c32] at H
                  have LMc32 := Aside0.mk c32; clear c32; obtain ⟨y207, hy207⟩ : ∃ y_ : List ByteArray, y_ = (x5_1 ++ [x10_4 ++ x8_12]) := ⟨_, rfl⟩
                  replace H : (spec_Listing.l0 k4 l0 a1 y207 (wrap64 (x6_1 + x9_12))) = some r := by first | (rw [hy207]; with_reducible exact H) | (have H2_ := (Option.bind_some _ _).symm.trans H; rw [hy207]; with_reducible exact H2_) | (have H2_ := (Option.bind_some _ _).symm.trans H; with_reducible exact H2_) | with_reducible exact H | (rw [hy207]; exact H) | exact H
                  have Ny207 := Aside0.mk hy207; clear hy207; have H' := Aside0.mk H; clear H
                  go_wp2_with (first | ((with_reducible refine gate_builtin (b := .append) (xs := #[.tmp 69, .tmp 73]) rfl ?_); at_builtin; refine Kd.R_append Kd.string (w0 := w) w.heap.size rfl (.tmp 69) (.tmp 73) 39 9 (.string ⟨#[]⟩) 16 rfl Tryd.underlying39 info9 rfl (by decide) (by omega) u5 x5_1 (x10_4 ++ x8_12) [.string (x10_4 ++ x8_12)] (fun _ => True) (fun _ => False) rfl rfl ?aP (fun _ hk => hk.elim) ?aF ?aO ?aB ?aS ?aL ?_; (case aP => exact rfl); (case aB => exact (by repeat (first | (with_reducible first | exact HB.out | apply below_alloc | apply pw_below_drewN | apply below_drew1) | exact HB.out))); (case aF => exact (fun _ _ => trivial)); (case aO => exact (by (with_reducible repeat (first | apply Kd.R_alloc | apply Kd.R_drewN | apply Kd.R_drew)); exact HO_5.out)); (case aS => exact (below_size (by repeat (first | (with_reducible first | exact HB.out | apply below_alloc | apply pw_below_drewN | apply below_drew1) | exact HB.out)))); (case aL => have := LMc32.out; omega); intro v208 w33 ho hb hg hat; rw [← Ny207.out] at ho; have n0_ := Aside0.mk (hb); have n1_ := Aside0.mk (ho); clear HB; clear HO_5; have HB := n0_; have HO209 := n1_; clear n0_ n1_; clear ho hb hg hat))
                  go_roundg k4
                  case measure => have := HK1.out; have := HJ12.out; have := HK3.out; have := HK4.out; omega
                  case rel => exact ⟨(y207), (wrap64 (x6_1 + x9_12)), (by first | rfl | (simp; done) | (simp [*]; done)), H', ⟨by have := HK1.out; have := HJ12.out; have := HK3.out; have := HK4.out; omega⟩, ⟨by (with_reducible repeat (first | apply Kd.R_alloc | apply Kd.R_drewN | apply Kd.R_drew)); exact HO209.out⟩, ⟨by repeat (first | (with_reducible first | exact HB.out | apply below_alloc | apply pw_below_drewN | apply below_drew1) | exact HB.out)⟩⟩
                 ·rw [if_neg c32] at H
                  exact absurd H (by simp)
                ·rw [if_neg c31] at H
                 exact absurd H (by simp)
         ·rw [if_neg c21] at H
          exact absurd H (by simp)
      ·rw [if_neg c10] at H
       exact absurd H (by simp)
     ·rw [if_neg c9] at H
      exact absurd H (by simp)
    ·rw [if_neg c8] at H
     have c8b0 : decide (x6_1 < (l0.length : Int)) = false := decide_eq_false c8; clear c8; obtain rfl := Option.some.inj H
     go_wp2
     go_ret
     exact ⟨_, by first | rfl | (simp [errW_none, errW_some] <;> rfl) | (simp [*, errW_none, errW_some] <;> rfl), by (with_reducible repeat (first | apply Kd.R_alloc | apply Kd.R_drewN | apply Kd.R_drew)); exact HO_5.out, by repeat (first | (with_reducible first | exact HB.out | apply below_alloc | apply pw_below_drewN | apply below_drew1) | exact HB.out)⟩

/-! ### strings_Fields: function 100 -/
def strings_Fields.f (a0 : ByteArray) : Option (List ByteArray) := Giv.fields a0
theorem strings_Fields.calls (a0 : ByteArray) (r : List ByteArray) (w : World) (h : strings_Fields.f a0 = some r) (HT : Aside0 (Giv.TabW w)) :
    Calls Tryd.prog 100 #[.string a0] w fun e w' => ∃ v0_ : Value, e = .returned (v0_) ∧ Kd.R Kd.string 9 w' w.heap.size (fun _ => True) v0_ r ∧ Below w.heap.size w w' :=
  Giv.fields_calls a0 r w h HT

/-! ### impl_word: function 78 -/
def impl_word.f (a0 : ByteArray) (a1 : Int) : Option (ByteArray) := (strings_Fields.f a0).bind fun t210 => (if 0 ≤ a1 then (if a1 < (t210.length : Int) then (if (rdOf ByteArray.empty t210 a1).toList = ([46] : List UInt8) then (some (⟨#[]⟩ : ByteArray)) else (some (rdOf ByteArray.empty t210 a1))) else (none)) else (none))
set_option maxHeartbeats 8000000 in
set_option maxRecDepth 100000 in
theorem impl_word.calls (a0 : ByteArray) (a1 : Int) (r : ByteArray) (w : World) (h : impl_word.f a0 a1 = some r) (HT : Aside0 (Giv.TabW w)) :
  Calls Tryd.prog 78 #[.string a0, .int .i64 a1] w fun e w' => e = .returned (.string r) ∧ Below w.heap.size w w' := by
 have HB := Aside0.mk (Below.refl w.heap.size w)
 have H : ((strings_Fields.f a0).bind fun t210 => (if 0 ≤ a1 then (if a1 < (t210.length : Int) then (if (rdOf ByteArray.empty t210 a1).toList = ([46] : List UInt8) then (some (⟨#[]⟩ : ByteArray)) else (some (rdOf ByteArray.empty t210 a1))) else (none)) else (none))) = some r := h
 clear h
 replace H := Option.bind_eq_some_iff.mp H
 obtain ⟨t210, A30, H⟩ := H
 replace H : (if 0 ≤ a1 then (if a1 < (t210.length : Int) then (if (rdOf ByteArray.empty t210 a1).toList = ([46] : List UInt8) then (some (⟨#[]⟩ : ByteArray)) else (some (rdOf ByteArray.empty t210 a1))) else (none)) else (none)) = some r := H
 have A3 := Aside0.mk A30
 clear A30
 by_cases c4 : 0 ≤ a1
 ·rw [if_pos c4] at H
  have c4b0 : decide (0 ≤ a1) = true := decide_eq_true c4
  clear c4
  by_cases c5 : a1 < (t210.length : Int)
  ·rw [if_pos c5] at H
   have c5b0 : decide (a1 < (t210.length : Int)) = true := decide_eq_true c5; clear c5
   by_cases c6 : (rdOf ByteArray.empty t210 a1).toList = ([46] : List UInt8)
   ·rw [if_pos c6] at H
    have c6b0 : ((rdOf ByteArray.empty t210 a1).toList == ([46] : List UInt8)) = true := beq_iff_eq.mpr c6; have c6b1 : ((rdOf ByteArray.empty t210 a1).toList != ([46] : List UInt8)) = false := bne_eq_false_iff_eq.mpr c6; clear c6; obtain rfl := Option.some.inj H
    go_enter Tryd.func78, Tryd.ntmps78
    go_wp2_with (first | ((with_reducible refine gate_callee (f := 100) rfl ?_); refine goesL_ (some 7) rfl rfl Tryd.func100 (by kernel_rfl) rfl #[.string a0] rfl (by (try simp only [List.map_toArray, List.map_cons, List.map_nil]); first | done | rfl | (simp only [List.length_drop, List.length_take]; rfl)) ?_; (with_reducible refine (strings_Fields.calls a0 t210 _ A3.out (Giv.at_ HT (by repeat (first | (with_reducible first | exact HB.out | apply below_alloc | apply pw_below_drewN | apply below_drew1) | exact HB.out)))).mono ?_); rintro e w7 ⟨v211, rfl, ho0, hb⟩; refine ⟨_, rfl, ?_⟩; have n0_ := Aside0.mk (Kd.R_lower ho0 (below_size (by repeat (first | (with_reducible first | exact HB.out | apply below_alloc | apply pw_below_drewN | apply below_drew1) | exact HB.out)))); have n1_ := Aside0.mk (below_step (by repeat (first | (with_reducible first | exact HB.out | apply below_alloc | apply pw_below_drewN | apply below_drew1) | exact HB.out)) hb); clear HB; have HO212 := n0_; have HB := n1_; clear n0_ n1_; (try clear hb); (try clear hb2); (try clear hk); (try clear hi); (try clear ho0); obtain ⟨Ao8, co8, eo8⟩ := Kd.R_slice HO212.out; subst eo8; have p213 : 0 ≤ (a1 : Int) := of_decide_eq_true (by first | (with_reducible assumption) | assumption); have q213 : a1 < (t210.length : Int) := of_decide_eq_true (by first | (with_reducible assumption) | assumption); obtain ⟨ad213, e213, hx213_0⟩ := Kd.at_string (Kd.R_reads' HO212.out).2.2 a1 p213 q213; cases e213; replace p213 := eq_true p213; replace q213 := eq_true q213))
    go_ret
    exact ⟨by first | rfl | (simp [errW_none, errW_some] <;> rfl) | (simp [*, errW_none, errW_some] <;> rfl), by repeat (first | (with_reducible first | exact HB.out | apply below_alloc | apply pw_below_drewN | apply below_drew1) | exact HB.out)⟩
   ·rw [if_neg c6] at H
    have c6b0 : ((rdOf ByteArray.empty t210 a1).toList == ([46] : List UInt8)) = false := beq_eq_false_iff_ne.mpr c6; have c6b1 : ((rdOf ByteArray.empty t210 a1).toList != ([46] : List UInt8)) = true := bne_iff_ne.mpr c6; obtain rfl := Option.some.inj H
    go_enter Tryd.func78, Tryd.ntmps78
    go_wp2_with (first | ((with_reducible refine gate_callee (f := 100) rfl ?_); refine goesL_ (some 7) rfl rfl Tryd.func100 (by kernel_rfl) rfl #[.string a0] rfl (by (try simp only [List.map_toArray, List.map_cons, List.map_nil]); first | done | rfl | (simp only [List.length_drop, List.length_take]; rfl)) ?_; (with_reducible refine (strings_Fields.calls a0 t210 _ A3.out (Giv.at_ HT (by repeat (first | (with_reducible first | exact HB.out | apply below_alloc | apply pw_below_drewN | apply below_drew1) | exact HB.out)))).mono ?_); rintro e w9 ⟨v211, rfl, ho0, hb⟩; refine ⟨_, rfl, ?_⟩; have n0_ := Aside0.mk (Kd.R_lower ho0 (below_size (by repeat (first | (with_reducible first | exact HB.out | apply below_alloc | apply pw_below_drewN | apply below_drew1) | exact HB.out)))); have n1_ := Aside0.mk (below_step (by repeat (first | (with_reducible first | exact HB.out | apply below_alloc | apply pw_below_drewN | apply below_drew1) | exact HB.out)) hb); clear HB; have HO212 := n0_; have HB := n1_; clear n0_ n1_; (try clear hb); (try clear hb2); (try clear hk); (try clear hi); (try clear ho0); obtain ⟨Ao10, co10, eo10⟩ := Kd.R_slice HO212.out; subst eo10; have p213 : 0 ≤ (a1 : Int) := of_decide_eq_true (by first | (with_reducible assumption) | assumption); have q213 : a1 < (t210.length : Int) := of_decide_eq_true (by first | (with_reducible assumption) | assumption); obtain ⟨ad213, e213, hx213_0⟩ := Kd.at_string (Kd.R_reads' HO212.out).2.2 a1 p213 q213; cases e213; replace p213 := eq_true p213; replace q213 := eq_true q213))
    go_ret
    exact ⟨by first | rfl | (simp [errW_none, errW_some] <;> rfl) | (simp [*, errW_none, errW_some] <;> rfl), by repeat (first | (with_reducible first | exact HB.out | apply below_alloc | apply pw_below_drewN | apply below_drew1) | exact HB.out)⟩
  ·rw [if_neg c5] at H
   exact absurd H (by simp)
 ·rw [if_neg c4] at H
  exact absurd H (by simp)

/-! ### impl_sideZero: function 77 -/
def impl_sideZero.j0 : Nat → Int → Int → Option (ByteArray × Int)
 | 0, _, _ => none
 | k + 1, x0, x6 => if x0 = 1 then ((impl_word.f (⟨#[66, 82, 75, 32, 74, 83, 82, 32, 82, 84, 73, 32, 82, 84, 83, 32, 46, 32, 76, 68, 89, 32, 67, 80, 89, 32, 67, 80, 88]⟩ : ByteArray) x0).bind fun t214 => (some (t214, 6))) else ((impl_word.f (⟨#[66, 82, 75, 32, 74, 83, 82, 32, 82, 84, 73, 32, 82, 84, 83, 32, 46, 32, 76, 68, 89, 32, 67, 80, 89, 32, 67, 80, 88]⟩ : ByteArray) x0).bind fun t215 => (some (t215, x6)))
def impl_sideZero.f (k : Nat) (a0 : Int) (a1 : Int) : Option (ByteArray × Int) := if a1 = 0 then (if a0 < 4 then (impl_sideZero.j0 k a0 0) else (impl_sideZero.j0 k a0 2)) else (if a1 = 1 then ((impl_word.f (⟨#[46, 32, 66, 73, 84, 32, 46, 32, 46, 32, 83, 84, 89, 32, 76, 68, 89, 32, 67, 80, 89, 32, 67, 80, 88]⟩ : ByteArray) a0).bind fun t216 => (some (t216, 3))) else (if a1 = 2 then ((impl_word.f (⟨#[80, 72, 80, 32, 80, 76, 80, 32, 80, 72, 65, 32, 80, 76, 65, 32, 68, 69, 89, 32, 84, 65, 89, 32, 73, 78, 89, 32, 73, 78, 88]⟩ : ByteArray) a0).bind fun t217 => (some (t217, 0))) else (if a1 = 3 then (if a0 = 3 then (some ((⟨#[74, 77, 80]⟩ : ByteArray), 9)) else ((impl_word.f (⟨#[46, 32, 66, 73, 84, 32, 74, 77, 80, 32, 46, 32, 83, 84, 89, 32, 76, 68, 89, 32, 67, 80, 89, 32, 67, 80, 88]⟩ : ByteArray) a0).bind fun t218 => (some (t218, 6)))) else (if a1 = 4 then ((impl_word.f (⟨#[66, 80, 76, 32, 66, 77, 73, 32, 66, 86, 67, 32, 66, 86, 83, 32, 66, 67, 67, 32, 66, 67, 83, 32, 66, 78, 69, 32, 66, 69, 81]⟩ : ByteArray) a0).bind fun t219 => (some (t219, 12))) else (if a1 = 5 then ((impl_word.f (⟨#[46, 32, 46, 32, 46, 32, 46, 32, 83, 84, 89, 32, 76, 68, 89, 32, 46, 32, 46]⟩ : ByteArray) a0).bind fun t220 => (some (t220, 4))) else (if a1 = 6 then ((impl_word.f (⟨#[67, 76, 67, 32, 83, 69, 67, 32, 67, 76, 73, 32, 83, 69, 73, 32, 84, 89, 65, 32, 67, 76, 86, 32, 67, 76, 68, 32, 83, 69, 68]⟩ : ByteArray) a0).bind fun t221 => (some (t221, 0))) else ((impl_word.f (⟨#[46, 32, 46, 32, 46, 32, 46, 32, 46, 32, 76, 68, 89, 32, 46, 32, 46]⟩ : ByteArray) a0).bind fun t222 => (some (t222, 7)))))))))
theorem impl_sideZero.mono_l : ∀ k, (∀ y0 y1, LeO (impl_sideZero.j0 k y0 y1) (impl_sideZero.j0 (k + 1) y0 y1))
 | 0 => fun _ _ r h => by simp [impl_sideZero.j0] at h
 | k + 1 => by
  have ih0 := impl_sideZero.mono_l k
  ·intro y0 y1
   unfold impl_sideZero.j0
   repeat' first
   | (with_reducible exact ih0 _ _)
   | (with_reducible exact LeO.refl _)
   | (with_reducible exact LeO.none _)
   | (with_reducible refine LeO.ite ?_ ?_)
   | (with_reducible refine LeO.bind ?_ (fun _ => ?_))
   | exact ih0 _ _
   | exact LeO.none _
   | refine LeO.ite ?_ ?_
   | refine LeO.bind ?_ (fun _ => ?_)
theorem impl_sideZero.mono : ∀ a0 a1 k, LeO (impl_sideZero.f k a0 a1) (impl_sideZero.f (k + 1) a0 a1) := by
 intro a0 a1 k
 have ih0 := impl_sideZero.mono_l k
 unfold impl_sideZero.f
 repeat' first
   | (with_reducible exact ih0 _ _)
   | (with_reducible exact LeO.refl _)
   | (with_reducible exact LeO.none _)
   | (with_reducible refine LeO.ite ?_ ?_)
   | (with_reducible refine LeO.bind ?_ (fun _ => ?_))
   | exact ih0 _ _
   | exact LeO.none _
   | refine LeO.ite ?_ ?_
   | refine LeO.bind ?_ (fun _ => ?_)
set_option maxHeartbeats 8000000 in
set_option maxRecDepth 100000 in
theorem impl_sideZero.calls (k : Nat) (a0 : Int) (a1 : Int) (r1 : ByteArray) (r2 : Int) (w : World) (h : impl_sideZero.f k a0 a1 = some (r1, r2)) (HT : Aside0 (Giv.TabW w)) :
  Calls Tryd.prog 77 #[.int .i64 a0, .int .i64 a1] w fun e w' => e = .returned (.tuple #[.string r1, .int .i64 r2]) ∧ Below w.heap.size w w' := by
 have HB := Aside0.mk (Below.refl w.heap.size w)
 have H : (if a1 = 0 then (if a0 < 4 then (impl_sideZero.j0 k a0 0) else (impl_sideZero.j0 k a0 2)) else (if a1 = 1 then ((impl_word.f (⟨#[46, 32, 66, 73, 84, 32, 46, 32, 46, 32, 83, 84, 89, 32, 76, 68, 89, 32, 67, 80, 89, 32, 67, 80, 88]⟩ : ByteArray) a0).bind fun t216 => (some (t216, 3))) else (if a1 = 2 then ((impl_word.f (⟨#[80, 72, 80, 32, 80, 76, 80, 32, 80, 72, 65, 32, 80, 76, 65, 32, 68, 69, 89, 32, 84, 65, 89, 32, 73, 78, 89, 32, 73, 78, 88]⟩ : ByteArray) a0).bind fun t217 => (some (t217, 0))) else (if a1 = 3 then (if a0 = 3 then (some ((⟨#[74, 77, 80]⟩ : ByteArray), 9)) else ((impl_word.f (⟨#[46, 32, 66, 73, 84, 32, 74, 77, 80, 32, 46, 32, 83, 84, 89, 32, 76, 68, 89, 32, 67, 80, 89, 32, 67, 80, 88]⟩ : ByteArray) a0).bind fun t218 => (some (t218, 6)))) else (if a1 = 4 then ((impl_word.f (⟨#[66, 80, 76, 32, 66, 77, 73, 32, 66, 86, 67, 32, 66, 86, 83, 32, 66, 67, 67, 32, 66, 67, 83, 32, 66, 78, 69, 32, 66, 69, 81]⟩ : ByteArray) a0).bind fun t219 => (some (t219, 12))) else (if a1 = 5 then ((impl_word.f (⟨#[46, 32, 46, 32, 46, 32, 46, 32, 83, 84, 89, 32, 76, 68, 89, 32, 46, 32, 46]⟩ : ByteArray) a0).bind fun t220 => (some (t220, 4))) else (if a1 = 6 then ((impl_word.f (⟨#[67, 76, 67, 32, 83, 69, 67, 32, 67, 76, 73, 32, 83, 69, 73, 32, 84, 89, 65, 32, 67, 76, 86, 32, 67, 76, 68, 32, 83, 69, 68]⟩ : ByteArray) a0).bind fun t221 => (some (t221, 0))) else ((impl_word.f (⟨#[46, 32, 46, 32, 46, 32, 46, 32, 46, 32, 76, 68, 89, 32, 46, 32, 46]⟩ : ByteArray) a0).bind fun t222 => (some (t222, 7)))))))))) = some (r1, r2) := h
 clear h
 by_cases c3 : a1 = 0
 ·rw [if_pos c3] at H
  have c3b0 : (a1 == 0) = true := beq_iff_eq.mpr c3
  have c3b1 : (a1 != 0) = false := bne_eq_false_iff_eq.mpr c3
  clear c3
  have HC4 := Aside0.mk H
  clear H
  go_enter Tryd.func77, Tryd.ntmps77
  go_upto_if 11 with (fail)
  go_cut [6] (fun v6 wc => ∃ (kq : Nat) (x6_3 : Int), v6 = .int .i64 x6_3 ∧ Aside0 (impl_sideZero.j0 kq a0 x6_3 = some (r1, r2)) ∧ Aside0 (kq ≤ k) ∧ Aside0 (Below w.heap.size w wc))
  case first =>
   have H := HC4.out; clear HC4
   by_cases c5 : a0 < 4
   ·rw [if_pos c5] at H
    have c5b0 : decide (a0 < 4) = true := decide_eq_true c5; clear c5; (first | rw [c5b0] | (simp only [i64_w, i32_w]; rw [c5b0]) | skip); have H' := Aside0.mk H; clear H
    go_wp2
    go_meet
    case rel => exact ⟨_, (0), (by first | rfl | (simp; done) | (simp [*]; done)), H', ⟨by first | omega | exact Nat.le_refl _⟩, ⟨by repeat (first | (with_reducible first | exact HB.out | apply below_alloc | apply pw_below_drewN | apply below_drew1) | exact HB.out)⟩⟩
   ·rw [if_neg c5] at H
    have c5b0 : decide (a0 < 4) = false := decide_eq_false c5; clear c5; (first | rw [c5b0] | (simp only [i64_w, i32_w]; rw [c5b0]) | skip); have H' := Aside0.mk H; clear H
    go_wp2
    go_meet
    case rel => exact ⟨_, (2), (by first | rfl | (simp; done) | (simp [*]; done)), H', ⟨by first | omega | exact Nat.le_refl _⟩, ⟨by repeat (first | (with_reducible first | exact HB.out | apply below_alloc | apply pw_below_drewN | apply below_drew1) | exact HB.out)⟩⟩
  case rest =>
   clear HC4
   try clear p2
   try clear c3
   try clear c3b0
   try clear c3b1
   try clear c5
   try clear c5b0
   obtain ⟨kq, x6_3, rfl, HA, HJ3, HB⟩ := hcut
   cases kq with
   | zero => exact absurd HA.out (by simp [impl_sideZero.j0])
   | succ kj3 =>
    have H := HA.out; clear HA; simp only [impl_sideZero.j0] at H
    by_cases c6 : a0 = 1
    ·rw [if_pos c6] at H
     have c6b0 : (a0 == 1) = true := beq_iff_eq.mpr c6; have c6b1 : (a0 != 1) = false := bne_eq_false_iff_eq.mpr c6; clear c6; replace H := Option.bind_eq_some_iff.mp H; obtain ⟨t214, A70, H⟩ := H; replace H : (some (t214, 6)) = some (r1, r2) := H; have A7 := Aside0.mk A70; clear A70; simp only [Option.some.injEq, Prod.mk.injEq] at H; obtain ⟨rfl, rfl⟩ := H
     go_wp2_with (first | ((with_reducible refine gate_callee (f := 78) rfl ?_); refine goesL_ (some 15) rfl rfl Tryd.func78 (by kernel_rfl) rfl #[.string (⟨#[66, 82, 75, 32, 74, 83, 82, 32, 82, 84, 73, 32, 82, 84, 83, 32, 46, 32, 76, 68, 89, 32, 67, 80, 89, 32, 67, 80, 88]⟩ : ByteArray), .int .i64 a0] rfl (by (try simp only [List.map_toArray, List.map_cons, List.map_nil]); first | done | rfl | (simp only [List.length_drop, List.length_take]; rfl)) ?_; (with_reducible refine (impl_word.calls (⟨#[66, 82, 75, 32, 74, 83, 82, 32, 82, 84, 73, 32, 82, 84, 83, 32, 46, 32, 76, 68, 89, 32, 67, 80, 89, 32, 67, 80, 88]⟩ : ByteArray) a0 t214 _ A7.out (Giv.at_ HT (by repeat (first | (with_reducible first | exact HB.out | apply below_alloc | apply pw_below_drewN | apply below_drew1) | exact HB.out)))).mono ?_); rintro e w8 ⟨rfl, hb⟩; refine ⟨_, rfl, ?_⟩; have n0_ := Aside0.mk (below_step (by repeat (first | (with_reducible first | exact HB.out | apply below_alloc | apply pw_below_drewN | apply below_drew1) | exact HB.out)) hb); clear HB; have HB := n0_; clear n0_; (try clear hb); (try clear hb2); (try clear hk); (try clear hi)))
     go_ret2
     exact ⟨by first | rfl | (simp [errW_none, errW_some] <;> rfl) | (simp [*, errW_none, errW_some] <;> rfl), by repeat (first | (with_reducible first | exact HB.out | apply below_alloc | apply pw_below_drewN | apply below_drew1) | exact HB.out)⟩
    ·rw [if_neg c6] at H
     have c6b0 : (a0 == 1) = false := beq_eq_false_iff_ne.mpr c6; have c6b1 : (a0 != 1) = true := bne_iff_ne.mpr c6; replace H := Option.bind_eq_some_iff.mp H; obtain ⟨t215, A90, H⟩ := H; replace H : (some (t215, x6_3)) = some (r1, r2) := H; have A9 := Aside0.mk A90; clear A90; simp only [Option.some.injEq, Prod.mk.injEq] at H; obtain ⟨rfl, rfl⟩ := H
     go_wp2_with (first | ((with_reducible refine gate_callee (f := 78) rfl ?_); refine goesL_ (some 15) rfl rfl Tryd.func78 (by kernel_rfl) rfl #[.string (⟨#[66, 82, 75, 32, 74, 83, 82, 32, 82, 84, 73, 32, 82, 84, 83, 32, 46, 32, 76, 68, 89, 32, 67, 80, 89, 32, 67, 80, 88]⟩ : ByteArray), .int .i64 a0] rfl (by (try simp only [List.map_toArray, List.map_cons, List.map_nil]); first | done | rfl | (simp only [List.length_drop, List.length_take]; rfl)) ?_; (with_reducible refine (impl_word.calls (⟨#[66, 82, 75, 32, 74, 83, 82, 32, 82, 84, 73, 32, 82, 84, 83, 32, 46, 32, 76, 68, 89, 32, 67, 80, 89, 32, 67, 80, 88]⟩ : ByteArray) a0 t215 _ A9.out (Giv.at_ HT (by repeat (first | (with_reducible first | exact HB.out | apply below_alloc | apply pw_below_drewN | apply below_drew1) | exact HB.out)))).mono ?_); rintro e w10 ⟨rfl, hb⟩; refine ⟨_, rfl, ?_⟩; have n0_ := Aside0.mk (below_step (by repeat (first | (with_reducible first | exact HB.out | apply below_alloc | apply pw_below_drewN | apply below_drew1) | exact HB.out)) hb); clear HB; have HB := n0_; clear n0_; (try clear hb); (try clear hb2); (try clear hk); (try clear hi)))
     go_ret2
     exact ⟨by first | rfl | (simp [errW_none, errW_some] <;> rfl) | (simp [*, errW_none, errW_some] <;> rfl), by repeat (first | (with_reducible first | exact HB.out | apply below_alloc | apply pw_below_drewN | apply below_drew1) | exact HB.out)⟩
 ·rw [if_neg c3] at H
  have c3b0 : (a1 == 0) = false := beq_eq_false_iff_ne.mpr c3
  have c3b1 : (a1 != 0) = true := bne_iff_ne.mpr c3
  by_cases c11 : a1 = 1
  ·rw [if_pos c11] at H
   have c11b0 : (a1 == 1) = true := beq_iff_eq.mpr c11; have c11b1 : (a1 != 1) = false := bne_eq_false_iff_eq.mpr c11; clear c11; replace H := Option.bind_eq_some_iff.mp H; obtain ⟨t216, A120, H⟩ := H; replace H : (some (t216, 3)) = some (r1, r2) := H; have A12 := Aside0.mk A120; clear A120; simp only [Option.some.injEq, Prod.mk.injEq] at H; obtain ⟨rfl, rfl⟩ := H
   go_enter Tryd.func77, Tryd.ntmps77
   go_wp2_with (first | ((with_reducible refine gate_callee (f := 78) rfl ?_); refine goesL_ (some 20) rfl rfl Tryd.func78 (by kernel_rfl) rfl #[.string (⟨#[46, 32, 66, 73, 84, 32, 46, 32, 46, 32, 83, 84, 89, 32, 76, 68, 89, 32, 67, 80, 89, 32, 67, 80, 88]⟩ : ByteArray), .int .i64 a0] rfl (by (try simp only [List.map_toArray, List.map_cons, List.map_nil]); first | done | rfl | (simp only [List.length_drop, List.length_take]; rfl)) ?_; (with_reducible refine (impl_word.calls (⟨#[46, 32, 66, 73, 84, 32, 46, 32, 46, 32, 83, 84, 89, 32, 76, 68, 89, 32, 67, 80, 89, 32, 67, 80, 88]⟩ : ByteArray) a0 t216 _ A12.out (Giv.at_ HT (by repeat (first | (with_reducible first | exact HB.out | apply below_alloc | apply pw_below_drewN | apply below_drew1) | exact HB.out)))).mono ?_); rintro e w13 ⟨rfl, hb⟩; refine ⟨_, rfl, ?_⟩; have n0_ := Aside0.mk (below_step (by repeat (first | (with_reducible first | exact HB.out | apply below_alloc | apply pw_below_drewN | apply below_drew1) | exact HB.out)) hb); clear HB; have HB := n0_; clear n0_; (try clear hb); (try clear hb2); (try clear hk); (try clear hi)))
   go_ret2
   exact ⟨by first | rfl | (simp [errW_none, errW_some] <;> rfl) | (simp [*, errW_none, errW_some] <;> rfl), by repeat (first | (with_reducible first | exact HB.out | apply below_alloc | apply pw_below_drewN | apply below_drew1) | exact HB.out)⟩
  ·rw [if_neg c11] at H
   have c11b0 : (a1 == 1) = false := beq_eq_false_iff_ne.mpr c11; have c11b1 : (a1 != 1) = true := bne_iff_ne.mpr c11
   by_cases c14 : a1 = 2
   ·rw [if_pos c14] at H
    have c14b0 : (a1 == 2) = true := beq_iff_eq.mpr c14; have c14b1 : (a1 != 2) = false := bne_eq_false_iff_eq.mpr c14; clear c14; replace H := Option.bind_eq_some_iff.mp H; obtain ⟨t217, A150, H⟩ := H; replace H : (some (t217, 0)) = some (r1, r2) := H; have A15 := Aside0.mk A150; clear A150; simp only [Option.some.injEq, Prod.mk.injEq] at H; obtain ⟨rfl, rfl⟩ := H
    go_enter Tryd.func77, Tryd.ntmps77
    go_wp2_with (first | ((with_reducible refine gate_callee (f := 78) rfl ?_); refine goesL_ (some 24) rfl rfl Tryd.func78 (by kernel_rfl) rfl #[.string (⟨#[80, 72, 80, 32, 80, 76, 80, 32, 80, 72, 65, 32, 80, 76, 65, 32, 68, 69, 89, 32, 84, 65, 89, 32, 73, 78, 89, 32, 73, 78, 88]⟩ : ByteArray), .int .i64 a0] rfl (by (try simp only [List.map_toArray, List.map_cons, List.map_nil]); first | done | rfl | (simp only [List.length_drop, List.length_take]; rfl)) ?_; (with_reducible refine (impl_word.calls (⟨#[80, 72, 80, 32, 80, 76, 80, 32, 80, 72, 65, 32, 80, 76, 65, 32, 68, 69, 89, 32, 84, 65, 89, 32, 73, 78, 89, 32, 73, 78, 88]⟩ : ByteArray) a0 t217 _ A15.out (Giv.at_ HT (by repeat (first | (with_reducible first | exact HB.out | apply below_alloc | apply pw_below_drewN | apply below_drew1) | exact HB.out)))).mono ?_); rintro e w16 ⟨rfl, hb⟩; refine ⟨_, rfl, ?_⟩; have n0_ := Aside0.mk (below_step (by repeat (first | (with_reducible first | exact HB.out | apply below_alloc | apply pw_below_drewN | apply below_drew1) | exact HB.out)) hb); clear HB; have HB := n0_; clear n0_; (try clear hb); (try clear hb2); (try clear hk); (try clear hi)))
    go_ret2
    exact ⟨by first | rfl | (simp [errW_none, errW_some] <;> rfl) | (simp [*, errW_none, errW_some] <;> rfl), by repeat (first | (with_reducible first | exact HB.out | apply below_alloc | apply pw_below_drewN | apply below_drew1) | exact HB.out)⟩
   ·rw [if_neg c14] at H
    have c14b0 : (a1 == 2) = false := beq_eq_false_iff_ne.mpr c14; have c14b1 : (a1 != 2) = true := bne_iff_ne.mpr c14
    by_cases c17 : a1 = 3
    ·rw [if_pos c17] at H
     have c17b0 : (a1 == 3) = true := beq_iff_eq.mpr c17; have c17b1 : (a1 != 3) = false := bne_eq_false_iff_eq.mpr c17; clear c17
     by_cases c18 : a0 = 3
     ·rw [if_pos c18] at H
      have c18b0 : (a0 == 3) = true := beq_iff_eq.mpr c18; have c18b1 : (a0 != 3) = false := bne_eq_false_iff_eq.mpr c18; clear c18; simp only [Option.some.injEq, Prod.mk.injEq] at H; obtain ⟨rfl, rfl⟩ := H
      go_enter Tryd.func77, Tryd.ntmps77
      go_wp2
      go_ret2
      exact ⟨by first | rfl | (simp [errW_none, errW_some] <;> rfl) | (simp [*, errW_none, errW_some] <;> rfl), by repeat (first | (with_reducible first | exact HB.out | apply below_alloc | apply pw_below_drewN | apply below_drew1) | exact HB.out)⟩
     ·rw [if_neg c18] at H
      have c18b0 : (a0 == 3) = false := beq_eq_false_iff_ne.mpr c18; have c18b1 : (a0 != 3) = true := bne_iff_ne.mpr c18; replace H := Option.bind_eq_some_iff.mp H; obtain ⟨t218, A190, H⟩ := H; replace H : (some (t218, 6)) = some (r1, r2) := H; have A19 := Aside0.mk A190; clear A190; simp only [Option.some.injEq, Prod.mk.injEq] at H; obtain ⟨rfl, rfl⟩ := H
      go_enter Tryd.func77, Tryd.ntmps77
      go_wp2_with (first | ((with_reducible refine gate_callee (f := 78) rfl ?_); refine goesL_ (some 30) rfl rfl Tryd.func78 (by kernel_rfl) rfl #[.string (⟨#[46, 32, 66, 73, 84, 32, 74, 77, 80, 32, 46, 32, 83, 84, 89, 32, 76, 68, 89, 32, 67, 80, 89, 32, 67, 80, 88]⟩ : ByteArray), .int .i64 a0] rfl (by (try simp only [List.map_toArray, List.map_cons, List.map_nil]); first | done | rfl | (simp only [List.length_drop, List.length_take]; rfl)) ?_; (with_reducible refine (impl_word.calls (⟨#[46, 32, 66, 73, 84, 32, 74, 77, 80, 32, 46, 32, 83, 84, 89, 32, 76, 68, 89, 32, 67, 80, 89, 32, 67, 80, 88]⟩ : ByteArray) a0 t218 _ A19.out (Giv.at_ HT (by repeat (first | (with_reducible first | exact HB.out | apply below_alloc | apply pw_below_drewN | apply below_drew1) | exact HB.out)))).mono ?_); rintro e w20 ⟨rfl, hb⟩; refine ⟨_, rfl, ?_⟩; have n0_ := Aside0.mk (below_step (by repeat (first | (with_reducible first | exact HB.out | apply below_alloc | apply pw_below_drewN | apply below_drew1) | exact HB.out)) hb); clear HB; have HB := n0_; clear n0_; (try clear hb); (try clear hb2); (try clear hk); (try clear hi)))
      go_ret2
      exact ⟨by first | rfl | (simp [errW_none, errW_some] <;> rfl) | (simp [*, errW_none, errW_some] <;> rfl), by repeat (first | (with_reducible first | exact HB.out | apply below_alloc | apply pw_below_drewN | apply below_drew1) | exact HB.out)⟩
    ·rw [if_neg c17] at H
     have c17b0 : (a1 == 3) = false := beq_eq_false_iff_ne.mpr c17; have c17b1 : (a1 != 3) = true := bne_iff_ne.mpr c17
     by_cases c21 : a1 = 4
     ·rw [if_pos c21] at H
      have c21b0 : (a1 == 4) = true := beq_iff_eq.mpr c21; have c21b1 : (a1 != 4) = false := bne_eq_false_iff_eq.mpr c21; clear c21; replace H := Option.bind_eq_some_iff.mp H; obtain ⟨t219, A220, H⟩ := H; replace H : (some (t219, 12)) = some (r1, r2) := H; have A22 := Aside0.mk A220; clear A220; simp only [Option.some.injEq, Prod.mk.injEq] at H; obtain ⟨rfl, rfl⟩ := H
      go_enter Tryd.func77, Tryd.ntmps77
      go_wp2_with (first | ((with_reducible refine gate_callee (f := 78) rfl ?_); refine goesL_ (some 34) rfl rfl Tryd.func78 (by kernel_rfl) rfl #[.string (⟨#[66, 80, 76, 32, 66, 77, 73, 32, 66, 86, 67, 32, 66, 86, 83, 32, 66, 67, 67, 32, 66, 67, 83, 32, 66, 78, 69, 32, 66, 69, 81]⟩ : ByteArray), .int .i64 a0] rfl (by (try simp only [List.map_toArray, List.map_cons, List.map_nil]); first | done | rfl | (simp only [List.length_drop, List.length_take]; rfl)) ?_; (with_reducible refine (impl_word.calls (⟨#[66, 80, 76, 32, 66, 77, 73, 32, 66, 86, 67, 32, 66, 86, 83, 32, 66, 67, 67, 32, 66, 67, 83, 32, 66, 78, 69, 32, 66, 69, 81]⟩ : ByteArray) a0 t219 _ A22.out (Giv.at_ HT (by repeat (first | (with_reducible first | exact HB.out | apply below_alloc | apply pw_below_drewN | apply below_drew1) | exact HB.out)))).mono ?_); rintro e w23 ⟨rfl, hb⟩; refine ⟨_, rfl, ?_⟩; have n0_ := Aside0.mk (below_step (by repeat (first | (with_reducible first | exact HB.out | apply below_alloc | apply pw_below_drewN | apply below_drew1) | exact HB.out)) hb); clear HB; have HB := n0_; clear n0_; (try clear hb); (try clear hb2); (try clear hk); (try clear hi)))
      go_ret2
      exact ⟨by first | rfl | (simp [errW_none, errW_some] <;> rfl) | (simp [*, errW_none, errW_some] <;> rfl), by repeat (first | (with_reducible first | exact HB.out | apply below_alloc | apply pw_below_drewN | apply below_drew1) | exact HB.out)⟩
     ·rw [if_neg c21] at H
      have c21b0 : (a1 == 4) = false := beq_eq_false_iff_ne.mpr c21; have c21b1 : (a1 != 4) = true := bne_iff_ne.mpr c21
      by_cases c24 : a1 = 5
      ·rw [if_pos c24] at H
       have c24b0 : (a1 == 5) = true := beq_iff_eq.mpr c24; have c24b1 : (a1 != 5) = false := bne_eq_false_iff_eq.mpr c24; clear c24; replace H := Option.bind_eq_some_iff.mp H; obtain ⟨t220, A250, H⟩ := H; replace H : (some (t220, 4)) = some (r1, r2) := H; have A25 := Aside0.mk A250; clear A250; simp only [Option.some.injEq, Prod.mk.injEq] at H; obtain ⟨rfl, rfl⟩ := H
       go_enter Tryd.func77, Tryd.ntmps77
       go_wp2_with (first | ((with_reducible refine gate_callee (f := 78) rfl ?_); refine goesL_ (some 38) rfl rfl Tryd.func78 (by kernel_rfl) rfl #[.string (⟨#[46, 32, 46, 32, 46, 32, 46, 32, 83, 84, 89, 32, 76, 68, 89, 32, 46, 32, 46]⟩ : ByteArray), .int .i64 a0] rfl (by (try simp only [List.map_toArray, List.map_cons, List.map_nil]); first | done | rfl | (simp only [List.length_drop, List.length_take]; rfl)) ?_; (with_reducible refine (impl_word.calls (⟨#[46, 32, 46, 32, 46, 32, 46, 32, 83, 84, 89, 32, 76, 68, 89, 32, 46, 32, 46]⟩ : ByteArray) a0 t220 _ A25.out (Giv.at_ HT (by repeat (first | (with_reducible first | exact HB.out | apply below_alloc | apply pw_below_drewN | apply below_drew1) | exact HB.out)))).mono ?_); rintro e w26 ⟨rfl, hb⟩; refine ⟨_, rfl, ?_⟩; have n0_ := Aside0.mk (below_step (by repeat (first | (with_reducible first | exact HB.out | apply below_alloc | apply pw_below_drewN | apply below_drew1) | exact HB.out)) hb); clear HB; have HB := n0_; clear n0_; (try clear hb); (try clear hb2); (try clear hk); (try clear hi)))
       go_ret2
       exact ⟨by first | rfl | (simp [errW_none, errW_some] <;> rfl) | (simp [*, errW_none, errW_some] <;> rfl), by repeat (first | (with_reducible first | exact HB.out | apply below_alloc | apply pw_below_drewN | apply below_drew1) | exact HB.out)⟩
      ·rw [if_neg c24] at H
       have c24b0 : (a1 == 5) = false := beq_eq_false_iff_ne.mpr c24; have c24b1 : (a1 != 5) = true := bne_iff_ne.mpr c24
       by_cases c27 : a1 = 6
       ·rw [if_pos c27] at H
        have c27b0 : (a1 == 6) = true := beq_iff_eq.mpr c27; have c27b1 : (a1 != 6) = false := bne_eq_false_iff_eq.mpr c27; clear c27; replace H := Option.bind_eq_some_iff.mp H; obtain ⟨t221, A280, H⟩ := H; replace H : (some (t221, 0)) = some (r1, r2) := H; have A28 := Aside0.mk A280; clear A280; simp only [Option.some.injEq, Prod.mk.injEq] at H; obtain ⟨rfl, rfl⟩ := H
        go_enter Tryd.func77, Tryd.ntmps77
        go_wp2_with (first | ((with_reducible refine gate_callee (f := 78) rfl ?_); refine goesL_ (some 42) rfl rfl Tryd.func78 (by kernel_rfl) rfl #[.string (⟨#[67, 76, 67, 32, 83, 69, 67, 32, 67, 76, 73, 32, 83, 69, 73, 32, 84, 89, 65, 32, 67, 76, 86, 32, 67, 76, 68, 32, 83, 69, 68]⟩ : ByteArray), .int .i64 a0] rfl (by (try simp only [List.map_toArray, List.map_cons, List.map_nil]); first | done | rfl | (simp only [List.length_drop, List.length_take]; rfl)) ?_; (with_reducible refine (impl_word.calls (⟨#[67, 76, 67, 32, 83, 69, 67, 32, 67, 76, 73, 32, 83, 69, 73, 32, 84, 89, 65, 32, 67, 76, 86, 32, 67, 76, 68, 32, 83, 69, 68]⟩ : ByteArray) a0 t221 _ A28.out (Giv.at_ HT (by repeat (first | (with_reducible first | exact HB.out | apply below_alloc | apply pw_below_drewN | apply below_drew1) | exact HB.out)))).mono ?_); rintro e w29 ⟨rfl, hb⟩; refine ⟨_, rfl, ?_⟩; have n0_ := Aside0.mk (below_step (by repeat (first | (with_reducible first | exact HB.out | apply below_alloc | apply pw_below_drewN | apply below_drew1) | exact HB.out)) hb); clear HB; have HB := n0_; clear n0_; (try clear hb); (try clear hb2); (try clear hk); (try clear hi)))
        go_ret2
        exact ⟨by first | rfl | (simp [errW_none, errW_some] <;> rfl) | (simp [*, errW_none, errW_some] <;> rfl), by repeat (first | (with_reducible first | exact HB.out | apply below_alloc | apply pw_below_drewN | apply below_drew1) | exact HB.out)⟩
       ·rw [if_neg c27] at H
        have c27b0 : (a1 == 6) = false := beq_eq_false_iff_ne.mpr c27; have c27b1 : (a1 != 6) = true := bne_iff_ne.mpr c27; replace H := Option.bind_eq_some_iff.mp H; obtain ⟨t222, A300, H⟩ := H; replace H : (some (t222, 7)) = some (r1, r2) := H; have A30 := Aside0.mk A300; clear A300; simp only [Option.some.injEq, Prod.mk.injEq] at H; obtain ⟨rfl, rfl⟩ := H
        go_enter Tryd.func77, Tryd.ntmps77
        go_wp2_with (first | ((with_reducible refine gate_callee (f := 78) rfl ?_); refine goesL_ (some 44) rfl rfl Tryd.func78 (by kernel_rfl) rfl #[.string (⟨#[46, 32, 46, 32, 46, 32, 46, 32, 46, 32, 76, 68, 89, 32, 46, 32, 46]⟩ : ByteArray), .int .i64 a0] rfl (by (try simp only [List.map_toArray, List.map_cons, List.map_nil]); first | done | rfl | (simp only [List.length_drop, List.length_take]; rfl)) ?_; (with_reducible refine (impl_word.calls (⟨#[46, 32, 46, 32, 46, 32, 46, 32, 46, 32, 76, 68, 89, 32, 46, 32, 46]⟩ : ByteArray) a0 t222 _ A30.out (Giv.at_ HT (by repeat (first | (with_reducible first | exact HB.out | apply below_alloc | apply pw_below_drewN | apply below_drew1) | exact HB.out)))).mono ?_); rintro e w31 ⟨rfl, hb⟩; refine ⟨_, rfl, ?_⟩; have n0_ := Aside0.mk (below_step (by repeat (first | (with_reducible first | exact HB.out | apply below_alloc | apply pw_below_drewN | apply below_drew1) | exact HB.out)) hb); clear HB; have HB := n0_; clear n0_; (try clear hb); (try clear hb2); (try clear hk); (try clear hi)))
        go_ret2
        exact ⟨by first | rfl | (simp [errW_none, errW_some] <;> rfl) | (simp [*, errW_none, errW_some] <;> rfl), by repeat (first | (with_reducible first | exact HB.out | apply below_alloc | apply pw_below_drewN | apply below_drew1) | exact HB.out)⟩

end Go.Proofs.YtfbhgmpgkhmikaaDoor.ML
