-- Written by this session's own program (wip/myprint.py) over the kit's print of the translation. Lean checks it.
import Derived.Test.YtlglpolokcnlhaaDoorMKx0
import Derived.Test.YtlglpolokcnlhaaDoorMKx2
import Derived.Test.YtlglpolokcnlhaaDoorMKx3
import Derived.Test.YtlglpolokcnlhaaDoorMKx6
import Derived.Test.YtlglpolokcnlhaaDoorMKx8
namespace Go.Proofs.YtlglpolokcnlhaaDoor.MK
open Go.RowKit Go.Proofs.YtlglpolokcnlhaaDoorW.PrintWords Go.Proofs.YtlglpolokcnlhaaDoorW.PrintLast Go.Proofs.YtlglpolokcnlhaaDoorW.PrintMore
attribute [local go_sem] max2_int min2_int max_two min_two max_three min_three max_four min_four   -- for this text's walks alone
set_option linter.unusedVariables false
set_option linter.unusedSimpArgs false

/-! ### spec_DrawListing: function 22 -/
def spec_DrawListing.f (k : Nat) (l0 : List Int) : Option (List Int × Int) := (spec_l01New.f k l0).bind fun bt356 => ((spec_l01Below.f bt356.1 bt356.2.1 bt356.2.2 8).bind fun bt360 => ((spec_l04Bytes.f k bt356.1 bt360.2.1 bt360.2.2 bt360.1).bind fun bt363 => ((spec_l01Once.f bt356.1 bt363.2.1 bt363.2.2 20).bind fun bt368 => (if bt368.1 = true then ((spec_l01Below.f bt356.1 bt368.2.1 bt368.2.2 3).bind fun bt371 => (if 0 ≤ (wrap64 (1023 + bt371.1)) then (if (wrap64 (1023 + bt371.1) : Int).toNat ≤ 281474976710656 then ((spec_l04Pc.f bt356.1 bt371.2.1 bt371.2.2).bind fun bt377 => (some ((List.replicate (wrap64 (1023 + bt371.1) : Int).toNat 0), bt377.1))) else (none)) else (none))) else ((spec_l04Pc.f bt356.1 bt368.2.1 bt368.2.2).bind fun bt380 => (some (bt363.1, bt380.1)))))))
theorem spec_DrawListing.mono : ∀ a0 k, LeO (spec_DrawListing.f k a0) (spec_DrawListing.f (k + 1) a0) := by
 intro a0 k
 unfold spec_DrawListing.f
 repeat' first
   | (with_reducible exact spec_l01New.mono _ _)
   | (with_reducible exact spec_l04Bytes.mono _ _ _ _ _)
   | (with_reducible exact LeO.refl _)
   | (with_reducible exact LeO.none _)
   | (with_reducible refine LeO.ite ?_ ?_)
   | (with_reducible refine LeO.bind ?_ (fun _ => ?_))
   | exact spec_l01New.mono _ _
   | exact spec_l04Bytes.mono _ _ _ _ _
   | exact LeO.none _
   | refine LeO.ite ?_ ?_
   | refine LeO.bind ?_ (fun _ => ?_)
set_option maxHeartbeats 8000000 in
set_option maxRecDepth 100000 in
theorem spec_DrawListing.calls (k : Nat) (A0 : Option Addr) (c0 : Nat) (l0 : List Int) (r1 : List Int) (r2 : Int) (w : World) (hr0 : Kd.C (Kd.int .u8) w A0 l0.length l0) (hc0 : l0.length ≤ c0) (h : spec_DrawListing.f k l0 = some (r1, r2)) :
  Calls Tryd.prog 22 #[.slice A0 l0.length c0] w fun e w' => ∃ v0_ : Value, e = .returned (.tuple #[v0_, .int .u16 r2]) ∧ Kd.R (Kd.int .u8) 5 w' w.heap.size (fun _ => True) v0_ r1 ∧ Below w.heap.size w w' := by
 have HR0 := Aside0.mk hr0
 have HC0 := Aside0.mk hc0
 clear hr0 hc0
 have HB := Aside0.mk (Below.refl w.heap.size w)
 have H : ((spec_l01New.f k l0).bind fun bt356 => ((spec_l01Below.f bt356.1 bt356.2.1 bt356.2.2 8).bind fun bt360 => ((spec_l04Bytes.f k bt356.1 bt360.2.1 bt360.2.2 bt360.1).bind fun bt363 => ((spec_l01Once.f bt356.1 bt363.2.1 bt363.2.2 20).bind fun bt368 => (if bt368.1 = true then ((spec_l01Below.f bt356.1 bt368.2.1 bt368.2.2 3).bind fun bt371 => (if 0 ≤ (wrap64 (1023 + bt371.1)) then (if (wrap64 (1023 + bt371.1) : Int).toNat ≤ 281474976710656 then ((spec_l04Pc.f bt356.1 bt371.2.1 bt371.2.2).bind fun bt377 => (some ((List.replicate (wrap64 (1023 + bt371.1) : Int).toNat 0), bt377.1))) else (none)) else (none))) else ((spec_l04Pc.f bt356.1 bt368.2.1 bt368.2.2).bind fun bt380 => (some (bt363.1, bt380.1)))))))) = some (r1, r2) := h
 clear h
 replace H := Option.bind_eq_some_iff.mp H
 obtain ⟨⟨t356, t357, t358⟩, A20, H⟩ := H
 replace H : ((spec_l01Below.f t356 t357 t358 8).bind fun bt360 => ((spec_l04Bytes.f k t356 bt360.2.1 bt360.2.2 bt360.1).bind fun bt363 => ((spec_l01Once.f t356 bt363.2.1 bt363.2.2 20).bind fun bt368 => (if bt368.1 = true then ((spec_l01Below.f t356 bt368.2.1 bt368.2.2 3).bind fun bt371 => (if 0 ≤ (wrap64 (1023 + bt371.1)) then (if (wrap64 (1023 + bt371.1) : Int).toNat ≤ 281474976710656 then ((spec_l04Pc.f t356 bt371.2.1 bt371.2.2).bind fun bt377 => (some ((List.replicate (wrap64 (1023 + bt371.1) : Int).toNat 0), bt377.1))) else (none)) else (none))) else ((spec_l04Pc.f t356 bt368.2.1 bt368.2.2).bind fun bt380 => (some (bt363.1, bt380.1))))))) = some (r1, r2) := H
 have A2 := Aside0.mk A20
 clear A20
 replace H := Option.bind_eq_some_iff.mp H
 obtain ⟨⟨t360, t361, t362⟩, A30, H⟩ := H
 replace H : ((spec_l04Bytes.f k t356 t361 t362 t360).bind fun bt363 => ((spec_l01Once.f t356 bt363.2.1 bt363.2.2 20).bind fun bt368 => (if bt368.1 = true then ((spec_l01Below.f t356 bt368.2.1 bt368.2.2 3).bind fun bt371 => (if 0 ≤ (wrap64 (1023 + bt371.1)) then (if (wrap64 (1023 + bt371.1) : Int).toNat ≤ 281474976710656 then ((spec_l04Pc.f t356 bt371.2.1 bt371.2.2).bind fun bt377 => (some ((List.replicate (wrap64 (1023 + bt371.1) : Int).toNat 0), bt377.1))) else (none)) else (none))) else ((spec_l04Pc.f t356 bt368.2.1 bt368.2.2).bind fun bt380 => (some (bt363.1, bt380.1)))))) = some (r1, r2) := H
 have A3 := Aside0.mk A30
 clear A30
 replace H := Option.bind_eq_some_iff.mp H
 obtain ⟨⟨t363, t366, t367⟩, A40, H⟩ := H
 replace H : ((spec_l01Once.f t356 t366 t367 20).bind fun bt368 => (if bt368.1 = true then ((spec_l01Below.f t356 bt368.2.1 bt368.2.2 3).bind fun bt371 => (if 0 ≤ (wrap64 (1023 + bt371.1)) then (if (wrap64 (1023 + bt371.1) : Int).toNat ≤ 281474976710656 then ((spec_l04Pc.f t356 bt371.2.1 bt371.2.2).bind fun bt377 => (some ((List.replicate (wrap64 (1023 + bt371.1) : Int).toNat 0), bt377.1))) else (none)) else (none))) else ((spec_l04Pc.f t356 bt368.2.1 bt368.2.2).bind fun bt380 => (some (t363, bt380.1))))) = some (r1, r2) := H
 have A4 := Aside0.mk A40
 clear A40
 replace H := Option.bind_eq_some_iff.mp H
 obtain ⟨⟨t368, t369, t370⟩, A50, H⟩ := H
 replace H : (if t368 = true then ((spec_l01Below.f t356 t369 t370 3).bind fun bt371 => (if 0 ≤ (wrap64 (1023 + bt371.1)) then (if (wrap64 (1023 + bt371.1) : Int).toNat ≤ 281474976710656 then ((spec_l04Pc.f t356 bt371.2.1 bt371.2.2).bind fun bt377 => (some ((List.replicate (wrap64 (1023 + bt371.1) : Int).toNat 0), bt377.1))) else (none)) else (none))) else ((spec_l04Pc.f t356 t369 t370).bind fun bt380 => (some (t363, bt380.1)))) = some (r1, r2) := H
 have A5 := Aside0.mk A50
 clear A50
 by_cases c6 : t368 = true
 ·subst c6
  have H1 : ((spec_l01Below.f t356 t369 t370 3).bind fun bt371 => (if 0 ≤ (wrap64 (1023 + bt371.1)) then (if (wrap64 (1023 + bt371.1) : Int).toNat ≤ 281474976710656 then ((spec_l04Pc.f t356 bt371.2.1 bt371.2.2).bind fun bt377 => (some ((List.replicate (wrap64 (1023 + bt371.1) : Int).toNat 0), bt377.1))) else (none)) else (none))) = some (r1, r2) := by rw [if_pos rfl] at H; exact H
  clear H
  have H := H1
  clear H1
  replace H := Option.bind_eq_some_iff.mp H
  obtain ⟨⟨t371, t372, t373⟩, A70, H⟩ := H
  replace H : (if 0 ≤ (wrap64 (1023 + t371)) then (if (wrap64 (1023 + t371) : Int).toNat ≤ 281474976710656 then ((spec_l04Pc.f t356 t372 t373).bind fun bt377 => (some ((List.replicate (wrap64 (1023 + t371) : Int).toNat 0), bt377.1))) else (none)) else (none)) = some (r1, r2) := H
  have A7 := Aside0.mk A70
  clear A70
  obtain ⟨ji8, hji8⟩ : ∃ j_ : Int, (wrap64 (1023 + t371)) = j_ := ⟨_, rfl⟩
  replace H : (if 0 ≤ (ji8) then (if (ji8 : Int).toNat ≤ 281474976710656 then ((spec_l04Pc.f t356 t372 t373).bind fun bt377 => (some ((List.replicate (ji8 : Int).toNat 0), bt377.1))) else (none)) else (none)) = some (r1, r2) := by first | (rw [hji8] at H; exact H) | (simp only [hji8] at H ⊢; exact H)
  (try rw [hji8] at A2)
  (try rw [hji8] at A3)
  (try rw [hji8] at A4)
  (try rw [hji8] at A5)
  (try rw [hji8] at A7)
  have hji8w : (IntKind.i64.wrap (1023 + t371)) = ji8 := (i64_w _).trans hji8
  by_cases c9 : 0 ≤ (ji8)
  ·rw [if_pos c9] at H
   have c9b0 := eq_true c9
   have c9b1 : decide (0 ≤ (ji8)) = true := decide_eq_true c9
   clear c9
   by_cases c10 : (ji8 : Int).toNat ≤ 281474976710656
   ·rw [if_pos c10] at H
    have c10b0 := eq_true c10
    have c10b1 : decide ((ji8 : Int).toNat ≤ 281474976710656) = true := decide_eq_true c10
    clear c10
    obtain ⟨y374, hy374⟩ : ∃ y_ : List Int, y_ = (List.replicate (ji8 : Int).toNat 0) := ⟨_, rfl⟩
    replace H : ((spec_l04Pc.f t356 t372 t373).bind fun bt377 => (some (y374, bt377.1))) = some (r1, r2) := by first | (rw [hy374]; with_reducible exact H) | (have H2_ := (Option.bind_some _ _).symm.trans H; rw [hy374]; with_reducible exact H2_) | (have H2_ := (Option.bind_some _ _).symm.trans H; with_reducible exact H2_) | with_reducible exact H | (rw [hy374]; exact H) | exact H
    have Ny374 := Aside0.mk hy374
    clear hy374
    replace H := Option.bind_eq_some_iff.mp H
    obtain ⟨⟨t377, t378, t379⟩, A110, H⟩ := H
    replace H : (some (y374, t377)) = some (r1, r2) := H
    have A11 := Aside0.mk A110
    clear A110
    simp only [Option.some.injEq, Prod.mk.injEq] at H
    obtain ⟨rfl, rfl⟩ := H
    go_enter Tryd.func22, Tryd.ntmps22
    go_wp2_with (first | ((with_reducible refine gate_callee (f := 38) rfl ?_); refine goesL_ (some 7) rfl rfl Tryd.func38 (by kernel_rfl) rfl #[.slice A0 l0.length c0] rfl (by (try simp only [List.map_toArray, List.map_cons, List.map_nil]); first | done | rfl | (simp only [List.length_drop, List.length_take]; rfl)) ?_; (with_reducible refine (spec_l01New.calls k _ _ l0 t356 t357 t358 w _ ?side1 ?side2 ?side3 A2.out).mono ?_); (case side1 => repeat (first | (with_reducible first | exact HB.out | apply below_alloc | apply pw_below_drewN | apply below_drew1) | exact HB.out)); (case side2 => exact HR0.out); (case side3 => exact HC0.out); rintro e w12 ⟨g359, rfl, hi, hb, hb2⟩; refine ⟨_, rfl, ?_⟩; have n0_ := Aside0.mk (hb); have n1_ := Aside0.mk (hi); clear HB; have HB := n0_; have HI359 := n1_; clear n0_ n1_; (try clear hb); (try clear hb2); (try clear hk); (try clear hi)) | ((with_reducible refine gate_callee (f := 41) rfl ?_); refine goesL_ (some 10) rfl rfl Tryd.func41 (by kernel_rfl) rfl #[.pointer (some ⟨g359, 0, none⟩), .int .i64 8] rfl (by (try simp only [List.map_toArray, List.map_cons, List.map_nil]); first | done | rfl | (simp only [List.length_drop, List.length_take]; rfl)) ?_; (with_reducible refine (spec_l01Below.calls g359 t356 t357 t358 8 t360 t361 t362 w _ ?side1 ?side2 A3.out).mono ?_); (case side1 => repeat (first | (with_reducible first | exact HI359.out | apply IsS73.alloc | apply IsS73.drewN | apply IsS73.drew | apply IsS73.set_1 | apply IsS73.set_2) | exact HI359.out)); (case side2 => repeat (first | (with_reducible first | exact HB.out | apply below_alloc | apply pw_below_drewN | apply below_drew1 | refine below_set ?_ (IsS73.ge HI359.out)) | exact HB.out)); rintro e w13 ⟨rfl, hi, hb, hk⟩; refine ⟨_, rfl, ?_⟩; have n0_ := Aside0.mk (hb); have n1_ := Aside0.mk (hi); clear HB; clear HI359; have HB := n0_; have HI359 := n1_; clear n0_ n1_; (try clear hb); (try clear hb2); (try clear hk); (try clear hi)) | ((with_reducible refine gate_callee (f := 39) rfl ?_); refine goesL_ (some 11) rfl rfl Tryd.func39 (by kernel_rfl) rfl #[.pointer (some ⟨g359, 0, none⟩), .int .i64 t360] rfl (by (try simp only [List.map_toArray, List.map_cons, List.map_nil]); first | done | rfl | (simp only [List.length_drop, List.length_take]; rfl)) ?_; (with_reducible refine (spec_l04Bytes.calls k g359 t356 t361 t362 t360 t363 t366 t367 w _ ?side1 ?side2 A4.out).mono ?_); (case side1 => repeat (first | (with_reducible first | exact HI359.out | apply IsS73.alloc | apply IsS73.drewN | apply IsS73.drew | apply IsS73.set_1 | apply IsS73.set_2) | exact HI359.out)); (case side2 => repeat (first | (with_reducible first | exact HB.out | apply below_alloc | apply pw_below_drewN | apply below_drew1 | refine below_set ?_ (IsS73.ge HI359.out)) | exact HB.out)); rintro e w14 ⟨v364, rfl, ho0, hi, hb, hk⟩; refine ⟨_, rfl, ?_⟩; have n0_ := Aside0.mk (Kd.R_lower ho0 (below_size (by repeat (first | (with_reducible first | exact HB.out | apply below_alloc | apply pw_below_drewN | apply below_drew1 | refine below_set ?_ (IsS73.ge HI359.out)) | exact HB.out)))); have n1_ := Aside0.mk (hb); have n2_ := Aside0.mk (hi); clear HB; clear HI359; have HO365 := n0_; have HB := n1_; have HI359 := n2_; clear n0_ n1_ n2_; (try clear hb); (try clear hb2); (try clear hk); (try clear hi); (try clear ho0)) | ((with_reducible refine gate_callee (f := 40) rfl ?_); refine goesL_ (some 13) rfl rfl Tryd.func40 (by kernel_rfl) rfl #[.pointer (some ⟨g359, 0, none⟩), .int .i64 20] rfl (by (try simp only [List.map_toArray, List.map_cons, List.map_nil]); first | done | rfl | (simp only [List.length_drop, List.length_take]; rfl)) ?_; (with_reducible refine (spec_l01Once.calls g359 t356 t366 t367 20 true t369 t370 w _ ?side1 ?side2 A5.out).mono ?_); (case side1 => repeat (first | (with_reducible first | exact HI359.out | apply IsS73.alloc | apply IsS73.drewN | apply IsS73.drew | apply IsS73.set_1 | apply IsS73.set_2) | exact HI359.out)); (case side2 => repeat (first | (with_reducible first | exact HB.out | apply below_alloc | apply pw_below_drewN | apply below_drew1 | refine below_set ?_ (IsS73.ge HI359.out)) | exact HB.out)); rintro e w15 ⟨rfl, hi, hb, hk⟩; refine ⟨_, rfl, ?_⟩; have n0_ := Aside0.mk (Kd.R_mono (Kd.R_keep (IsS73.apart (show IsS73 w _ g359 t356 t366 t367 from by repeat (first | (with_reducible first | exact HI359.out | apply IsS73.alloc | apply IsS73.drewN | apply IsS73.drew | apply IsS73.set_1 | apply IsS73.set_2) | exact HI359.out)) (by (with_reducible repeat (first | apply Kd.R_alloc | apply Kd.R_drewN | apply Kd.R_drew)); exact HO365.out) (by decide)) hk (fun _ h => h.2)) (fun _ h => h.1)); have n1_ := Aside0.mk (hb); have n2_ := Aside0.mk (hi); clear HO365; clear HB; clear HI359; have HO365 := n0_; have HB := n1_; have HI359 := n2_; clear n0_ n1_ n2_; (try clear hb); (try clear hb2); (try clear hk); (try clear hi)) | ((with_reducible refine gate_callee (f := 41) rfl ?_); refine goesL_ (some 15) rfl rfl Tryd.func41 (by kernel_rfl) rfl #[.pointer (some ⟨g359, 0, none⟩), .int .i64 3] rfl (by (try simp only [List.map_toArray, List.map_cons, List.map_nil]); first | done | rfl | (simp only [List.length_drop, List.length_take]; rfl)) ?_; (with_reducible refine (spec_l01Below.calls g359 t356 t369 t370 3 t371 t372 t373 w _ ?side1 ?side2 A7.out).mono ?_); (case side1 => repeat (first | (with_reducible first | exact HI359.out | apply IsS73.alloc | apply IsS73.drewN | apply IsS73.drew | apply IsS73.set_1 | apply IsS73.set_2) | exact HI359.out)); (case side2 => repeat (first | (with_reducible first | exact HB.out | apply below_alloc | apply pw_below_drewN | apply below_drew1 | refine below_set ?_ (IsS73.ge HI359.out)) | exact HB.out)); rintro e w16 ⟨rfl, hi, hb, hk⟩; refine ⟨_, rfl, ?_⟩; have n0_ := Aside0.mk (Kd.R_mono (Kd.R_keep (IsS73.apart (show IsS73 w _ g359 t356 t369 t370 from by repeat (first | (with_reducible first | exact HI359.out | apply IsS73.alloc | apply IsS73.drewN | apply IsS73.drew | apply IsS73.set_1 | apply IsS73.set_2) | exact HI359.out)) (by (with_reducible repeat (first | apply Kd.R_alloc | apply Kd.R_drewN | apply Kd.R_drew)); exact HO365.out) (by decide)) hk (fun _ h => h.2)) (fun _ h => h.1)); have n1_ := Aside0.mk (hb); have n2_ := Aside0.mk (hi); clear HO365; clear HB; clear HI359; have HO365 := n0_; have HB := n1_; have HI359 := n2_; clear n0_ n1_ n2_; (try clear hb); (try clear hb2); (try clear hk); (try clear hi)) | ((with_reducible refine gate_dst (N := 17) rfl ?_); refine Kd.R_make (Kd.int .u8) _ 5 rfl (N := 17) rfl 23 _ _ rfl ji8 rfl rfl Tryd.underlying23 (.int .u8 0) 1 info5 rfl (by decide) (by omega) 0 (ok := fun _ => True) (okp := fun _ => True) rfl (fun _ hk => hk) trivial (of_decide_eq_true (by first | (with_reducible assumption) | assumption)) (Nat.le_trans (Nat.mul_le_mul_right _ (of_decide_eq_true (by first | (with_reducible assumption) | assumption) : ji8.toNat ≤ 281474976710656)) (by omega)) (Below.refl _ _) (Nat.le_refl _) ?_; intro v375 w17 ho18 hb hg_ hnew_; clear hg_ hnew_; (first | rw [← Ny374.out] at ho18 | (simp only [Int.reduceToNat] at ho18; rw [← Ny374.out] at ho18)); have n0_ := Aside0.mk (Kd.R_elder' (by (with_reducible repeat (first | apply Kd.R_alloc | apply Kd.R_drewN | apply Kd.R_drew)); exact HO365.out) (Kd.R_base ho18) hb); have n1_ := Aside0.mk (Kd.R_lower (Kd.R_new' ho18 (Kd.R_lt (by (with_reducible repeat (first | apply Kd.R_alloc | apply Kd.R_drewN | apply Kd.R_drew)); exact HO365.out))) (below_size (by repeat (first | (with_reducible first | exact HB.out | apply below_alloc | apply pw_below_drewN | apply below_drew1 | refine below_set ?_ (IsS73.ge HI359.out)) | exact HB.out)))); have n2_ := Aside0.mk (IsS73.below (by repeat (first | (with_reducible first | exact HI359.out | apply IsS73.alloc | apply IsS73.drewN | apply IsS73.drew | apply IsS73.set_1 | apply IsS73.set_2) | exact HI359.out)) hb); have n3_ := Aside0.mk (below_step (by repeat (first | (with_reducible first | exact HB.out | apply below_alloc | apply pw_below_drewN | apply below_drew1 | refine below_set ?_ (IsS73.ge HI359.out)) | exact HB.out)) hb); clear HO365; clear HI359; clear HB; have HO365 := n0_; have HO376 := n1_; have HI359 := n2_; have HB := n3_; clear n0_ n1_ n2_ n3_; clear hb ho18) | ((with_reducible refine gate_callee (f := 42) rfl ?_); refine goesL_ (some 20) rfl rfl Tryd.func42 (by kernel_rfl) rfl #[.pointer (some ⟨g359, 0, none⟩)] rfl (by (try simp only [List.map_toArray, List.map_cons, List.map_nil]); first | done | rfl | (simp only [List.length_drop, List.length_take]; rfl)) ?_; (with_reducible refine (spec_l04Pc.calls g359 t356 t372 t373 t377 t378 t379 w _ ?side1 ?side2 A11.out).mono ?_); (case side1 => repeat (first | (with_reducible first | exact HI359.out | apply IsS73.alloc | apply IsS73.drewN | apply IsS73.drew | apply IsS73.set_1 | apply IsS73.set_2) | exact HI359.out)); (case side2 => repeat (first | (with_reducible first | exact HB.out | apply below_alloc | apply pw_below_drewN | apply below_drew1 | refine below_set ?_ (IsS73.ge HI359.out)) | exact HB.out)); rintro e w19 ⟨rfl, hi, hb, hk⟩; refine ⟨_, rfl, ?_⟩; have n0_ := Aside0.mk (Kd.R_mono (Kd.R_keep (IsS73.apart (show IsS73 w _ g359 t356 t372 t373 from by repeat (first | (with_reducible first | exact HI359.out | apply IsS73.alloc | apply IsS73.drewN | apply IsS73.drew | apply IsS73.set_1 | apply IsS73.set_2) | exact HI359.out)) (by (with_reducible repeat (first | apply Kd.R_alloc | apply Kd.R_drewN | apply Kd.R_drew)); exact HO365.out) (by decide)) hk (fun _ h => h.2)) (fun _ h => h.1)); have n1_ := Aside0.mk (Kd.R_mono (Kd.R_keep (IsS73.apart (show IsS73 w _ g359 t356 t372 t373 from by repeat (first | (with_reducible first | exact HI359.out | apply IsS73.alloc | apply IsS73.drewN | apply IsS73.drew | apply IsS73.set_1 | apply IsS73.set_2) | exact HI359.out)) (by (with_reducible repeat (first | apply Kd.R_alloc | apply Kd.R_drewN | apply Kd.R_drew)); exact HO376.out) (by decide)) hk (fun _ h => h.2)) (fun _ h => h.1)); have n2_ := Aside0.mk (hb); have n3_ := Aside0.mk (hi); clear HO365; clear HO376; clear HB; clear HI359; have HO365 := n0_; have HO376 := n1_; have HB := n2_; have HI359 := n3_; clear n0_ n1_ n2_ n3_; (try clear hb); (try clear hb2); (try clear hk); (try clear hi)))
    go_ret2
    exact ⟨_, by first | rfl | (simp [errW_none, errW_some] <;> rfl) | (simp only [← hji8]; first | rfl | (simp [errW_none, errW_some] <;> rfl)) | (simp [*, errW_none, errW_some] <;> rfl), by (with_reducible repeat (first | apply Kd.R_alloc | apply Kd.R_drewN | apply Kd.R_drew)); exact Kd.R_mono HO376.out (fun _ hk => trivial), by repeat (first | (with_reducible first | exact HB.out | apply below_alloc | apply pw_below_drewN | apply below_drew1 | refine below_set ?_ (IsS73.ge HI359.out)) | exact HB.out)⟩
   ·rw [if_neg c10] at H
    exact absurd H (by simp)
  ·rw [if_neg c9] at H
   exact absurd H (by simp)
 ·replace c6 := Bool.eq_false_iff.mpr c6
  subst c6
  have H1 : ((spec_l04Pc.f t356 t369 t370).bind fun bt380 => (some (t363, bt380.1))) = some (r1, r2) := by rw [if_neg (show ¬ (false = true) by decide)] at H; exact H
  clear H
  have H := H1
  clear H1
  replace H := Option.bind_eq_some_iff.mp H
  obtain ⟨⟨t380, t381, t382⟩, A200, H⟩ := H
  replace H : (some (t363, t380)) = some (r1, r2) := H
  have A20 := Aside0.mk A200
  clear A200
  simp only [Option.some.injEq, Prod.mk.injEq] at H
  obtain ⟨rfl, rfl⟩ := H
  go_enter Tryd.func22, Tryd.ntmps22
  go_wp2_with (first | ((with_reducible refine gate_callee (f := 38) rfl ?_); refine goesL_ (some 7) rfl rfl Tryd.func38 (by kernel_rfl) rfl #[.slice A0 l0.length c0] rfl (by (try simp only [List.map_toArray, List.map_cons, List.map_nil]); first | done | rfl | (simp only [List.length_drop, List.length_take]; rfl)) ?_; (with_reducible refine (spec_l01New.calls k _ _ l0 t356 t357 t358 w _ ?side1 ?side2 ?side3 A2.out).mono ?_); (case side1 => repeat (first | (with_reducible first | exact HB.out | apply below_alloc | apply pw_below_drewN | apply below_drew1) | exact HB.out)); (case side2 => exact HR0.out); (case side3 => exact HC0.out); rintro e w21 ⟨g359, rfl, hi, hb, hb2⟩; refine ⟨_, rfl, ?_⟩; have n0_ := Aside0.mk (hb); have n1_ := Aside0.mk (hi); clear HB; have HB := n0_; have HI359 := n1_; clear n0_ n1_; (try clear hb); (try clear hb2); (try clear hk); (try clear hi)) | ((with_reducible refine gate_callee (f := 41) rfl ?_); refine goesL_ (some 10) rfl rfl Tryd.func41 (by kernel_rfl) rfl #[.pointer (some ⟨g359, 0, none⟩), .int .i64 8] rfl (by (try simp only [List.map_toArray, List.map_cons, List.map_nil]); first | done | rfl | (simp only [List.length_drop, List.length_take]; rfl)) ?_; (with_reducible refine (spec_l01Below.calls g359 t356 t357 t358 8 t360 t361 t362 w _ ?side1 ?side2 A3.out).mono ?_); (case side1 => repeat (first | (with_reducible first | exact HI359.out | apply IsS73.alloc | apply IsS73.drewN | apply IsS73.drew | apply IsS73.set_1 | apply IsS73.set_2) | exact HI359.out)); (case side2 => repeat (first | (with_reducible first | exact HB.out | apply below_alloc | apply pw_below_drewN | apply below_drew1 | refine below_set ?_ (IsS73.ge HI359.out)) | exact HB.out)); rintro e w22 ⟨rfl, hi, hb, hk⟩; refine ⟨_, rfl, ?_⟩; have n0_ := Aside0.mk (hb); have n1_ := Aside0.mk (hi); clear HB; clear HI359; have HB := n0_; have HI359 := n1_; clear n0_ n1_; (try clear hb); (try clear hb2); (try clear hk); (try clear hi)) | ((with_reducible refine gate_callee (f := 39) rfl ?_); refine goesL_ (some 11) rfl rfl Tryd.func39 (by kernel_rfl) rfl #[.pointer (some ⟨g359, 0, none⟩), .int .i64 t360] rfl (by (try simp only [List.map_toArray, List.map_cons, List.map_nil]); first | done | rfl | (simp only [List.length_drop, List.length_take]; rfl)) ?_; (with_reducible refine (spec_l04Bytes.calls k g359 t356 t361 t362 t360 t363 t366 t367 w _ ?side1 ?side2 A4.out).mono ?_); (case side1 => repeat (first | (with_reducible first | exact HI359.out | apply IsS73.alloc | apply IsS73.drewN | apply IsS73.drew | apply IsS73.set_1 | apply IsS73.set_2) | exact HI359.out)); (case side2 => repeat (first | (with_reducible first | exact HB.out | apply below_alloc | apply pw_below_drewN | apply below_drew1 | refine below_set ?_ (IsS73.ge HI359.out)) | exact HB.out)); rintro e w23 ⟨v364, rfl, ho0, hi, hb, hk⟩; refine ⟨_, rfl, ?_⟩; have n0_ := Aside0.mk (Kd.R_lower ho0 (below_size (by repeat (first | (with_reducible first | exact HB.out | apply below_alloc | apply pw_below_drewN | apply below_drew1 | refine below_set ?_ (IsS73.ge HI359.out)) | exact HB.out)))); have n1_ := Aside0.mk (hb); have n2_ := Aside0.mk (hi); clear HB; clear HI359; have HO365 := n0_; have HB := n1_; have HI359 := n2_; clear n0_ n1_ n2_; (try clear hb); (try clear hb2); (try clear hk); (try clear hi); (try clear ho0)) | ((with_reducible refine gate_callee (f := 40) rfl ?_); refine goesL_ (some 13) rfl rfl Tryd.func40 (by kernel_rfl) rfl #[.pointer (some ⟨g359, 0, none⟩), .int .i64 20] rfl (by (try simp only [List.map_toArray, List.map_cons, List.map_nil]); first | done | rfl | (simp only [List.length_drop, List.length_take]; rfl)) ?_; (with_reducible refine (spec_l01Once.calls g359 t356 t366 t367 20 false t369 t370 w _ ?side1 ?side2 A5.out).mono ?_); (case side1 => repeat (first | (with_reducible first | exact HI359.out | apply IsS73.alloc | apply IsS73.drewN | apply IsS73.drew | apply IsS73.set_1 | apply IsS73.set_2) | exact HI359.out)); (case side2 => repeat (first | (with_reducible first | exact HB.out | apply below_alloc | apply pw_below_drewN | apply below_drew1 | refine below_set ?_ (IsS73.ge HI359.out)) | exact HB.out)); rintro e w24 ⟨rfl, hi, hb, hk⟩; refine ⟨_, rfl, ?_⟩; have n0_ := Aside0.mk (Kd.R_mono (Kd.R_keep (IsS73.apart (show IsS73 w _ g359 t356 t366 t367 from by repeat (first | (with_reducible first | exact HI359.out | apply IsS73.alloc | apply IsS73.drewN | apply IsS73.drew | apply IsS73.set_1 | apply IsS73.set_2) | exact HI359.out)) (by (with_reducible repeat (first | apply Kd.R_alloc | apply Kd.R_drewN | apply Kd.R_drew)); exact HO365.out) (by decide)) hk (fun _ h => h.2)) (fun _ h => h.1)); have n1_ := Aside0.mk (hb); have n2_ := Aside0.mk (hi); clear HO365; clear HB; clear HI359; have HO365 := n0_; have HB := n1_; have HI359 := n2_; clear n0_ n1_ n2_; (try clear hb); (try clear hb2); (try clear hk); (try clear hi)) | ((with_reducible refine gate_callee (f := 42) rfl ?_); refine goesL_ (some 20) rfl rfl Tryd.func42 (by kernel_rfl) rfl #[.pointer (some ⟨g359, 0, none⟩)] rfl (by (try simp only [List.map_toArray, List.map_cons, List.map_nil]); first | done | rfl | (simp only [List.length_drop, List.length_take]; rfl)) ?_; (with_reducible refine (spec_l04Pc.calls g359 t356 t369 t370 t380 t381 t382 w _ ?side1 ?side2 A20.out).mono ?_); (case side1 => repeat (first | (with_reducible first | exact HI359.out | apply IsS73.alloc | apply IsS73.drewN | apply IsS73.drew | apply IsS73.set_1 | apply IsS73.set_2) | exact HI359.out)); (case side2 => repeat (first | (with_reducible first | exact HB.out | apply below_alloc | apply pw_below_drewN | apply below_drew1 | refine below_set ?_ (IsS73.ge HI359.out)) | exact HB.out)); rintro e w25 ⟨rfl, hi, hb, hk⟩; refine ⟨_, rfl, ?_⟩; have n0_ := Aside0.mk (Kd.R_mono (Kd.R_keep (IsS73.apart (show IsS73 w _ g359 t356 t369 t370 from by repeat (first | (with_reducible first | exact HI359.out | apply IsS73.alloc | apply IsS73.drewN | apply IsS73.drew | apply IsS73.set_1 | apply IsS73.set_2) | exact HI359.out)) (by (with_reducible repeat (first | apply Kd.R_alloc | apply Kd.R_drewN | apply Kd.R_drew)); exact HO365.out) (by decide)) hk (fun _ h => h.2)) (fun _ h => h.1)); have n1_ := Aside0.mk (hb); have n2_ := Aside0.mk (hi); clear HO365; clear HB; clear HI359; have HO365 := n0_; have HB := n1_; have HI359 := n2_; clear n0_ n1_ n2_; (try clear hb); (try clear hb2); (try clear hk); (try clear hi)))
  go_ret2
  exact ⟨_, by first | rfl | (simp [errW_none, errW_some] <;> rfl) | (simp [*, errW_none, errW_some] <;> rfl), by (with_reducible repeat (first | apply Kd.R_alloc | apply Kd.R_drewN | apply Kd.R_drew)); exact HO365.out, by repeat (first | (with_reducible first | exact HB.out | apply below_alloc | apply pw_below_drewN | apply below_drew1 | refine below_set ?_ (IsS73.ge HI359.out)) | exact HB.out)⟩

/-! ### strings_Repeat: function 53 -/
def strings_Repeat.f (a0 : ByteArray) (a1 : Int) : Option (ByteArray) := Giv.rep a0 a1
theorem strings_Repeat.calls (a0 : ByteArray) (a1 : Int) (r : ByteArray) (w : World) (h : strings_Repeat.f a0 a1 = some r) :
    Calls Tryd.prog 53 #[.string a0, .int .i64 a1] w fun e w' => e = .returned (.string r) ∧ Below w.heap.size w w' :=
  Giv.rep_calls a0 a1 r w h

/-! ### impl_Listing: function 23 -/
mutual
def impl_Listing.l0 : Nat → List Int → Int → List ByteArray → Int → Option (List ByteArray)
 | 0, _, _, _, _ => none
 | k + 1, x0, x1, x5, x6 => if x6 < (x0.length : Int) then (if 0 ≤ x6 then ((impl_HexText.f k (wrap64 (rd x0 x6)) 2).bind fun t387 => (if 7 + t387.size ≤ 9223372036854775807 then (if x6 ≤ (x0.length : Int) then ((impl_isWhole.f k (x0.drop (x6 : Int).toNat)).bind fun t389 => (if t389 = true then ((impl_SizeOf.f k (rd x0 x6)).bind fun t391 => ((impl_ShowOp.f k (x0.drop (x6 : Int).toNat) (IntKind.u16.wrap (x1 + (IntKind.u16.wrap (x6))))).bind fun t393 => (impl_Listing.j1 k x0 x1 x5 x6 (IntKind.u16.wrap (x1 + (IntKind.u16.wrap (x6)))) t391 t393))) else (impl_Listing.j1 k x0 x1 x5 x6 (IntKind.u16.wrap (x1 + (IntKind.u16.wrap (x6)))) 1 ((⟨#[46, 98, 121, 116, 101, 32, 36]⟩ : ByteArray) ++ t387)))) else (none)) else (none))) else (none)) else (some x5)
def impl_Listing.j1 : Nat → List Int → Int → List ByteArray → Int → Int → Int → ByteArray → Option (List ByteArray)
 | 0, _, _, _, _, _, _, _ => none
 | k + 1, x0, x1, x5, x6, x7, x8, x9 => (impl_HexText.f k (wrap64 (x7)) 4).bind fun t394 => (if t394.size + 1 ≤ 9223372036854775807 then (if 0 ≤ x6 then (if x6 ≤ (wrap64 (x6 + x8)) then (if (wrap64 (x6 + x8)) ≤ (x0.length : Int) then (impl_Listing.l1 k x0 x1 x5 x6 x8 x9 (t394 ++ (⟨#[58]⟩ : ByteArray)) ((x0.take ((wrap64 (x6 + x8)) : Int).toNat).drop (x6 : Int).toNat) (((x0.take ((wrap64 (x6 + x8)) : Int).toNat).drop (x6 : Int).toNat).length : Int) 0) else (none)) else (none)) else (none)) else (none))
def impl_Listing.l1 : Nat → List Int → Int → List ByteArray → Int → Int → ByteArray → ByteArray → List Int → Int → Int → Option (List ByteArray)
 | 0, _, _, _, _, _, _, _, _, _, _ => none
 | k + 1, x0, x1, x5, x6, x8, x9, x10, x55, x56, x57 => if x57 < x56 then (if 0 ≤ x57 then (if x57 < (x55.length : Int) then ((impl_HexText.f k (wrap64 (rd x55 x57)) 2).bind fun t397 => (if 1 + t397.size ≤ 9223372036854775807 then (if x10.size + ((⟨#[32]⟩ : ByteArray) ++ t397).size ≤ 9223372036854775807 then (impl_Listing.l1 k x0 x1 x5 x6 x8 x9 (x10 ++ ((⟨#[32]⟩ : ByteArray) ++ t397)) x55 x56 (wrap64 (x57 + 1))) else (none)) else (none))) else (none)) else (none)) else ((strings_Repeat.f (⟨#[32]⟩ : ByteArray) (wrap64 (15 - (x10.size : Int)))).bind fun t398 => (if x10.size + t398.size ≤ 9223372036854775807 then (if (x10 ++ t398).size + x9.size ≤ 9223372036854775807 then (if x5.length < 8796093022208 then (impl_Listing.l0 k x0 x1 (x5 ++ [(x10 ++ t398) ++ x9]) (wrap64 (x6 + x8))) else (none)) else (none)) else (none)))
end
def impl_Listing.f (k : Nat) (l0 : List Int) (a1 : Int) : Option (List ByteArray) := if (l0.length : Int) > 1024 then (some ([] : List ByteArray)) else (impl_Listing.l0 k l0 a1 (([] : List ByteArray)) 0)
theorem impl_Listing.mono_l : ∀ k, (∀ y0 y1 y2 y3, LeO (impl_Listing.l0 k y0 y1 y2 y3) (impl_Listing.l0 (k + 1) y0 y1 y2 y3)) ∧ (∀ y0 y1 y2 y3 y4 y5 y6, LeO (impl_Listing.j1 k y0 y1 y2 y3 y4 y5 y6) (impl_Listing.j1 (k + 1) y0 y1 y2 y3 y4 y5 y6)) ∧ (∀ y0 y1 y2 y3 y4 y5 y6 y7 y8 y9, LeO (impl_Listing.l1 k y0 y1 y2 y3 y4 y5 y6 y7 y8 y9) (impl_Listing.l1 (k + 1) y0 y1 y2 y3 y4 y5 y6 y7 y8 y9))
 | 0 => ⟨fun _ _ _ _ r h => by simp [impl_Listing.l0] at h, fun _ _ _ _ _ _ _ r h => by simp [impl_Listing.j1] at h, fun _ _ _ _ _ _ _ _ _ _ r h => by simp [impl_Listing.l1] at h⟩
 | k + 1 => by
  obtain ⟨ih0, ih1, ih2⟩ := impl_Listing.mono_l k
  refine ⟨?_, ?_, ?_⟩
  ·intro y0 y1 y2 y3
   unfold impl_Listing.l0
   repeat' first
   | (with_reducible exact ih0 _ _ _ _)
   | (with_reducible exact ih1 _ _ _ _ _ _ _)
   | (with_reducible exact ih2 _ _ _ _ _ _ _ _ _ _)
   | (with_reducible exact impl_HexText.mono _ _ _)
   | (with_reducible exact impl_ShowOp.mono _ _ _)
   | (with_reducible exact impl_SizeOf.mono _ _)
   | (with_reducible exact impl_isWhole.mono _ _)
   | (with_reducible exact LeO.refl _)
   | (with_reducible exact LeO.none _)
   | (with_reducible refine LeO.ite ?_ ?_)
   | (with_reducible refine LeO.bind ?_ (fun _ => ?_))
   | exact ih0 _ _ _ _
   | exact ih1 _ _ _ _ _ _ _
   | exact ih2 _ _ _ _ _ _ _ _ _ _
   | exact impl_HexText.mono _ _ _
   | exact impl_ShowOp.mono _ _ _
   | exact impl_SizeOf.mono _ _
   | exact impl_isWhole.mono _ _
   | exact LeO.none _
   | refine LeO.ite ?_ ?_
   | refine LeO.bind ?_ (fun _ => ?_)
  ·intro y0 y1 y2 y3 y4 y5 y6
   unfold impl_Listing.j1
   repeat' first
   | (with_reducible exact ih0 _ _ _ _)
   | (with_reducible exact ih1 _ _ _ _ _ _ _)
   | (with_reducible exact ih2 _ _ _ _ _ _ _ _ _ _)
   | (with_reducible exact impl_HexText.mono _ _ _)
   | (with_reducible exact impl_ShowOp.mono _ _ _)
   | (with_reducible exact impl_SizeOf.mono _ _)
   | (with_reducible exact impl_isWhole.mono _ _)
   | (with_reducible exact LeO.refl _)
   | (with_reducible exact LeO.none _)
   | (with_reducible refine LeO.ite ?_ ?_)
   | (with_reducible refine LeO.bind ?_ (fun _ => ?_))
   | exact ih0 _ _ _ _
   | exact ih1 _ _ _ _ _ _ _
   | exact ih2 _ _ _ _ _ _ _ _ _ _
   | exact impl_HexText.mono _ _ _
   | exact impl_ShowOp.mono _ _ _
   | exact impl_SizeOf.mono _ _
   | exact impl_isWhole.mono _ _
   | exact LeO.none _
   | refine LeO.ite ?_ ?_
   | refine LeO.bind ?_ (fun _ => ?_)
  ·intro y0 y1 y2 y3 y4 y5 y6 y7 y8 y9
   unfold impl_Listing.l1
   repeat' first
   | (with_reducible exact ih0 _ _ _ _)
   | (with_reducible exact ih1 _ _ _ _ _ _ _)
   | (with_reducible exact ih2 _ _ _ _ _ _ _ _ _ _)
   | (with_reducible exact impl_HexText.mono _ _ _)
   | (with_reducible exact impl_ShowOp.mono _ _ _)
   | (with_reducible exact impl_SizeOf.mono _ _)
   | (with_reducible exact impl_isWhole.mono _ _)
   | (with_reducible exact LeO.refl _)
   | (with_reducible exact LeO.none _)
   | (with_reducible refine LeO.ite ?_ ?_)
   | (with_reducible refine LeO.bind ?_ (fun _ => ?_))
   | exact ih0 _ _ _ _
   | exact ih1 _ _ _ _ _ _ _
   | exact ih2 _ _ _ _ _ _ _ _ _ _
   | exact impl_HexText.mono _ _ _
   | exact impl_ShowOp.mono _ _ _
   | exact impl_SizeOf.mono _ _
   | exact impl_isWhole.mono _ _
   | exact LeO.none _
   | refine LeO.ite ?_ ?_
   | refine LeO.bind ?_ (fun _ => ?_)
theorem impl_Listing.mono : ∀ a0 a1 k, LeO (impl_Listing.f k a0 a1) (impl_Listing.f (k + 1) a0 a1) := by
 intro a0 a1 k
 obtain ⟨ih0, ih1, ih2⟩ := impl_Listing.mono_l k
 unfold impl_Listing.f
 repeat' first
   | (with_reducible exact ih0 _ _ _ _)
   | (with_reducible exact ih1 _ _ _ _ _ _ _)
   | (with_reducible exact ih2 _ _ _ _ _ _ _ _ _ _)
   | (with_reducible exact impl_HexText.mono _ _ _)
   | (with_reducible exact impl_ShowOp.mono _ _ _)
   | (with_reducible exact impl_SizeOf.mono _ _)
   | (with_reducible exact impl_isWhole.mono _ _)
   | (with_reducible exact LeO.refl _)
   | (with_reducible exact LeO.none _)
   | (with_reducible refine LeO.ite ?_ ?_)
   | (with_reducible refine LeO.bind ?_ (fun _ => ?_))
   | exact ih0 _ _ _ _
   | exact ih1 _ _ _ _ _ _ _
   | exact ih2 _ _ _ _ _ _ _ _ _ _
   | exact impl_HexText.mono _ _ _
   | exact impl_ShowOp.mono _ _ _
   | exact impl_SizeOf.mono _ _
   | exact impl_isWhole.mono _ _
   | exact LeO.none _
   | refine LeO.ite ?_ ?_
   | refine LeO.bind ?_ (fun _ => ?_)
def impl_Listing.T9 : Bool × List (List Nat × List Nat) := (true, [([], []), ([], []), ([0, 1], [0, 1]), ([2], [2]), ([3], [3]), ([], []), ([], []), ([5, 6], [5, 6]), ([], []), ([7, 8, 4], [7, 8]), ([4, 9, 0, 1, 2, 3, 4], [4]), ([9, 10, 0, 1, 2, 3, 4, 5, 6, 7, 8, 9, 10], [9])])
def impl_Listing.B9 : List Nat := [0, 0, 3, 7, 15, 0, 0, 96, 0, 511, 1023, 2047]
theorem impl_Listing.tab9 : rtab .any (opsOf Tryd.f23 9) = impl_Listing.T9 := by kernel_rfl
theorem impl_Listing.bits9 : waitsOk impl_Listing.T9.2 impl_Listing.B9 = true := by kernel_rfl
set_option maxHeartbeats 8000000 in
set_option maxRecDepth 100000 in
theorem impl_Listing.calls (k : Nat) (A0 : Option Addr) (c0 : Nat) (l0 : List Int) (a1 : Int) (r : List ByteArray) (w : World) (hr0 : Kd.C (Kd.int .u8) w A0 l0.length l0) (hc0 : l0.length ≤ c0) (h : impl_Listing.f k l0 a1 = some r) (HT : Aside0 (Giv.TabW w)) :
  Calls Tryd.prog 23 #[.slice A0 l0.length c0, .int .u16 a1] w fun e w' => ∃ v0_ : Value, e = .returned (v0_) ∧ Kd.R Kd.string 9 w' w.heap.size (fun _ => True) v0_ r ∧ Below w.heap.size w w' := by
 have HR0 := Aside0.mk hr0
 have HC0 := Aside0.mk hc0
 clear hr0 hc0
 have HB := Aside0.mk (Below.refl w.heap.size w)
 have H : (if (l0.length : Int) > 1024 then (some ([] : List ByteArray)) else (impl_Listing.l0 k l0 a1 (([] : List ByteArray)) 0)) = some r := h
 clear h
 by_cases c3 : (l0.length : Int) > 1024
 ·rw [if_pos c3] at H
  have c3b0 : decide (1024 < (l0.length : Int)) = true := decide_eq_true c3
  have c3b1 : decide (1024 < l0.length) = true := decide_eq_true (by omega)
  clear c3
  obtain rfl := Option.some.inj H
  go_enter Tryd.func23, Tryd.ntmps23
  go_wp2
  go_ret
  exact ⟨_, by first | rfl | (simp [errW_none, errW_some] <;> rfl) | (simp [*, errW_none, errW_some] <;> rfl), by first | exact Kd.R_nil _ _ _ _ _ | exact Kd.N_nil _ _ _ _ _ | exact Kd.V_nil _ _ _ _ _ | exact Kd.Q_nil _ _ _ _ _ | exact Kd.S_nil _ _ _ _ _, by repeat (first | (with_reducible first | exact HB.out | apply below_alloc | apply pw_below_drewN | apply below_drew1) | exact HB.out)⟩
 ·rw [if_neg c3] at H
  have c3b0 : decide (1024 < (l0.length : Int)) = false := decide_eq_false c3
  have c3b1 : decide (1024 < l0.length) = false := decide_eq_false (by omega)
  clear c3
  obtain ⟨y383, hy383⟩ : ∃ y_ : List ByteArray, y_ = (([] : List ByteArray)) := ⟨_, rfl⟩
  replace H : (impl_Listing.l0 k l0 a1 y383 0) = some r := by first | (rw [hy383]; with_reducible exact H) | (have H2_ := (Option.bind_some _ _).symm.trans H; rw [hy383]; with_reducible exact H2_) | (have H2_ := (Option.bind_some _ _).symm.trans H; with_reducible exact H2_) | with_reducible exact H | (rw [hy383]; exact H) | exact H
  have Ny383 := Aside0.mk hy383
  clear hy383
  have H' := Aside0.mk H
  clear H
  go_enter Tryd.func23, Tryd.ntmps23
  go_wp2_with (first | ((with_reducible refine gate_dst (N := 16) rfl ?_); refine Kd.R_lit Kd.string _ 9 ?hg (N := 16) ?hd (xs := ([] : List ByteArray)) (inner := []) (ok := fun _ => True) (okp := fun _ => True) ?hr ?hp (fun _ hk => hk) trivial (Below.refl _ _) (Nat.le_refl _) (by simp) ?_; (case hd => rfl); (case hg => rfl); (case hr => first | (go_simp; done) | (go_simp; rfl)); (case hp => exact (Reps.none _ _)); intro v384 w4 ho5 hb hg_ hnew_; clear hg_ hnew_; (first | rw [← Ny383.out] at ho5 | (simp only [Int.reduceToNat] at ho5; rw [← Ny383.out] at ho5)); have n0_ := Aside0.mk (Kd.R_lower ho5 (below_size (by repeat (first | (with_reducible first | exact HB.out | apply below_alloc | apply pw_below_drewN | apply below_drew1) | exact HB.out)))); have n1_ := Aside0.mk (below_step (by repeat (first | (with_reducible first | exact HB.out | apply below_alloc | apply pw_below_drewN | apply below_drew1) | exact HB.out)) hb); clear HB; have HO385 := n0_; have HB := n1_; clear n0_ n1_; clear hb ho5))
  go_loopg [5, 6] k (fun kq v5 v6 w' => ∃ (x5_1 : List ByteArray) (x6_1 : Int), v6 = .int .i64 x6_1 ∧ Aside0 (impl_Listing.l0 kq l0 a1 x5_1 x6_1 = some r) ∧ Aside0 (kq ≤ k) ∧ Aside0 (Kd.R Kd.string 9 w' w.heap.size (fun _ => True) v5 x5_1) ∧ Aside0 (Below w.heap.size w w'))
  case atStart => exact ⟨(y383), (0), (by first | rfl | (simp; done) | (simp [*]; done)), H', ⟨Nat.le_refl _⟩, ⟨by (with_reducible repeat (first | apply Kd.R_alloc | apply Kd.R_drewN | apply Kd.R_drew)); exact HO385.out⟩, ⟨by repeat (first | (with_reducible first | exact HB.out | apply below_alloc | apply pw_below_drewN | apply below_drew1) | exact HB.out)⟩⟩
  case round =>
   clear H'
   try clear c2
   try clear p2
   try clear c3
   try clear c3b0
   try clear c3b1
   obtain ⟨x5_1, x6_1, rfl, HA, HK1, HO_5, HB⟩ := hrel
   cases gk with
   | zero => exact absurd HA.out (by simp [impl_Listing.l0])
   | succ k1 =>
    have H := HA.out
    clear HA
    simp only [impl_Listing.l0] at H
    by_cases c6 : x6_1 < (l0.length : Int)
    ·rw [if_pos c6] at H
     have c6b0 : decide (x6_1 < (l0.length : Int)) = true := decide_eq_true c6
     clear c6
     by_cases c7 : 0 ≤ x6_1
     ·rw [if_pos c7] at H
      have c7b0 : decide (0 ≤ x6_1) = true := decide_eq_true c7
      clear c7
      replace H := Option.bind_eq_some_iff.mp H
      obtain ⟨t387, A80, H⟩ := H
      replace H : (if 7 + t387.size ≤ 9223372036854775807 then (if x6_1 ≤ (l0.length : Int) then ((impl_isWhole.f k1 (l0.drop (x6_1 : Int).toNat)).bind fun t389 => (if t389 = true then ((impl_SizeOf.f k1 (rd l0 x6_1)).bind fun t391 => ((impl_ShowOp.f k1 (l0.drop (x6_1 : Int).toNat) (IntKind.u16.wrap (a1 + (IntKind.u16.wrap (x6_1))))).bind fun t393 => (impl_Listing.j1 k1 l0 a1 x5_1 x6_1 (IntKind.u16.wrap (a1 + (IntKind.u16.wrap (x6_1)))) t391 t393))) else (impl_Listing.j1 k1 l0 a1 x5_1 x6_1 (IntKind.u16.wrap (a1 + (IntKind.u16.wrap (x6_1)))) 1 ((⟨#[46, 98, 121, 116, 101, 32, 36]⟩ : ByteArray) ++ t387)))) else (none)) else (none)) = some r := H
      have A8 := Aside0.mk A80
      clear A80
      by_cases c9 : 7 + t387.size ≤ 9223372036854775807
      ·rw [if_pos c9] at H
       have c9b0 := eq_true c9
       have c9b1 : decide (7 + t387.size ≤ 9223372036854775807) = true := decide_eq_true c9
       try have c9b2 : (9223372036854775807 < 7 + t387.size) = False := eq_false (Nat.not_lt.2 c9)
       try (have c9b3 := c9; simp at c9b3; have c9b4 := eq_true c9b3; have c9b5 := decide_eq_true c9b3; have c9b6 := eq_false (Nat.not_lt.2 c9b3))
       have c10b0 := eq_true (of_decide_eq_true (by first | (with_reducible assumption) | assumption) : 0 ≤ x6_1)
       by_cases c11 : x6_1 ≤ (l0.length : Int)
       ·rw [if_pos c11] at H
        have c11b0 := eq_true c11
        have c11b1 : decide (x6_1 ≤ (l0.length : Int)) = true := decide_eq_true c11
        clear c11
        replace H := Option.bind_eq_some_iff.mp H
        obtain ⟨t389, A120, H⟩ := H
        replace H : (if t389 = true then ((impl_SizeOf.f k1 (rd l0 x6_1)).bind fun t391 => ((impl_ShowOp.f k1 (l0.drop (x6_1 : Int).toNat) (IntKind.u16.wrap (a1 + (IntKind.u16.wrap (x6_1))))).bind fun t393 => (impl_Listing.j1 k1 l0 a1 x5_1 x6_1 (IntKind.u16.wrap (a1 + (IntKind.u16.wrap (x6_1)))) t391 t393))) else (impl_Listing.j1 k1 l0 a1 x5_1 x6_1 (IntKind.u16.wrap (a1 + (IntKind.u16.wrap (x6_1)))) 1 ((⟨#[46, 98, 121, 116, 101, 32, 36]⟩ : ByteArray) ++ t387))) = some r := H
        have A12 := Aside0.mk A120
        clear A120
        have HC13 := Aside0.mk H
        clear H
        have p386 : 0 ≤ (x6_1 : Int) := of_decide_eq_true (by first | (with_reducible assumption) | assumption)
        have q386 : x6_1 < (l0.length : Int) := of_decide_eq_true (by first | (with_reducible assumption) | assumption)
        obtain ⟨ad386, e386, hx386_0⟩ := Kd.at_int HR0.out x6_1 p386 q386
        cases e386
        replace hx386_0 := (HB.out.cell (World.block_lt_of_cell? w _ hx386_0)).trans hx386_0
        replace p386 := eq_true p386
        replace q386 := eq_true q386
        go_upto_if 35 with (first | ((with_reducible refine gate_callee (f := 52) rfl ?_); refine goesL_ (some 30) rfl rfl Tryd.func52 (by kernel_rfl) rfl #[.int .i64 (wrap64 (rd l0 x6_1)), .int .i64 2] rfl (by (try simp only [List.map_toArray, List.map_cons, List.map_nil]); first | done | rfl | (simp only [List.length_drop, List.length_take]; rfl)) ?_; (with_reducible refine (impl_HexText.calls k1 (wrap64 (rd l0 x6_1)) 2 t387 _ A8.out).mono ?_); rintro e w14 ⟨rfl, hb⟩; refine ⟨_, rfl, ?_⟩; have n0_ := Aside0.mk (Kd.R_below (by (with_reducible repeat (first | apply Kd.R_alloc | apply Kd.R_drewN | apply Kd.R_drew)); exact HO_5.out) hb); have n1_ := Aside0.mk (below_step (by repeat (first | (with_reducible first | exact HB.out | apply below_alloc | apply pw_below_drewN | apply below_drew1) | exact HB.out)) hb); clear HO_5; clear HB; have HO_5 := n0_; have HB := n1_; clear n0_ n1_; (try clear hb); (try clear hb2); (try clear hk); (try clear hi); obtain ⟨i015, hi015, _, hsz15, _⟩ := info_parts info5; obtain ⟨A15, hcut15, hA15, hC15⟩ := print_drop_of (P := Tryd.prog) (Value.int .u8) 0 23 5 .i64 Tryd.underlying23 hi015 hsz15 (some ad386) c0 l0 x6_1 (of_decide_eq_true (by first | (with_reducible assumption) | assumption)) (of_decide_eq_true (by first | (with_reducible assumption) | assumption)) HC0.out; have HR388 := Aside0.mk (Kd.C_of_reads (h1 := fun _ => rfl) (hA15 _ (Kd.reads_of_C HR0.out))); have HC388 := Aside0.mk hC15; clear hA15 hC15 hi015 hsz15) | ((with_reducible refine gate_callee (f := 43) rfl ?_); refine goesL_ (some 35) rfl rfl Tryd.func43 (by kernel_rfl) rfl #[.slice A15 (l0.drop (x6_1 : Int).toNat).length (c0 - x6_1.toNat)] rfl (by (try simp only [List.map_toArray, List.map_cons, List.map_nil]); first | done | (rw [show (l0.drop (x6_1 : Int).toNat).length = (l0.length - x6_1.toNat) from List.length_drop] <;> rfl) | rfl | (simp only [List.length_drop, List.length_take]; rfl)) ?_; (with_reducible refine (impl_isWhole.calls k1 _ _ (l0.drop (x6_1 : Int).toNat) t389 _ ?side1 ?side2 A12.out (Giv.at_ HT (by repeat (first | (with_reducible first | exact HB.out | apply below_alloc | apply pw_below_drewN | apply below_drew1) | exact HB.out)))).mono ?_); (case side1 => repeat (first | exact (Kd.C_below HR388.out HB.out) | (with_reducible refine Kd.C_alloc ?_ _) | (with_reducible refine Kd.C_drewN ?_ _) | (with_reducible refine Kd.C_drew ?_))); (case side2 => exact HC388.out); rintro e w16 ⟨rfl, hb⟩; refine ⟨_, rfl, ?_⟩; have n0_ := Aside0.mk (Kd.R_below (by (with_reducible repeat (first | apply Kd.R_alloc | apply Kd.R_drewN | apply Kd.R_drew)); exact HO_5.out) hb); have n1_ := Aside0.mk (below_step (by repeat (first | (with_reducible first | exact HB.out | apply below_alloc | apply pw_below_drewN | apply below_drew1) | exact HB.out)) hb); clear HO_5; clear HB; have HO_5 := n0_; have HB := n1_; clear n0_ n1_; (try clear hb); (try clear hb2); (try clear hk); (try clear hi)))
        (try simp only [Act.put, List.setIfInBounds_toArray, List.set_cons_zero, List.set_cons_succ])
        go_cut [8, 9] (fun v8 v9 wc => ∃ (kq : Nat) (x8_12 : Int) (x9_12 : ByteArray), v8 = .int .i64 x8_12 ∧ v9 = .string x9_12 ∧ Aside0 (impl_Listing.j1 kq l0 a1 x5_1 x6_1 (IntKind.u16.wrap (a1 + (IntKind.u16.wrap (x6_1)))) x8_12 x9_12 = some r) ∧ Aside0 (kq ≤ k1) ∧ Aside0 (Kd.R Kd.string 9 wc w.heap.size (fun _ => True) u5 x5_1) ∧ Aside0 (Below w.heap.size w wc))
        case first =>
         have H := HC13.out
         clear HC13
         by_cases c17 : t389 = true
         ·subst c17
          have H1 : ((impl_SizeOf.f k1 (rd l0 x6_1)).bind fun t391 => ((impl_ShowOp.f k1 (l0.drop (x6_1 : Int).toNat) (IntKind.u16.wrap (a1 + (IntKind.u16.wrap (x6_1))))).bind fun t393 => (impl_Listing.j1 k1 l0 a1 x5_1 x6_1 (IntKind.u16.wrap (a1 + (IntKind.u16.wrap (x6_1)))) t391 t393))) = some r := by rw [if_pos rfl] at H; exact H
          clear H
          have H := H1
          clear H1
          replace H := Option.bind_eq_some_iff.mp H
          obtain ⟨t391, A180, H⟩ := H
          replace H : ((impl_ShowOp.f k1 (l0.drop (x6_1 : Int).toNat) (IntKind.u16.wrap (a1 + (IntKind.u16.wrap (x6_1))))).bind fun t393 => (impl_Listing.j1 k1 l0 a1 x5_1 x6_1 (IntKind.u16.wrap (a1 + (IntKind.u16.wrap (x6_1)))) t391 t393)) = some r := H
          have A18 := Aside0.mk A180
          clear A180
          have c19b0 := eq_true (of_decide_eq_true (by first | (with_reducible assumption) | assumption) : 0 ≤ x6_1)
          have c20b0 := eq_true (of_decide_eq_true (by first | (with_reducible assumption) | assumption) : x6_1 ≤ (l0.length : Int))
          replace H := Option.bind_eq_some_iff.mp H
          obtain ⟨t393, A210, H⟩ := H
          replace H : (impl_Listing.j1 k1 l0 a1 x5_1 x6_1 (IntKind.u16.wrap (a1 + (IntKind.u16.wrap (x6_1)))) t391 t393) = some r := H
          have A21 := Aside0.mk A210
          clear A210
          have H' := Aside0.mk H
          clear H
          try go_wp2
          have n0_ := Aside0.mk (Kd.R_drew HO_5.out)
          have n1_ := Aside0.mk (below_drew1 HB.out)
          clear HO_5
          clear HB
          have HO_5 := n0_
          have HB := n1_
          clear n0_ n1_
          have p390 : 0 ≤ (x6_1 : Int) := of_decide_eq_true (by first | (with_reducible assumption) | assumption)
          have q390 : x6_1 < (l0.length : Int) := of_decide_eq_true (by first | (with_reducible assumption) | assumption)
          obtain ⟨ad390, e390, hx390_0⟩ := Kd.at_int HR0.out x6_1 p390 q390
          have hw390_0 := hx390_0
          obtain rfl : ad386 = ad390 := (by injection e390)
          replace hx390_0 := (HB.out.cell (World.block_lt_of_cell? w _ hx390_0)).trans hx390_0
          replace p390 := eq_true p390
          replace q390 := eq_true q390
          obtain ⟨i023, hi023, _, hsz23, _⟩ := info_parts info5
          obtain ⟨A23, hcut23, hA23, hC23⟩ := print_drop_of (P := Tryd.prog) (Value.int .u8) 0 23 5 .i64 Tryd.underlying23 hi023 hsz23 (some ad386) c0 l0 x6_1 (of_decide_eq_true (by first | (with_reducible assumption) | assumption)) (of_decide_eq_true (by first | (with_reducible assumption) | assumption)) HC0.out
          (try (obtain rfl : A23 = A15 := by have h_ := (hcut23 w).symm.trans (hcut15 w); simpa using h_))
          have HR392 := Aside0.mk (Kd.C_of_reads (h1 := fun _ => rfl) (hA23 _ (Kd.reads_of_C HR0.out)))
          have HC392 := Aside0.mk hC23
          clear hA23 hC23 hi023 hsz23
          refine start_ (n := 12) (S := fun w' => w'.cell? (ad386.add (x6_1).toNat) = some (.int .u8 (rd l0 x6_1))) (ds := []) #[false, false, false, false, false, false, false, false, false, false, false, false] (by kernel_rfl) rfl rfl (((HB.out.cell (World.block_lt_of_cell? w _ hw390_0)).trans hw390_0)) (fun hHeld => ?_); refine with_tabW impl_Listing.tab9 impl_Listing.bits9 (fun HT_ HW_ => ?_)
          generalize w16.drew = w22 at HO_5 HB HR392 hx390_0 hHeld ⊢
          refine pure_ (i := 0) (N := some 36) (v := ?_) (a' := ?_) #[true, false, false, false, false, false, false, false, false, false, false, false] rfl rfl (any_of HT_.out (by kernel_rfl)) (fun _ _ _ h => h) (Or.inl ⟨by rfl, ?_⟩) ?_ ?_
          rotate_left
          ·intro w'
           go_simp
           with_reducible rfl
          rotate_left
          ·simp only [Act.put, List.setIfInBounds_toArray, List.set_cons_zero, List.set_cons_succ, i64_w, i32_w]
           rfl
          refine pure_ (i := 1) (N := some 37) (v := ?_) (a' := ?_) #[true, true, false, false, false, false, false, false, false, false, false, false] rfl rfl (any_of HT_.out (by kernel_rfl)) (fun _ _ _ h => h) (Or.inl ⟨by rfl, ?_⟩) ?_ ?_
          rotate_left
          ·intro w'
           go_simp
           with_reducible rfl
          rotate_left
          ·simp only [Act.put, List.setIfInBounds_toArray, List.set_cons_zero, List.set_cons_succ, i64_w, i32_w]
           rfl
          refine pure_ (i := 2) (N := some 38) (v := ?_) (a' := ?_) #[true, true, true, false, false, false, false, false, false, false, false, false] rfl rfl (any_of HT_.out (by kernel_rfl)) (fun _ _ _ h => h) (Or.inl ⟨by rfl, ?_⟩) ?_ ?_
          rotate_left
          ·intro w'
           go_simp
           with_reducible rfl
          rotate_left
          ·simp only [Act.put, List.setIfInBounds_toArray, List.set_cons_zero, List.set_cons_succ, i64_w, i32_w]
           rfl
          refine pure_ (i := 5) (N := some 41) (v := ?_) (a' := ?_) #[true, true, true, false, false, true, false, false, false, false, false, false] rfl rfl (any_of HT_.out (by kernel_rfl)) (fun _ _ _ h => h) (Or.inl ⟨by rfl, ?_⟩) ?_ ?_
          rotate_left
          ·intro w'
           go_simp
           with_reducible rfl
          rotate_left
          ·simp only [Act.put, List.setIfInBounds_toArray, List.set_cons_zero, List.set_cons_succ, i64_w, i32_w]
           rfl
          refine pure_ (i := 6) (N := some 42) (v := ?_) (a' := ?_) #[true, true, true, false, false, true, true, false, false, false, false, false] rfl rfl (any_of HT_.out (by kernel_rfl)) (fun _ _ _ h => h) (Or.inl ⟨by rfl, ?_⟩) ?_ ?_
          rotate_left
          ·intro w'
           go_simp
           with_reducible rfl
          rotate_left
          ·simp only [Act.put, List.setIfInBounds_toArray, List.set_cons_zero, List.set_cons_succ, i64_w, i32_w]
           rfl
          refine pure_ (i := 7) (N := some 43) (v := ?_) (a' := ?_) #[true, true, true, false, false, true, true, true, false, false, false, false] rfl rfl (any_of HT_.out (by kernel_rfl)) (fun _ _ _ h => h) (Or.inl ⟨by rfl, ?_⟩) ?_ ?_
          rotate_left
          ·intro w'
           go_simp
           with_reducible rfl
          rotate_left
          ·simp only [Act.put, List.setIfInBounds_toArray, List.set_cons_zero, List.set_cons_succ, i64_w, i32_w]
           rfl
          refine pure_ (i := 8) (N := some 44) (v := ?_) (a' := ?_) #[true, true, true, false, false, true, true, true, true, false, false, false] rfl rfl (any_of HT_.out (by kernel_rfl)) (fun _ _ _ h => h) (Or.inl ⟨by rfl, ?_⟩) ?_ ?_
          rotate_left
          ·intro w'
           go_simp
           with_reducible rfl
          rotate_left
          ·simp only [Act.put, List.setIfInBounds_toArray, List.set_cons_zero, List.set_cons_succ, i64_w, i32_w]
           rfl
          refine take_ (i := 3) (N := some 39) (v := ?_) (a' := ?_) #[true, true, true, true, false, true, true, true, true, false, false, false] rfl rfl (take_ofW HT_.out HW_.out (by kernel_rfl)) (fun _ _ _ h => h) (Or.inl ⟨by rfl, ?_⟩) hHeld ?_ ?_
          rotate_left
          ·intro w' s0
           go_simp
           with_reducible rfl
          rotate_left
          ·simp only [Act.put, List.setIfInBounds_toArray, List.set_cons_zero, List.set_cons_succ, i64_w, i32_w]
           rfl
          refine one_ (i := 4) (N := some 40) #[true, true, true, true, true, true, true, true, true, false, false, false] rfl rfl (one_of HT_.out (by kernel_rfl)) (by decide) (fun K hK => ?_)
          refine goes_ Tryd.func20 (by kernel_rfl) rfl #[.int .u8 (rd l0 x6_1)] (by rfl) rfl rfl (by (try simp only [List.map_toArray, List.map_cons, List.map_nil]); first | done | rfl | (simp only [List.length_drop, List.length_take]; rfl)) ?_
          with_reducible refine (impl_SizeOf.calls k1 (rd l0 x6_1) t391 _ A18.out (Giv.at_ HT (by repeat (first | (with_reducible first | exact HB.out | apply below_alloc | apply pw_below_drewN | apply below_drew1) | exact HB.out)))).mono ?_
          rintro e w24 ⟨rfl, hb⟩
          refine ⟨_, rfl, ?_⟩
          have n0_ := Aside0.mk (Kd.R_below (by (with_reducible repeat (first | apply Kd.R_alloc | apply Kd.R_drewN | apply Kd.R_drew)); exact HO_5.out) hb)
          have n1_ := Aside0.mk (below_step (by repeat (first | (with_reducible first | exact HB.out | apply below_alloc | apply pw_below_drewN | apply below_drew1) | exact HB.out)) hb)
          clear HO_5
          clear HB
          have HO_5 := n0_
          have HB := n1_
          clear n0_ n1_
          (try clear hb)
          (try clear hb2)
          (try clear hk)
          (try clear hi)
          refine hK.out _ _ (((HB.out.cell (World.block_lt_of_cell? w _ hw390_0)).trans hw390_0)) (fun hHeld => ?_)
          clear hK K
          refine norm_ (a' := ?_) ?_ ?_
          rotate_left
          ·show Act.put _ (some 40) _ = _
           simp only [Act.put, List.setIfInBounds_toArray, List.set_cons_zero, List.set_cons_succ, i64_w, i32_w]
           rfl
          refine one_ (i := 9) (N := some 45) #[true, true, true, true, true, true, true, true, true, true, false, false] rfl rfl (one_of HT_.out (by kernel_rfl)) (by decide) (fun K hK => ?_)
          refine goes_ Tryd.func17 (by kernel_rfl) rfl #[.slice A23 (l0.drop (x6_1 : Int).toNat).length (c0 - x6_1.toNat), .int .u16 (IntKind.u16.wrap (a1 + (IntKind.u16.wrap (x6_1))))] (by rfl) rfl rfl (by (try simp only [List.map_toArray, List.map_cons, List.map_nil]); first | done | (rw [show (l0.drop (x6_1 : Int).toNat).length = (l0.length - x6_1.toNat) from List.length_drop] <;> rfl) | rfl | (simp only [List.length_drop, List.length_take]; rfl)) ?_
          with_reducible refine (impl_ShowOp.calls k1 _ _ (l0.drop (x6_1 : Int).toNat) (IntKind.u16.wrap (a1 + (IntKind.u16.wrap (x6_1)))) t393 _ ?side1 ?side2 A21.out (Giv.at_ HT (by repeat (first | (with_reducible first | exact HB.out | apply below_alloc | apply pw_below_drewN | apply below_drew1) | exact HB.out)))).mono ?_
          (case side1 => repeat (first | exact (Kd.C_below HR392.out HB.out) | (with_reducible refine Kd.C_alloc ?_ _) | (with_reducible refine Kd.C_drewN ?_ _) | (with_reducible refine Kd.C_drew ?_)))
          (case side2 => exact HC392.out)
          rintro e w25 ⟨rfl, hb⟩
          refine ⟨_, rfl, ?_⟩
          have n0_ := Aside0.mk (Kd.R_below (by (with_reducible repeat (first | apply Kd.R_alloc | apply Kd.R_drewN | apply Kd.R_drew)); exact HO_5.out) hb)
          have n1_ := Aside0.mk (below_step (by repeat (first | (with_reducible first | exact HB.out | apply below_alloc | apply pw_below_drewN | apply below_drew1) | exact HB.out)) hb)
          clear HO_5
          clear HB
          have HO_5 := n0_
          have HB := n1_
          clear n0_ n1_
          (try clear hb)
          (try clear hb2)
          (try clear hk)
          (try clear hi)
          refine hK.out _ _ (((HB.out.cell (World.block_lt_of_cell? w _ hw390_0)).trans hw390_0)) (fun hHeld => ?_)
          clear hK K
          refine norm_ (a' := ?_) ?_ ?_
          rotate_left
          ·show Act.put _ (some 45) _ = _
           simp only [Act.put, List.setIfInBounds_toArray, List.set_cons_zero, List.set_cons_succ, i64_w, i32_w]
           rfl
          refine pure_ (i := 10) (N := some 8) (v := ?_) (a' := ?_) #[true, true, true, true, true, true, true, true, true, true, true, false] rfl rfl (any_of HT_.out (by kernel_rfl)) (fun _ _ _ h => h) (Or.inl ⟨by rfl, ?_⟩) ?_ ?_
          rotate_left
          ·intro w'
           go_simp
           with_reducible rfl
          rotate_left
          ·simp only [Act.put, List.setIfInBounds_toArray, List.set_cons_zero, List.set_cons_succ, i64_w, i32_w]
           rfl
          refine pure_ (i := 11) (N := some 9) (v := ?_) (a' := ?_) #[true, true, true, true, true, true, true, true, true, true, true, true] rfl rfl (any_of HT_.out (by kernel_rfl)) (fun _ _ _ h => h) (Or.inl ⟨by rfl, ?_⟩) ?_ ?_
          rotate_left
          ·intro w'
           go_simp
           with_reducible rfl
          rotate_left
          ·simp only [Act.put, List.setIfInBounds_toArray, List.set_cons_zero, List.set_cons_succ, i64_w, i32_w]
           rfl
          refine done_ (done_of HT_.out (by kernel_rfl)) ?_
          try go_wp2
          go_meet
          case rel => exact ⟨_, (t391), (t393), (by first | rfl | (simp; done) | (simp [*]; done)), (by first | rfl | (simp; done) | (simp [*]; done)), H', ⟨by have := HK1.out; first | omega | exact Nat.le_refl _⟩, ⟨by (with_reducible repeat (first | apply Kd.R_alloc | apply Kd.R_drewN | apply Kd.R_drew)); exact HO_5.out⟩, ⟨by repeat (first | (with_reducible first | exact HB.out | apply below_alloc | apply pw_below_drewN | apply below_drew1) | exact HB.out)⟩⟩
         ·replace c17 := Bool.eq_false_iff.mpr c17
          subst c17
          have H1 : (impl_Listing.j1 k1 l0 a1 x5_1 x6_1 (IntKind.u16.wrap (a1 + (IntKind.u16.wrap (x6_1)))) 1 ((⟨#[46, 98, 121, 116, 101, 32, 36]⟩ : ByteArray) ++ t387)) = some r := by rw [if_neg (show ¬ (false = true) by decide)] at H; exact H
          clear H
          have H := H1
          clear H1
          have H' := Aside0.mk H
          clear H
          go_wp2
          go_meet
          case rel => exact ⟨_, (1), ((⟨#[46, 98, 121, 116, 101, 32, 36]⟩ : ByteArray) ++ t387), (by first | rfl | (simp; done) | (simp [*]; done)), (by first | rfl | (simp; done) | (simp [*]; done)), H', ⟨by have := HK1.out; first | omega | exact Nat.le_refl _⟩, ⟨by (with_reducible repeat (first | apply Kd.R_alloc | apply Kd.R_drewN | apply Kd.R_drew)); exact HO_5.out⟩, ⟨by repeat (first | (with_reducible first | exact HB.out | apply below_alloc | apply pw_below_drewN | apply below_drew1) | exact HB.out)⟩⟩
        case rest =>
         clear HC13
         try clear c1
         try clear c2
         try clear p2
         try clear c3
         try clear c3b0
         try clear c3b1
         try clear p3
         try clear q3
         try clear hx3
         try clear c4
         try clear c5
         try clear c6
         try clear c6b0
         try clear p6
         try clear c7
         try clear c7b0
         try clear c9
         try clear c9b0
         try clear c9b1
         try clear c9b2
         try clear c10
         try clear c10b0
         try clear c11
         try clear c11b0
         try clear c11b1
         try clear c17
         try clear c19
         try clear c19b0
         try clear c20
         try clear c20b0
         try clear c23
         try clear hx386_0
         try clear hx390_0
         try clear p2
         try clear p386
         try clear p390
         try clear q386
         try clear q390
         obtain ⟨kq, x8_12, x9_12, rfl, rfl, HA, HJ12, HO_5, HB⟩ := hcut
         cases kq with
         | zero => exact absurd HA.out (by simp [impl_Listing.j1])
         | succ kj12 =>
          have H := HA.out
          clear HA
          simp only [impl_Listing.j1] at H
          replace H := Option.bind_eq_some_iff.mp H
          obtain ⟨t394, A260, H⟩ := H
          replace H : (if t394.size + 1 ≤ 9223372036854775807 then (if 0 ≤ x6_1 then (if x6_1 ≤ (wrap64 (x6_1 + x8_12)) then (if (wrap64 (x6_1 + x8_12)) ≤ (l0.length : Int) then (impl_Listing.l1 kj12 l0 a1 x5_1 x6_1 x8_12 x9_12 (t394 ++ (⟨#[58]⟩ : ByteArray)) ((l0.take ((wrap64 (x6_1 + x8_12)) : Int).toNat).drop (x6_1 : Int).toNat) (((l0.take ((wrap64 (x6_1 + x8_12)) : Int).toNat).drop (x6_1 : Int).toNat).length : Int) 0) else (none)) else (none)) else (none)) else (none)) = some r := H
          have A26 := Aside0.mk A260
          clear A260
          by_cases c27 : t394.size + 1 ≤ 9223372036854775807
          ·rw [if_pos c27] at H
           have c27b0 := eq_true c27
           have c27b1 : decide (t394.size + 1 ≤ 9223372036854775807) = true := decide_eq_true c27
           try have c27b2 : (9223372036854775807 < t394.size + 1) = False := eq_false (Nat.not_lt.2 c27)
           try (have c27b3 := c27; simp at c27b3; have c27b4 := eq_true c27b3; have c27b5 := decide_eq_true c27b3; have c27b6 := eq_false (Nat.not_lt.2 c27b3))
           by_cases c28 : 0 ≤ x6_1
           ·rw [if_pos c28] at H
            have c28b0 := eq_true c28
            have c28b1 : decide (0 ≤ x6_1) = true := decide_eq_true c28
            clear c28
            by_cases c29 : x6_1 ≤ (wrap64 (x6_1 + x8_12))
            ·rw [if_pos c29] at H
             have c29b0 := eq_true c29
             have c29b1 : decide (x6_1 ≤ (wrap64 (x6_1 + x8_12))) = true := decide_eq_true c29
             by_cases c30 : (wrap64 (x6_1 + x8_12)) ≤ (l0.length : Int)
             ·rw [if_pos c30] at H
              have c30b0 := eq_true c30
              have c30b1 : decide ((wrap64 (x6_1 + x8_12)) ≤ (l0.length : Int)) = true := decide_eq_true c30
              have H' := Aside0.mk H
              clear H
              have hT_ : (wrap64 (x6_1 + x8_12)) ≤ (l0.length : Int) := of_decide_eq_true (by first | (with_reducible assumption) | assumption)
              have LEN_ := Aside0.mk (show ((l0.take ((wrap64 (x6_1 + x8_12)) : Int).toNat).drop (x6_1 : Int).toNat).length = ((wrap64 (x6_1 + x8_12)) : Int).toNat - (x6_1 : Int).toNat from by rw [List.length_drop, List.length_take, Nat.min_eq_left (Int.toNat_le.mpr hT_)])
              clear hT_
              go_wp2_with (first | ((with_reducible refine gate_callee (f := 52) rfl ?_); refine goesL_ (some 48) rfl rfl Tryd.func52 (by kernel_rfl) rfl #[.int .i64 (wrap64 ((IntKind.u16.wrap (a1 + (IntKind.u16.wrap (x6_1)))))), .int .i64 4] rfl (by (try simp only [List.map_toArray, List.map_cons, List.map_nil]); first | done | rfl | (simp only [List.length_drop, List.length_take]; rfl)) ?_; (with_reducible refine (impl_HexText.calls kj12 (wrap64 ((IntKind.u16.wrap (a1 + (IntKind.u16.wrap (x6_1)))))) 4 t394 _ A26.out).mono ?_); rintro e w31 ⟨rfl, hb⟩; refine ⟨_, rfl, ?_⟩; have n0_ := Aside0.mk (Kd.R_below (by (with_reducible repeat (first | apply Kd.R_alloc | apply Kd.R_drewN | apply Kd.R_drew)); exact HO_5.out) hb); have n1_ := Aside0.mk (below_step (by repeat (first | (with_reducible first | exact HB.out | apply below_alloc | apply pw_below_drewN | apply below_drew1) | exact HB.out)) hb); clear HO_5; clear HB; have HO_5 := n0_; have HB := n1_; clear n0_ n1_; (try clear hb); (try clear hb2); (try clear hk); (try clear hi); obtain ⟨i032, hi032, _, hsz32, _⟩ := info_parts info5; obtain ⟨A32, hcut32, hA32, hC32⟩ := print_mid_of (P := Tryd.prog) (Value.int .u8) 0 23 5 .i64 .i64 Tryd.underlying23 hi032 hsz32 (some ad386) c0 l0 x6_1 (wrap64 (x6_1 + x8_12)) (of_decide_eq_true (by first | (with_reducible assumption) | assumption)) (by first | omega | exact of_decide_eq_true (by first | (with_reducible assumption) | assumption)) (of_decide_eq_true (by first | (with_reducible assumption) | assumption)) HC0.out; have HR395 := Aside0.mk (Kd.C_of_reads (h1 := fun _ => rfl) (hA32 _ (Kd.reads_of_C HR0.out))); have HC395 := Aside0.mk hC32; clear hA32 hC32 hi032 hsz32))
              go_loopg [10, 57] kj12 (fun kq v10 v57 w' => ∃ (x10_3 : ByteArray) (x57_3 : Int), v10 = .string x10_3 ∧ v57 = .int .i64 x57_3 ∧ Aside0 (impl_Listing.l1 kq l0 a1 x5_1 x6_1 x8_12 x9_12 x10_3 ((l0.take ((wrap64 (x6_1 + x8_12)) : Int).toNat).drop (x6_1 : Int).toNat) (((l0.take ((wrap64 (x6_1 + x8_12)) : Int).toNat).drop (x6_1 : Int).toNat).length : Int) x57_3 = some r) ∧ Aside0 (kq ≤ kj12) ∧ Aside0 (Kd.R Kd.string 9 w' w.heap.size (fun _ => True) u5 x5_1) ∧ Aside0 (Below w.heap.size w w'))
              case atStart => exact ⟨(t394 ++ (⟨#[58]⟩ : ByteArray)), (0), (by first | rfl | (simp; done) | (simp [*]; done)), (by first | rfl | (simp; done) | (simp [*]; done)), H', ⟨Nat.le_refl _⟩, ⟨by (with_reducible repeat (first | apply Kd.R_alloc | apply Kd.R_drewN | apply Kd.R_drew)); exact HO_5.out⟩, ⟨by repeat (first | (with_reducible first | exact HB.out | apply below_alloc | apply pw_below_drewN | apply below_drew1) | exact HB.out)⟩⟩
              case round =>
               clear H'
               try clear c1
               try clear c2
               try clear p2
               try clear c3
               try clear c3b0
               try clear c3b1
               try clear p3
               try clear q3
               try clear hx3
               try clear c4
               try clear c5
               try clear c6
               try clear c6b0
               try clear p6
               try clear c7
               try clear c7b0
               try clear c9
               try clear c9b0
               try clear c9b1
               try clear c9b2
               try clear c10
               try clear c10b0
               try clear c11
               try clear c11b0
               try clear c11b1
               try clear c17
               try clear c19
               try clear c19b0
               try clear c20
               try clear c20b0
               try clear c23
               try clear c27
               try clear c27b0
               try clear c27b1
               try clear c27b2
               try clear c28
               try clear c28b0
               try clear c28b1
               try clear c29
               try clear c29b0
               try clear c29b1
               try clear c30
               try clear c30b0
               try clear c30b1
               try clear hx386_0
               try clear hx390_0
               try clear p2
               try clear p3
               try clear p386
               try clear p390
               try clear p6
               try clear q3
               try clear q386
               try clear q390
               obtain ⟨x10_3, x57_3, rfl, rfl, HA, HK3, HO_5, HB⟩ := hrel
               cases gk with
               | zero => exact absurd HA.out (by simp [impl_Listing.l1])
               | succ k3 =>
                have H := HA.out
                clear HA
                simp only [impl_Listing.l1] at H
                by_cases c33 : x57_3 < (((l0.take ((wrap64 (x6_1 + x8_12)) : Int).toNat).drop (x6_1 : Int).toNat).length : Int)
                ·rw [if_pos c33] at H
                 have c33b0 : decide (x57_3 < (((l0.take ((wrap64 (x6_1 + x8_12)) : Int).toNat).drop (x6_1 : Int).toNat).length : Int)) = true := decide_eq_true c33
                 have c33bL : decide (x57_3 < ((((wrap64 (x6_1 + x8_12)) : Int).toNat - (x6_1 : Int).toNat : Nat) : Int)) = true := by rw [← LEN_.out]; exact c33b0
                 clear c33
                 by_cases c34 : 0 ≤ x57_3
                 ·rw [if_pos c34] at H
                  have c34b0 : decide (0 ≤ x57_3) = true := decide_eq_true c34
                  clear c34
                  by_cases c35 : x57_3 < (((l0.take ((wrap64 (x6_1 + x8_12)) : Int).toNat).drop (x6_1 : Int).toNat).length : Int)
                  ·rw [if_pos c35] at H
                   have c35b0 : decide (x57_3 < (((l0.take ((wrap64 (x6_1 + x8_12)) : Int).toNat).drop (x6_1 : Int).toNat).length : Int)) = true := decide_eq_true c35
                   have c35bL : decide (x57_3 < ((((wrap64 (x6_1 + x8_12)) : Int).toNat - (x6_1 : Int).toNat : Nat) : Int)) = true := by rw [← LEN_.out]; exact c35b0
                   clear c35
                   replace H := Option.bind_eq_some_iff.mp H
                   obtain ⟨t397, A360, H⟩ := H
                   replace H : (if 1 + t397.size ≤ 9223372036854775807 then (if x10_3.size + ((⟨#[32]⟩ : ByteArray) ++ t397).size ≤ 9223372036854775807 then (impl_Listing.l1 k3 l0 a1 x5_1 x6_1 x8_12 x9_12 (x10_3 ++ ((⟨#[32]⟩ : ByteArray) ++ t397)) ((l0.take ((wrap64 (x6_1 + x8_12)) : Int).toNat).drop (x6_1 : Int).toNat) (((l0.take ((wrap64 (x6_1 + x8_12)) : Int).toNat).drop (x6_1 : Int).toNat).length : Int) (wrap64 (x57_3 + 1))) else (none)) else (none)) = some r := H
                   have A36 := Aside0.mk A360
                   clear A360
                   by_cases c37 : 1 + t397.size ≤ 9223372036854775807
                   ·rw [if_pos c37] at H
                    have c37b0 := eq_true c37
                    have c37b1 : decide (1 + t397.size ≤ 9223372036854775807) = true := decide_eq_true c37
                    try have c37b2 : (9223372036854775807 < 1 + t397.size) = False := eq_false (Nat.not_lt.2 c37)
                    try (have c37b3 := c37; simp at c37b3; have c37b4 := eq_true c37b3; have c37b5 := decide_eq_true c37b3; have c37b6 := eq_false (Nat.not_lt.2 c37b3))
                    by_cases c38 : x10_3.size + ((⟨#[32]⟩ : ByteArray) ++ t397).size ≤ 9223372036854775807
                    ·rw [if_pos c38] at H
                     have c38b0 := eq_true c38
                     have c38b1 : decide (x10_3.size + ((⟨#[32]⟩ : ByteArray) ++ t397).size ≤ 9223372036854775807) = true := decide_eq_true c38
                     try have c38b2 : (9223372036854775807 < x10_3.size + ((⟨#[32]⟩ : ByteArray) ++ t397).size) = False := eq_false (Nat.not_lt.2 c38)
                     try (have c38b3 := c38; simp at c38b3; have c38b4 := eq_true c38b3; have c38b5 := decide_eq_true c38b3; have c38b6 := eq_false (Nat.not_lt.2 c38b3))
                     have c38b7 : x10_3.size + (1 + t397.size) ≤ 9223372036854775807 := by have h_ := c38; simp only [ByteArray.size_append] at h_; exact h_
                     have c38b8 := eq_false (Nat.not_lt.2 c38b7)
                     replace c38b7 := eq_true c38b7
                     have H' := Aside0.mk H
                     clear H
                     have p396 : 0 ≤ (x57_3 : Int) := of_decide_eq_true (by first | (with_reducible assumption) | assumption)
                     have q396 : x57_3 < (((l0.take ((wrap64 (x6_1 + x8_12)) : Int).toNat).drop (x6_1 : Int).toNat).length : Int) := of_decide_eq_true (by first | (with_reducible assumption) | assumption)
                     obtain ⟨ad396, e396, hx396_0⟩ := Kd.at_int HR395.out x57_3 p396 q396
                     cases e396
                     replace hx396_0 := (HB.out.cell (World.block_lt_of_cell? w _ hx396_0)).trans hx396_0
                     replace p396 := eq_true p396
                     replace q396 := eq_true q396
                     have q396L : (x57_3 < ((((wrap64 (x6_1 + x8_12)) : Int).toNat - (x6_1 : Int).toNat : Nat) : Int)) = True := by rw [← LEN_.out]; exact q396
                     have q396M : (((((wrap64 (x6_1 + x8_12)) : Int).toNat - (x6_1 : Int).toNat : Nat) : Int) ≤ x57_3) = False := eq_false (by have h_ := of_eq_true q396L; omega)
                     go_wp2_with (first | ((with_reducible refine gate_callee (f := 52) rfl ?_); refine goesL_ (some 64) rfl rfl Tryd.func52 (by kernel_rfl) rfl #[.int .i64 (wrap64 (rd ((l0.take ((wrap64 (x6_1 + x8_12)) : Int).toNat).drop (x6_1 : Int).toNat) x57_3)), .int .i64 2] rfl (by (try simp only [List.map_toArray, List.map_cons, List.map_nil]); first | done | rfl | (simp only [List.length_drop, List.length_take]; rfl)) ?_; (with_reducible refine (impl_HexText.calls k3 (wrap64 (rd ((l0.take ((wrap64 (x6_1 + x8_12)) : Int).toNat).drop (x6_1 : Int).toNat) x57_3)) 2 t397 _ A36.out).mono ?_); rintro e w39 ⟨rfl, hb⟩; refine ⟨_, rfl, ?_⟩; have n0_ := Aside0.mk (Kd.R_below (by (with_reducible repeat (first | apply Kd.R_alloc | apply Kd.R_drewN | apply Kd.R_drew)); exact HO_5.out) hb); have n1_ := Aside0.mk (below_step (by repeat (first | (with_reducible first | exact HB.out | apply below_alloc | apply pw_below_drewN | apply below_drew1) | exact HB.out)) hb); clear HO_5; clear HB; have HO_5 := n0_; have HB := n1_; clear n0_ n1_; (try clear hb); (try clear hb2); (try clear hk); (try clear hi)))
                     go_roundg k3
                     case measure => have := HK1.out; have := HJ12.out; have := HK3.out; omega
                     case rel => exact ⟨(x10_3 ++ ((⟨#[32]⟩ : ByteArray) ++ t397)), (wrap64 (x57_3 + 1)), (by first | rfl | (simp; done) | (simp [*]; done)), (by first | rfl | (simp; done) | (simp [*]; done)), H', ⟨by have := HK1.out; have := HJ12.out; have := HK3.out; omega⟩, ⟨by (with_reducible repeat (first | apply Kd.R_alloc | apply Kd.R_drewN | apply Kd.R_drew)); exact HO_5.out⟩, ⟨by repeat (first | (with_reducible first | exact HB.out | apply below_alloc | apply pw_below_drewN | apply below_drew1) | exact HB.out)⟩⟩
                    ·rw [if_neg c38] at H
                     exact absurd H (by simp)
                   ·rw [if_neg c37] at H
                    exact absurd H (by simp)
                  ·rw [if_neg c35] at H
                   exact absurd H (by simp)
                 ·rw [if_neg c34] at H
                  exact absurd H (by simp)
                ·rw [if_neg c33] at H
                 have c33b0 : decide (x57_3 < (((l0.take ((wrap64 (x6_1 + x8_12)) : Int).toNat).drop (x6_1 : Int).toNat).length : Int)) = false := decide_eq_false c33
                 have c33bL : decide (x57_3 < ((((wrap64 (x6_1 + x8_12)) : Int).toNat - (x6_1 : Int).toNat : Nat) : Int)) = false := by rw [← LEN_.out]; exact c33b0
                 clear c33
                 replace H := Option.bind_eq_some_iff.mp H
                 obtain ⟨t398, A400, H⟩ := H
                 replace H : (if x10_3.size + t398.size ≤ 9223372036854775807 then (if (x10_3 ++ t398).size + x9_12.size ≤ 9223372036854775807 then (if x5_1.length < 8796093022208 then (impl_Listing.l0 k3 l0 a1 (x5_1 ++ [(x10_3 ++ t398) ++ x9_12]) (wrap64 (x6_1 + x8_12))) else (none)) else (none)) else (none)) = some r := H
                 have A40 := Aside0.mk A400
                 clear A400
                 by_cases c41 : x10_3.size + t398.size ≤ 9223372036854775807
                 ·rw [if_pos c41] at H
                  have c41b0 := eq_true c41
                  have c41b1 : decide (x10_3.size + t398.size ≤ 9223372036854775807) = true := decide_eq_true c41
                  try have c41b2 : (9223372036854775807 < x10_3.size + t398.size) = False := eq_false (Nat.not_lt.2 c41)
                  try (have c41b3 := c41; simp at c41b3; have c41b4 := eq_true c41b3; have c41b5 := decide_eq_true c41b3; have c41b6 := eq_false (Nat.not_lt.2 c41b3))
                  by_cases c42 : (x10_3 ++ t398).size + x9_12.size ≤ 9223372036854775807
                  ·rw [if_pos c42] at H
                   have c42b0 := eq_true c42
                   have c42b1 : decide ((x10_3 ++ t398).size + x9_12.size ≤ 9223372036854775807) = true := decide_eq_true c42
                   try have c42b2 : (9223372036854775807 < (x10_3 ++ t398).size + x9_12.size) = False := eq_false (Nat.not_lt.2 c42)
                   try (have c42b3 := c42; simp at c42b3; have c42b4 := eq_true c42b3; have c42b5 := decide_eq_true c42b3; have c42b6 := eq_false (Nat.not_lt.2 c42b3))
                   have c42b7 : x10_3.size + t398.size + x9_12.size ≤ 9223372036854775807 := by have h_ := c42; simp only [ByteArray.size_append] at h_; exact h_
                   have c42b8 := eq_false (Nat.not_lt.2 c42b7)
                   replace c42b7 := eq_true c42b7
                   by_cases c43 : x5_1.length < 8796093022208
                   ·rw [if_pos c43] at H
                    have LMc43 := Aside0.mk c43
                    clear c43
                    obtain ⟨y399, hy399⟩ : ∃ y_ : List ByteArray, y_ = (x5_1 ++ [(x10_3 ++ t398) ++ x9_12]) := ⟨_, rfl⟩
                    replace H : (impl_Listing.l0 k3 l0 a1 y399 (wrap64 (x6_1 + x8_12))) = some r := by first | (rw [hy399]; with_reducible exact H) | (have H2_ := (Option.bind_some _ _).symm.trans H; rw [hy399]; with_reducible exact H2_) | (have H2_ := (Option.bind_some _ _).symm.trans H; with_reducible exact H2_) | with_reducible exact H | (rw [hy399]; exact H) | exact H
                    have Ny399 := Aside0.mk hy399
                    clear hy399
                    have H' := Aside0.mk H
                    clear H
                    have A40b := Aside0.mk (show strings_Repeat.f (⟨#[32]⟩ : ByteArray) (15 - (x10_3.size : Int)) = some t398 from by have wr_ : wrap64 (15 - (x10_3.size : Int)) = 15 - (x10_3.size : Int) := (by unfold wrap64; omega); rw [← wr_]; exact A40.out)
                    go_wp2_with (first | ((with_reducible refine gate_callee (f := 53) rfl ?_); refine goesL_ (some 73) rfl rfl Tryd.func53 (by kernel_rfl) rfl #[.string (⟨#[32]⟩ : ByteArray), .int .i64 (15 - (x10_3.size : Int))] rfl (by (try simp only [List.map_toArray, List.map_cons, List.map_nil]); first | done | rfl | (simp only [List.length_drop, List.length_take]; rfl)) ?_; (with_reducible refine (strings_Repeat.calls (⟨#[32]⟩ : ByteArray) (15 - (x10_3.size : Int)) t398 _ A40b.out).mono ?_); rintro e w44 ⟨rfl, hb⟩; refine ⟨_, rfl, ?_⟩; have n0_ := Aside0.mk (Kd.R_below (by (with_reducible repeat (first | apply Kd.R_alloc | apply Kd.R_drewN | apply Kd.R_drew)); exact HO_5.out) hb); have n1_ := Aside0.mk (below_step (by repeat (first | (with_reducible first | exact HB.out | apply below_alloc | apply pw_below_drewN | apply below_drew1) | exact HB.out)) hb); clear HO_5; clear HB; have HO_5 := n0_; have HB := n1_; clear n0_ n1_; (try clear hb); (try clear hb2); (try clear hk); (try clear hi)) | ((with_reducible refine gate_builtin (b := .append) (xs := #[.tmp 68, .tmp 77]) rfl ?_); at_builtin; refine Kd.R_append Kd.string (w0 := w) w.heap.size rfl (.tmp 68) (.tmp 77) 38 9 (.string ⟨#[]⟩) 16 rfl Tryd.underlying38 info9 rfl (by decide) (by omega) u5 x5_1 ((x10_3 ++ t398) ++ x9_12) [.string ((x10_3 ++ t398) ++ x9_12)] (fun _ => True) (fun _ => False) rfl rfl ?aP (fun _ hk => hk.elim) ?aF ?aO ?aB ?aS ?aL ?_; (case aP => exact rfl); (case aB => exact (by repeat (first | (with_reducible first | exact HB.out | apply below_alloc | apply pw_below_drewN | apply below_drew1) | exact HB.out))); (case aF => exact (fun _ _ => trivial)); (case aO => exact (by (with_reducible repeat (first | apply Kd.R_alloc | apply Kd.R_drewN | apply Kd.R_drew)); exact HO_5.out)); (case aS => exact (below_size (by repeat (first | (with_reducible first | exact HB.out | apply below_alloc | apply pw_below_drewN | apply below_drew1) | exact HB.out)))); (case aL => have := LMc43.out; omega); intro v400 w45 ho hb hg hat; rw [← Ny399.out] at ho; have n0_ := Aside0.mk (hb); have n1_ := Aside0.mk (ho); clear HB; clear HO_5; have HB := n0_; have HO401 := n1_; clear n0_ n1_; clear ho hb hg hat))
                    go_roundg k3
                    case measure => have := HK1.out; have := HJ12.out; have := HK3.out; omega
                    case rel => exact ⟨(y399), (wrap64 (x6_1 + x8_12)), (by first | rfl | (simp; done) | (simp [*]; done)), H', ⟨by have := HK1.out; have := HJ12.out; have := HK3.out; omega⟩, ⟨by (with_reducible repeat (first | apply Kd.R_alloc | apply Kd.R_drewN | apply Kd.R_drew)); exact HO401.out⟩, ⟨by repeat (first | (with_reducible first | exact HB.out | apply below_alloc | apply pw_below_drewN | apply below_drew1) | exact HB.out)⟩⟩
                   ·rw [if_neg c43] at H
                    exact absurd H (by simp)
                  ·rw [if_neg c42] at H
                   exact absurd H (by simp)
                 ·rw [if_neg c41] at H
                  exact absurd H (by simp)
             ·rw [if_neg c30] at H
              exact absurd H (by simp)
            ·rw [if_neg c29] at H
             exact absurd H (by simp)
           ·rw [if_neg c28] at H
            exact absurd H (by simp)
          ·rw [if_neg c27] at H
           exact absurd H (by simp)
       ·rw [if_neg c11] at H
        exact absurd H (by simp)
      ·rw [if_neg c9] at H
       exact absurd H (by simp)
     ·rw [if_neg c7] at H
      exact absurd H (by simp)
    ·rw [if_neg c6] at H
     have c6b0 : decide (x6_1 < (l0.length : Int)) = false := decide_eq_false c6
     clear c6
     obtain rfl := Option.some.inj H
     go_wp2
     go_ret
     exact ⟨_, by first | rfl | (simp [errW_none, errW_some] <;> rfl) | (simp [*, errW_none, errW_some] <;> rfl), by (with_reducible repeat (first | apply Kd.R_alloc | apply Kd.R_drewN | apply Kd.R_drew)); exact HO_5.out, by repeat (first | (with_reducible first | exact HB.out | apply below_alloc | apply pw_below_drewN | apply below_drew1) | exact HB.out)⟩

end Go.Proofs.YtlglpolokcnlhaaDoor.MK
