-- Written by this session's own program (wip/myprint.py) over the kit's print of the translation. Lean checks it.
import Derived.Test.YtkngnnfjdmndeaaMQx0
import Derived.Test.YtkngnnfjdmndeaaMQx5
namespace Go.Proofs.Ytkngnnfjdmndeaa.MQ
open Go.RowKit Go.Proofs.YtkngnnfjdmndeaaW.PrintWords Go.Proofs.YtkngnnfjdmndeaaW.PrintLast Go.Proofs.YtkngnnfjdmndeaaW.PrintMore
attribute [local go_sem] max2_int min2_int max_two min_two max_three min_three max_four min_four   -- for this text's walks alone
set_option linter.unusedVariables false
set_option linter.unusedSimpArgs false

/-! ### spec_l15Rule: function 33 -/
mutual
def spec_l15Rule.j0 : Nat → List (S34) → Bool → List Int → Int → Int → Int → Int → Bool → Option (Int × Int × Int × Int × Int × Int × Int)
 | 0, _, _, _, _, _, _, _, _ => none
 | k + 1, x1, x19, x1000, x1001, x1002, x177000, x177001, x177002 => if x19 = true then ((spec_l01Below.f x1000 x1001 x1002 (x1.length : Int)).bind fun bt180 => (if 0 ≤ bt180.1 then (if bt180.1 < (x1.length : Int) then (spec_l15Rule.j1 k x1000 bt180.2.1 bt180.2.2 ((rd_T34 x1 bt180.1).f0) ((rd_T34 x1 bt180.1).f1) ((rd_T34 x1 bt180.1).f2)) else (none)) else (none))) else (spec_l15Rule.j1 k x1000 x1001 x1002 x177000 x177001 x177002)
def spec_l15Rule.j1 : Nat → List Int → Int → Int → Int → Int → Bool → Option (Int × Int × Int × Int × Int × Int × Int)
 | 0, _, _, _, _, _, _ => none
 | k + 1, x1000, x1001, x1002, x177000, x177001, x177002 => (spec_l01PickInt.f x1000 x1001 x1002 (([0, 255, 255, 240, 15] : List Int))).bind fun bt187 => ((spec_l01PickInt.f x1000 bt187.2.1 bt187.2.2 (([0, 1, 2, 2] : List Int))).bind fun bt193 => ((spec_l01Once.f x1000 bt193.2.1 bt193.2.2 2).bind fun bt197 => (if bt197.1 = true then (spec_l15Rule.j2 k x1000 bt197.2.1 bt197.2.2 x177000 x177001 x177002 (IntKind.u16.wrap ((IntKind.u16.wrap (Int.tdiv x177000 256)) * 256)) (IntKind.u16.wrap ((IntKind.u16.wrap ((IntKind.u16.wrap (Int.tdiv x177000 256)) * 256)) + 255)) ((bt187.1) % 256) (Go.bits .and .u8 x177001 ((bt187.1) % 256)) bt193.1) else (spec_l15Rule.j2 k x1000 bt197.2.1 bt197.2.2 x177000 x177001 x177002 x177000 x177000 ((bt187.1) % 256) (Go.bits .and .u8 x177001 ((bt187.1) % 256)) bt193.1))))
def spec_l15Rule.j2 : Nat → List Int → Int → Int → Int → Int → Bool → Int → Int → Int → Int → Int → Option (Int × Int × Int × Int × Int × Int × Int)
 | 0, _, _, _, _, _, _, _, _, _, _, _ => none
 | k + 1, x1000, x1001, x1002, x177000, x177001, x177002, x197000, x197001, x197002, x197003, x197004 => if x177002 = true then ((spec_l01Once.f x1000 x1001 x1002 2).bind fun bt200 => (if bt200.1 = true then (some (x197000, x197001, x197002, x197003, 1, bt200.2.1, bt200.2.2)) else (some (x197000, x197001, x197002, x197003, x197004, bt200.2.1, bt200.2.2)))) else (some (x197000, x197001, x197002, x197003, x197004, x1001, x1002))
end
def spec_l15Rule.f (k : Nat) (s0_0 : List Int) (s0_1 : Int) (s0_2 : Int) (l1 : List (S34)) : Option (Int × Int × Int × Int × Int × Int × Int) := (spec_l04Pc.f s0_0 s0_1 s0_2).bind fun bt170 => ((spec_l02Byte.f s0_0 bt170.2.1 bt170.2.2).bind fun bt173 => (if (l1.length : Int) > 0 then ((spec_l01Below.f s0_0 bt173.2.1 bt173.2.2 4).bind fun bt177 => (spec_l15Rule.j0 k l1 (decide (bt177.1 > 0)) s0_0 bt177.2.1 bt177.2.2 bt170.1 bt173.1 false)) else (spec_l15Rule.j0 k l1 false s0_0 bt173.2.1 bt173.2.2 bt170.1 bt173.1 false)))
theorem spec_l15Rule.mono_l : ∀ k, (∀ y0 y1 y2 y3 y4 y5 y6 y7, LeO (spec_l15Rule.j0 k y0 y1 y2 y3 y4 y5 y6 y7) (spec_l15Rule.j0 (k + 1) y0 y1 y2 y3 y4 y5 y6 y7)) ∧ (∀ y0 y1 y2 y3 y4 y5, LeO (spec_l15Rule.j1 k y0 y1 y2 y3 y4 y5) (spec_l15Rule.j1 (k + 1) y0 y1 y2 y3 y4 y5)) ∧ (∀ y0 y1 y2 y3 y4 y5 y6 y7 y8 y9 y10, LeO (spec_l15Rule.j2 k y0 y1 y2 y3 y4 y5 y6 y7 y8 y9 y10) (spec_l15Rule.j2 (k + 1) y0 y1 y2 y3 y4 y5 y6 y7 y8 y9 y10))
 | 0 => ⟨fun _ _ _ _ _ _ _ _ r h => by simp [spec_l15Rule.j0] at h, fun _ _ _ _ _ _ r h => by simp [spec_l15Rule.j1] at h, fun _ _ _ _ _ _ _ _ _ _ _ r h => by simp [spec_l15Rule.j2] at h⟩
 | k + 1 => by
  obtain ⟨ih0, ih1, ih2⟩ := spec_l15Rule.mono_l k
  refine ⟨?_, ?_, ?_⟩
  ·intro y0 y1 y2 y3 y4 y5 y6 y7
   unfold spec_l15Rule.j0
   repeat' first
   | (with_reducible exact ih0 _ _ _ _ _ _ _ _)
   | (with_reducible exact ih1 _ _ _ _ _ _)
   | (with_reducible exact ih2 _ _ _ _ _ _ _ _ _ _ _)
   | (with_reducible exact LeO.refl _)
   | (with_reducible exact LeO.none _)
   | (with_reducible refine LeO.ite ?_ ?_)
   | (with_reducible refine LeO.bind ?_ (fun _ => ?_))
   | exact ih0 _ _ _ _ _ _ _ _
   | exact ih1 _ _ _ _ _ _
   | exact ih2 _ _ _ _ _ _ _ _ _ _ _
   | exact LeO.none _
   | refine LeO.ite ?_ ?_
   | refine LeO.bind ?_ (fun _ => ?_)
  ·intro y0 y1 y2 y3 y4 y5
   unfold spec_l15Rule.j1
   repeat' first
   | (with_reducible exact ih0 _ _ _ _ _ _ _ _)
   | (with_reducible exact ih1 _ _ _ _ _ _)
   | (with_reducible exact ih2 _ _ _ _ _ _ _ _ _ _ _)
   | (with_reducible exact LeO.refl _)
   | (with_reducible exact LeO.none _)
   | (with_reducible refine LeO.ite ?_ ?_)
   | (with_reducible refine LeO.bind ?_ (fun _ => ?_))
   | exact ih0 _ _ _ _ _ _ _ _
   | exact ih1 _ _ _ _ _ _
   | exact ih2 _ _ _ _ _ _ _ _ _ _ _
   | exact LeO.none _
   | refine LeO.ite ?_ ?_
   | refine LeO.bind ?_ (fun _ => ?_)
  ·intro y0 y1 y2 y3 y4 y5 y6 y7 y8 y9 y10
   unfold spec_l15Rule.j2
   repeat' first
   | (with_reducible exact ih0 _ _ _ _ _ _ _ _)
   | (with_reducible exact ih1 _ _ _ _ _ _)
   | (with_reducible exact ih2 _ _ _ _ _ _ _ _ _ _ _)
   | (with_reducible exact LeO.refl _)
   | (with_reducible exact LeO.none _)
   | (with_reducible refine LeO.ite ?_ ?_)
   | (with_reducible refine LeO.bind ?_ (fun _ => ?_))
   | exact ih0 _ _ _ _ _ _ _ _
   | exact ih1 _ _ _ _ _ _
   | exact ih2 _ _ _ _ _ _ _ _ _ _ _
   | exact LeO.none _
   | refine LeO.ite ?_ ?_
   | refine LeO.bind ?_ (fun _ => ?_)
theorem spec_l15Rule.mono : ∀ a0 a1 a2 a3 k, LeO (spec_l15Rule.f k a0 a1 a2 a3) (spec_l15Rule.f (k + 1) a0 a1 a2 a3) := by
 intro a0 a1 a2 a3 k
 obtain ⟨ih0, ih1, ih2⟩ := spec_l15Rule.mono_l k
 unfold spec_l15Rule.f
 repeat' first
   | (with_reducible exact ih0 _ _ _ _ _ _ _ _)
   | (with_reducible exact ih1 _ _ _ _ _ _)
   | (with_reducible exact ih2 _ _ _ _ _ _ _ _ _ _ _)
   | (with_reducible exact LeO.refl _)
   | (with_reducible exact LeO.none _)
   | (with_reducible refine LeO.ite ?_ ?_)
   | (with_reducible refine LeO.bind ?_ (fun _ => ?_))
   | exact ih0 _ _ _ _ _ _ _ _
   | exact ih1 _ _ _ _ _ _
   | exact ih2 _ _ _ _ _ _ _ _ _ _ _
   | exact LeO.none _
   | refine LeO.ite ?_ ?_
   | refine LeO.bind ?_ (fun _ => ?_)
def spec_l15Rule.T4 : Bool × List (List Nat × List Nat) := (true, [([], []), ([0], [0]), ([], []), ([2], [2]), ([], []), ([], []), ([4, 5], [4, 5]), ([6], [6]), ([], []), ([], []), ([8, 9, 6], [8, 9]), ([1, 3, 7, 10], [1, 3, 7, 10]), ([], []), ([12, 11, 10, 0, 1, 2, 3, 4, 5, 6, 7, 8, 9, 10, 11, 12], [11, 12])])
def spec_l15Rule.B4 : List Nat := [0, 1, 0, 4, 0, 0, 48, 112, 0, 0, 880, 2047, 0, 8191]
theorem spec_l15Rule.tab4 : rtab .any (opsOf Try.f33 4) = spec_l15Rule.T4 := by kernel_rfl
theorem spec_l15Rule.bits4 : waitsOk spec_l15Rule.T4.2 spec_l15Rule.B4 = true := by kernel_rfl
set_option maxHeartbeats 8000000 in
set_option maxRecDepth 100000 in
theorem spec_l15Rule.calls (k : Nat) (g : Nat) (s0_0 : List Int) (s0_1 : Int) (s0_2 : Int) (A1 : Option Addr) (c1 : Nat) (l1 : List (S34)) (r1 : Int) (r2 : Int) (r3 : Int) (r4 : Int) (r5 : Int) (r6 : Int) (r7 : Int) (w0 w : World) (hI : IsS60 w0 w g s0_0 s0_1 s0_2) (hB : Below w0.heap.size w0 w) (hr1 : ∀ W_, KeepBut w W_ g none → Kd.C k34 W_ A1 l1.length l1) (hc1 : l1.length ≤ c1) (h : spec_l15Rule.f k s0_0 s0_1 s0_2 l1 = some (r1, r2, r3, r4, r5, r6, r7)) :
  Calls Try.prog 33 #[.pointer (some ⟨g, 0, none⟩), .slice A1 l1.length c1] w fun e w' => e = .returned (.agg #[.int .u16 r1, .int .u16 r2, .int .u8 r3, .int .u8 r4, .int .i64 r5]) ∧ IsS60 w0 w' g s0_0 r6 r7 ∧ Below w0.heap.size w0 w' ∧ KeepBut w w' g none := by
 have hu24 := Try.underlying24
 have hu34 := Try.underlying34
 have HR1 := Aside0.mk hr1
 have HC1 := Aside0.mk hc1
 clear hr1 hc1
 have HI0 := Aside0.mk hI
 have HK := Aside0.mk (KeepBut.refl w g none)
 have HL := Aside0.mk hB.size
 clear hI
 have HW0 := Aside0.mk hB.size
 have HB := Aside0.mk hB
 clear hB
 have H : ((spec_l04Pc.f s0_0 s0_1 s0_2).bind fun bt170 => ((spec_l02Byte.f s0_0 bt170.2.1 bt170.2.2).bind fun bt173 => (if (l1.length : Int) > 0 then ((spec_l01Below.f s0_0 bt173.2.1 bt173.2.2 4).bind fun bt177 => (spec_l15Rule.j0 k l1 (decide (bt177.1 > 0)) s0_0 bt177.2.1 bt177.2.2 bt170.1 bt173.1 false)) else (spec_l15Rule.j0 k l1 false s0_0 bt173.2.1 bt173.2.2 bt170.1 bt173.1 false)))) = some (r1, r2, r3, r4, r5, r6, r7) := h
 clear h
 replace H := Option.bind_eq_some_iff.mp H
 obtain ⟨⟨t170, t171, t172⟩, A30, H⟩ := H
 replace H : ((spec_l02Byte.f s0_0 t171 t172).bind fun bt173 => (if (l1.length : Int) > 0 then ((spec_l01Below.f s0_0 bt173.2.1 bt173.2.2 4).bind fun bt177 => (spec_l15Rule.j0 k l1 (decide (bt177.1 > 0)) s0_0 bt177.2.1 bt177.2.2 t170 bt173.1 false)) else (spec_l15Rule.j0 k l1 false s0_0 bt173.2.1 bt173.2.2 t170 bt173.1 false))) = some (r1, r2, r3, r4, r5, r6, r7) := H
 have A3 := Aside0.mk A30
 clear A30
 replace H := Option.bind_eq_some_iff.mp H
 obtain ⟨⟨t173, t174, t175⟩, A40, H⟩ := H
 replace H : (if (l1.length : Int) > 0 then ((spec_l01Below.f s0_0 t174 t175 4).bind fun bt177 => (spec_l15Rule.j0 k l1 (decide (bt177.1 > 0)) s0_0 bt177.2.1 bt177.2.2 t170 t173 false)) else (spec_l15Rule.j0 k l1 false s0_0 t174 t175 t170 t173 false)) = some (r1, r2, r3, r4, r5, r6, r7) := H
 have A4 := Aside0.mk A40
 clear A40
 have HC5 := Aside0.mk H
 clear H
 go_enter Try.func33, Try.ntmps33
 go_upto_region 2 with (first | ((with_reducible refine gate_dst (N := 4) rfl ?_); refine box_event ?hg (N := 4) ?hd (cs := #[.int .u16 0, .int .u16 0, .int .u8 0, .int .u8 0, .int .i64 0]) (t := 24) ?hr ?_; (case hd => rfl); (case hg => rfl); (case hr => first | (go_simp; done) | (go_simp; rfl)); intro gb169 hg w6 hbox hb; have n0_ := Aside0.mk (IsS60.below (by repeat (first | (with_reducible first | exact HI0.out | apply IsS60.alloc | apply IsS60.drewN | apply IsS60.drew | apply IsS60.set_1 | apply IsS60.set_2) | exact HI0.out)) hb); have n1_ := Aside0.mk (KeepBut.trans (by repeat (first | (with_reducible first | exact HK.out | apply KeepBut.set_ | apply keep_drewN | apply keep_drew | apply keep_alloc) | exact HK.out)) (KeepBut.of_below hb g none) (.inl rfl)); have n2_ := Aside0.mk (below_step (by repeat (first | (with_reducible first | exact HB.out | apply below_alloc | apply pw_below_drewN | apply below_drew1 | refine below_set ?_ (IsS60.ge HI0.out)) | exact HB.out)) hb); have n3_ := Aside0.mk (hbox); have n4_ := Aside0.mk ((by rw [hg]; exact (keep_size (w := w) (g := g) (row := none) (by repeat (first | (with_reducible first | exact HK.out | apply KeepBut.set_ | apply keep_drewN | apply keep_drew | apply keep_alloc) | exact HK.out))) : w.heap.size ≤ gb169)); have n5_ := Aside0.mk ((Nat.le_trans HW0.out (by rw [hg]; exact (keep_size (w := w) (g := g) (row := none) (by repeat (first | (with_reducible first | exact HK.out | apply KeepBut.set_ | apply keep_drewN | apply keep_drew | apply keep_alloc) | exact HK.out))) : w.heap.size ≤ gb169) : w0.heap.size ≤ gb169)); have n6_ := Aside0.mk ((by rw [hg]; exact Nat.ne_of_lt (IsS60.lt (show IsS60 w0 _ g s0_0 s0_1 s0_2 from by repeat (first | (with_reducible first | exact HI0.out | apply IsS60.alloc | apply IsS60.drewN | apply IsS60.drew | apply IsS60.set_1 | apply IsS60.set_2) | exact HI0.out))) : g ≠ gb169)); have n7_ := Aside0.mk ((by rw [hg]; exact Nat.ne_of_gt (IsS60.lt (show IsS60 w0 _ g s0_0 s0_1 s0_2 from by repeat (first | (with_reducible first | exact HI0.out | apply IsS60.alloc | apply IsS60.drewN | apply IsS60.drew | apply IsS60.set_1 | apply IsS60.set_2) | exact HI0.out))) : gb169 ≠ g)); clear HI0; clear HK; clear HB; have HI0 := n0_; have HK := n1_; have HB := n2_; have BK169 := n3_; have GW169 := n4_; have GE169 := n5_; have NB0_169 := n6_; have NB169_0 := n7_; clear n0_ n1_ n2_ n3_ n4_ n5_ n6_ n7_; clear hb hbox hg) | ((with_reducible refine gate_callee (f := 22) rfl ?_); refine goesL_ (some 8) rfl rfl Try.func22 (by kernel_rfl) rfl #[.pointer (some ⟨g, 0, none⟩)] rfl (by (try simp only [List.map_toArray, List.map_cons, List.map_nil]); first | done | rfl | (simp only [List.length_drop, List.length_take]; rfl)) ?_; (with_reducible refine (spec_l04Pc.calls g s0_0 s0_1 s0_2 t170 t171 t172 w0 _ ?side1 ?side2 A3.out).mono ?_); (case side1 => repeat (first | (with_reducible first | exact HI0.out | apply IsS60.alloc | apply IsS60.drewN | apply IsS60.drew | apply IsS60.set_1 | apply IsS60.set_2 | refine IsS60.far ?_ NB0_169.out _) | exact HI0.out)); (case side2 => repeat (first | (with_reducible first | exact HB.out | apply below_alloc | apply pw_below_drewN | apply below_drew1 | refine below_set ?_ (IsS60.ge HI0.out) | refine below_set ?_ GE169.out) | exact HB.out)); rintro e w7 ⟨rfl, hi, hb, hk⟩; refine ⟨_, rfl, ?_⟩; have n0_ := Aside0.mk (KeepBut.blk hk (g' := gb169) (o := .cells #[.int .u16 0, .int .u16 0, .int .u8 0, .int .u8 0, .int .i64 0] 24 (0, 0)) (by (with_reducible repeat (first | refine blk_drewN ?_ _ | refine blk_drew ?_ | refine blk_alloc ?_ _)); exact BK169.out) NB169_0.out (by simp)); have n1_ := Aside0.mk (KeepBut.trans (by repeat (first | (with_reducible first | exact HK.out | apply KeepBut.set_ | apply keep_drewN | apply keep_drew | apply keep_alloc | refine keep_far ?_ GW169.out _) | exact HK.out)) hk (.inl rfl)); have n2_ := Aside0.mk (hb); have n3_ := Aside0.mk (hi); clear BK169; clear HK; clear HB; clear HI0; have BK169 := n0_; have HK := n1_; have HB := n2_; have HI0 := n3_; clear n0_ n1_ n2_ n3_; (try clear hb); (try clear hb2); (try clear hk); (try clear hi)) | ((with_reducible refine gate_callee (f := 23) rfl ?_); refine goesL_ (some 10) rfl rfl Try.func23 (by kernel_rfl) rfl #[.pointer (some ⟨g, 0, none⟩)] rfl (by (try simp only [List.map_toArray, List.map_cons, List.map_nil]); first | done | rfl | (simp only [List.length_drop, List.length_take]; rfl)) ?_; (with_reducible refine (spec_l02Byte.calls g s0_0 t171 t172 t173 t174 t175 w0 _ ?side1 ?side2 A4.out).mono ?_); (case side1 => repeat (first | (with_reducible first | exact HI0.out | apply IsS60.alloc | apply IsS60.drewN | apply IsS60.drew | apply IsS60.set_1 | apply IsS60.set_2 | refine IsS60.far ?_ NB0_169.out _) | exact HI0.out)); (case side2 => repeat (first | (with_reducible first | exact HB.out | apply below_alloc | apply pw_below_drewN | apply below_drew1 | refine below_set ?_ (IsS60.ge HI0.out) | refine below_set ?_ GE169.out) | exact HB.out)); rintro e w8 ⟨rfl, hi, hb, hk⟩; refine ⟨_, rfl, ?_⟩; have n0_ := Aside0.mk (KeepBut.blk hk (g' := gb169) (o := .cells #[.int .u16 0, .int .u16 0, .int .u8 0, .int .u8 0, .int .i64 0] 24 (0, 0)) (by (with_reducible repeat (first | refine blk_drewN ?_ _ | refine blk_drew ?_ | refine blk_alloc ?_ _)); exact BK169.out) NB169_0.out (by simp)); have n1_ := Aside0.mk (KeepBut.trans (by repeat (first | (with_reducible first | exact HK.out | apply KeepBut.set_ | apply keep_drewN | apply keep_drew | apply keep_alloc | refine keep_far ?_ GW169.out _) | exact HK.out)) hk (.inl rfl)); have n2_ := Aside0.mk (hb); have n3_ := Aside0.mk (hi); clear BK169; clear HK; clear HB; clear HI0; have BK169 := n0_; have HK := n1_; have HB := n2_; have HI0 := n3_; clear n0_ n1_ n2_ n3_; (try clear hb); (try clear hb2); (try clear hk); (try clear hi)) | ((with_reducible refine gate_dst (N := 5) rfl ?_); refine box_event ?hg (N := 5) ?hd (cs := #[.int .u16 0, .int .u8 0, .bool false]) (t := 34) ?hr ?_; (case hd => rfl); (case hg => rfl); (case hr => first | (go_simp; done) | (go_simp; rfl)); intro gb176 hg w9 hbox hb; have n0_ := Aside0.mk (IsS60.below (by repeat (first | (with_reducible first | exact HI0.out | apply IsS60.alloc | apply IsS60.drewN | apply IsS60.drew | apply IsS60.set_1 | apply IsS60.set_2 | refine IsS60.far ?_ NB0_169.out _) | exact HI0.out)) hb); have n1_ := Aside0.mk (blk_below (g := gb169) (o := .cells #[.int .u16 0, .int .u16 0, .int .u8 0, .int .u8 0, .int .i64 0] 24 (0, 0)) (by (with_reducible repeat (first | refine blk_drewN ?_ _ | refine blk_drew ?_ | refine blk_alloc ?_ _)); exact BK169.out) hb); have n2_ := Aside0.mk (KeepBut.trans (by repeat (first | (with_reducible first | exact HK.out | apply KeepBut.set_ | apply keep_drewN | apply keep_drew | apply keep_alloc | refine keep_far ?_ GW169.out _) | exact HK.out)) (KeepBut.of_below hb g none) (.inl rfl)); have n3_ := Aside0.mk (below_step (by repeat (first | (with_reducible first | exact HB.out | apply below_alloc | apply pw_below_drewN | apply below_drew1 | refine below_set ?_ (IsS60.ge HI0.out) | refine below_set ?_ GE169.out) | exact HB.out)) hb); have n4_ := Aside0.mk (hbox); have n5_ := Aside0.mk ((by rw [hg]; exact (keep_size (w := w) (g := g) (row := none) (by repeat (first | (with_reducible first | exact HK.out | apply KeepBut.set_ | apply keep_drewN | apply keep_drew | apply keep_alloc | refine keep_far ?_ GW169.out _) | exact HK.out))) : w.heap.size ≤ gb176)); have n6_ := Aside0.mk ((Nat.le_trans HW0.out (by rw [hg]; exact (keep_size (w := w) (g := g) (row := none) (by repeat (first | (with_reducible first | exact HK.out | apply KeepBut.set_ | apply keep_drewN | apply keep_drew | apply keep_alloc | refine keep_far ?_ GW169.out _) | exact HK.out))) : w.heap.size ≤ gb176) : w0.heap.size ≤ gb176)); have n7_ := Aside0.mk ((by rw [hg]; exact Nat.ne_of_lt (blk_lt (g := gb169) (o := .cells #[.int .u16 0, .int .u16 0, .int .u8 0, .int .u8 0, .int .i64 0] 24 (0, 0)) (by (with_reducible repeat (first | refine blk_drewN ?_ _ | refine blk_drew ?_ | refine blk_alloc ?_ _)); exact BK169.out)) : gb169 ≠ gb176)); have n8_ := Aside0.mk ((by rw [hg]; exact Nat.ne_of_gt (blk_lt (g := gb169) (o := .cells #[.int .u16 0, .int .u16 0, .int .u8 0, .int .u8 0, .int .i64 0] 24 (0, 0)) (by (with_reducible repeat (first | refine blk_drewN ?_ _ | refine blk_drew ?_ | refine blk_alloc ?_ _)); exact BK169.out)) : gb176 ≠ gb169)); have n9_ := Aside0.mk ((by rw [hg]; exact Nat.ne_of_lt (IsS60.lt (show IsS60 w0 _ g s0_0 t174 t175 from by repeat (first | (with_reducible first | exact HI0.out | apply IsS60.alloc | apply IsS60.drewN | apply IsS60.drew | apply IsS60.set_1 | apply IsS60.set_2 | refine IsS60.far ?_ NB0_169.out _) | exact HI0.out))) : g ≠ gb176)); have n10_ := Aside0.mk ((by rw [hg]; exact Nat.ne_of_gt (IsS60.lt (show IsS60 w0 _ g s0_0 t174 t175 from by repeat (first | (with_reducible first | exact HI0.out | apply IsS60.alloc | apply IsS60.drewN | apply IsS60.drew | apply IsS60.set_1 | apply IsS60.set_2 | refine IsS60.far ?_ NB0_169.out _) | exact HI0.out))) : gb176 ≠ g)); clear HI0; clear BK169; clear HK; clear HB; have HI0 := n0_; have BK169 := n1_; have HK := n2_; have HB := n3_; have BK176 := n4_; have GW176 := n5_; have GE176 := n6_; have NB169_176 := n7_; have NB176_169 := n8_; have NB0_176 := n9_; have NB176_0 := n10_; clear n0_ n1_ n2_ n3_ n4_ n5_ n6_ n7_ n8_ n9_ n10_; clear hb hbox hg; have hnb10 := NB176_169.out; have hnc10 := NB169_176.out; have hnb11 := NB176_0.out; have hnc11 := NB0_176.out; have hcz12_0 : w9.cell? ⟨gb176, 0, none⟩ = some (.int .u16 0) := (blk_cell BK176.out 0).trans rfl; have hcz12_1 : w9.cell? ⟨gb176, 1, none⟩ = some (.int .u8 0) := (blk_cell BK176.out 1).trans rfl; have hcz12_2 : w9.cell? ⟨gb176, 2, none⟩ = some (.bool false) := (blk_cell BK176.out 2).trans rfl; have hfz12_0 := blk_frozen BK176.out 0; have hfz12_1 := blk_frozen BK176.out 1; have hfz12_2 := blk_frozen BK176.out 2))
 (try simp only [Act.put, List.setIfInBounds_toArray, List.set_cons_zero, List.set_cons_succ])
 go_cut [19] (fun v19 wc => ∃ (kq : Nat) (x19_4 : Bool) (x1001_4 : Int) (x1002_4 : Int), v19 = .bool x19_4 ∧ Aside0 (spec_l15Rule.j0 kq l1 x19_4 s0_0 x1001_4 x1002_4 t170 t173 false = some (r1, r2, r3, r4, r5, r6, r7)) ∧ Aside0 (kq ≤ k) ∧ Aside0 (wc.heap[gb169]? = some (.cells #[.int .u16 0, .int .u16 0, .int .u8 0, .int .u8 0, .int .i64 0] 24 (0, 0))) ∧ Aside0 (wc.heap[gb176]? = some (.cells #[.int .u16 t170, .int .u8 t173, .bool false] 34 (0, 0))) ∧ Aside0 (IsS60 w0 wc g s0_0 x1001_4 x1002_4) ∧ Aside0 (KeepBut w wc g none) ∧ Aside0 (Below w0.heap.size w0 wc))
 case first =>
  have H := HC5.out
  clear HC5
  by_cases c13 : (l1.length : Int) > 0
  ·rw [if_pos c13] at H
   have c13b0 : decide (0 < (l1.length : Int)) = true := decide_eq_true c13
   have c13b1 : decide (0 < l1.length) = true := decide_eq_true (by omega)
   clear c13
   (first | rw [c13b0] | (simp only [i64_w, i32_w]; rw [c13b0]) | skip)
   replace H := Option.bind_eq_some_iff.mp H
   obtain ⟨⟨t177, t178, t179⟩, A140, H⟩ := H
   replace H : (spec_l15Rule.j0 k l1 (decide (t177 > 0)) s0_0 t178 t179 t170 t173 false) = some (r1, r2, r3, r4, r5, r6, r7) := H
   have A14 := Aside0.mk A140
   clear A140
   have H' := Aside0.mk H
   clear H
   go_wp2_with (first | (go_at_call 34; (with_reducible refine (spec_l01Below.calls g s0_0 t174 t175 4 t177 t178 t179 w0 _ ?side1 ?side2 A14.out).mono ?_); (case side1 => repeat (first | (with_reducible first | exact HI0.out | apply IsS60.alloc | apply IsS60.drewN | apply IsS60.drew | apply IsS60.set_1 | apply IsS60.set_2 | refine IsS60.far ?_ NB0_169.out _ | refine IsS60.far ?_ NB0_176.out _) | exact HI0.out)); (case side2 => repeat (first | (with_reducible first | exact HB.out | apply below_alloc | apply pw_below_drewN | apply below_drew1 | refine below_set ?_ (IsS60.ge HI0.out) | refine below_set ?_ GE169.out | refine below_set ?_ GE176.out) | exact HB.out)); rintro e w15 ⟨rfl, hi, hb, hk⟩; have n0_ := Aside0.mk (KeepBut.blk hk (g' := gb169) (o := .cells #[.int .u16 0, .int .u16 0, .int .u8 0, .int .u8 0, .int .i64 0] 24 (0, 0)) (by (with_reducible repeat (first | refine blk_drewN ?_ _ | refine blk_drew ?_ | refine blk_alloc ?_ _)); refine blk_far ?_ NB169_176.out _; (with_reducible repeat (first | refine blk_drewN ?_ _ | refine blk_drew ?_ | refine blk_alloc ?_ _)); refine blk_far ?_ NB169_176.out _; (with_reducible repeat (first | refine blk_drewN ?_ _ | refine blk_drew ?_ | refine blk_alloc ?_ _)); refine blk_far ?_ NB169_176.out _; (with_reducible repeat (first | refine blk_drewN ?_ _ | refine blk_drew ?_ | refine blk_alloc ?_ _)); exact BK169.out) NB169_0.out (by simp)); have n1_ := Aside0.mk (KeepBut.blk hk (g' := gb176) (o := .cells #[.int .u16 t170, .int .u8 t173, .bool false] 34 (0, 0)) (by (with_reducible repeat (first | refine blk_drewN ?_ _ | refine blk_drew ?_ | refine blk_alloc ?_ _)); refine blk_put (cs := #[.int .u16 t170, .int .u8 t173, .bool false]) ?_ 2 _ rfl; (with_reducible repeat (first | refine blk_drewN ?_ _ | refine blk_drew ?_ | refine blk_alloc ?_ _)); refine blk_put (cs := #[.int .u16 t170, .int .u8 0, .bool false]) ?_ 1 _ rfl; (with_reducible repeat (first | refine blk_drewN ?_ _ | refine blk_drew ?_ | refine blk_alloc ?_ _)); refine blk_put (cs := #[.int .u16 0, .int .u8 0, .bool false]) ?_ 0 _ rfl; (with_reducible repeat (first | refine blk_drewN ?_ _ | refine blk_drew ?_ | refine blk_alloc ?_ _)); exact BK176.out) NB176_0.out (by simp)); have n2_ := Aside0.mk (KeepBut.trans (by repeat (first | (with_reducible first | exact HK.out | apply KeepBut.set_ | apply keep_drewN | apply keep_drew | apply keep_alloc | refine keep_far ?_ GW169.out _ | refine keep_far ?_ GW176.out _) | exact HK.out)) hk (.inl rfl)); have n3_ := Aside0.mk (hb); have n4_ := Aside0.mk (hi); clear BK169; clear BK176; clear HK; clear HB; clear HI0; have BK169 := n0_; have BK176 := n1_; have HK := n2_; have HB := n3_; have HI0 := n4_; clear n0_ n1_ n2_ n3_ n4_; (try clear hb); (try clear hb2); (try clear hk); (try clear hi)))
   go_meet
   case rel => exact ⟨_, (decide (t177 > 0)), (t178), (t179), (by first | rfl | (simp; done) | (simp [*]; done)), H', ⟨by first | omega | exact Nat.le_refl _⟩, ⟨by (with_reducible repeat (first | refine blk_drewN ?_ _ | refine blk_drew ?_ | refine blk_alloc ?_ _)); exact BK169.out⟩, ⟨by (with_reducible repeat (first | refine blk_drewN ?_ _ | refine blk_drew ?_ | refine blk_alloc ?_ _)); exact BK176.out⟩, ⟨by repeat (first | (with_reducible first | exact HI0.out | apply IsS60.alloc | apply IsS60.drewN | apply IsS60.drew | apply IsS60.set_1 | apply IsS60.set_2 | refine IsS60.far ?_ NB0_169.out _ | refine IsS60.far ?_ NB0_176.out _) | exact HI0.out)⟩, ⟨by repeat (first | (with_reducible first | exact HK.out | apply KeepBut.set_ | apply keep_drewN | apply keep_drew | apply keep_alloc | refine keep_far ?_ GW169.out _ | refine keep_far ?_ GW176.out _) | exact HK.out)⟩, ⟨by repeat (first | (with_reducible first | exact HB.out | apply below_alloc | apply pw_below_drewN | apply below_drew1 | refine below_set ?_ (IsS60.ge HI0.out) | refine below_set ?_ GE169.out | refine below_set ?_ GE176.out) | exact HB.out)⟩⟩
  ·rw [if_neg c13] at H
   have c13b0 : decide (0 < (l1.length : Int)) = false := decide_eq_false c13
   have c13b1 : decide (0 < l1.length) = false := decide_eq_false (by omega)
   clear c13
   (first | rw [c13b0] | (simp only [i64_w, i32_w]; rw [c13b0]) | skip)
   have H' := Aside0.mk H
   clear H
   go_wp2
   go_meet
   case rel => exact ⟨_, (false), (t174), (t175), (by first | rfl | (simp; done) | (simp [*]; done)), H', ⟨by first | omega | exact Nat.le_refl _⟩, ⟨by (with_reducible repeat (first | refine blk_drewN ?_ _ | refine blk_drew ?_ | refine blk_alloc ?_ _)); refine blk_far ?_ NB169_176.out _; (with_reducible repeat (first | refine blk_drewN ?_ _ | refine blk_drew ?_ | refine blk_alloc ?_ _)); refine blk_far ?_ NB169_176.out _; (with_reducible repeat (first | refine blk_drewN ?_ _ | refine blk_drew ?_ | refine blk_alloc ?_ _)); refine blk_far ?_ NB169_176.out _; (with_reducible repeat (first | refine blk_drewN ?_ _ | refine blk_drew ?_ | refine blk_alloc ?_ _)); exact BK169.out⟩, ⟨by (with_reducible repeat (first | refine blk_drewN ?_ _ | refine blk_drew ?_ | refine blk_alloc ?_ _)); refine blk_put (cs := #[.int .u16 t170, .int .u8 t173, .bool false]) ?_ 2 _ rfl; (with_reducible repeat (first | refine blk_drewN ?_ _ | refine blk_drew ?_ | refine blk_alloc ?_ _)); refine blk_put (cs := #[.int .u16 t170, .int .u8 0, .bool false]) ?_ 1 _ rfl; (with_reducible repeat (first | refine blk_drewN ?_ _ | refine blk_drew ?_ | refine blk_alloc ?_ _)); refine blk_put (cs := #[.int .u16 0, .int .u8 0, .bool false]) ?_ 0 _ rfl; (with_reducible repeat (first | refine blk_drewN ?_ _ | refine blk_drew ?_ | refine blk_alloc ?_ _)); exact BK176.out⟩, ⟨by repeat (first | (with_reducible first | exact HI0.out | apply IsS60.alloc | apply IsS60.drewN | apply IsS60.drew | apply IsS60.set_1 | apply IsS60.set_2 | refine IsS60.far ?_ NB0_169.out _ | refine IsS60.far ?_ NB0_176.out _) | exact HI0.out)⟩, ⟨by repeat (first | (with_reducible first | exact HK.out | apply KeepBut.set_ | apply keep_drewN | apply keep_drew | apply keep_alloc | refine keep_far ?_ GW169.out _ | refine keep_far ?_ GW176.out _) | exact HK.out)⟩, ⟨by repeat (first | (with_reducible first | exact HB.out | apply below_alloc | apply pw_below_drewN | apply below_drew1 | refine below_set ?_ (IsS60.ge HI0.out) | refine below_set ?_ GE169.out | refine below_set ?_ GE176.out) | exact HB.out)⟩⟩
 case rest =>
  clear HC5
  try clear c1
  try clear c2
  try clear p2
  try clear c3
  try clear c10
  try clear c11
  try clear c13
  try clear c13b0
  try clear c13b1
  try clear hcz12_0
  try clear hcz12_1
  try clear hcz12_2
  try clear hfz12_0
  try clear hfz12_1
  try clear hfz12_2
  obtain ⟨kq, x19_4, x1001_4, x1002_4, rfl, HA, HJ4, BK169, BK176, HI0, HK, HB⟩ := hcut
  cases kq with
  | zero => exact absurd HA.out (by simp [spec_l15Rule.j0])
  | succ kj4 =>
   have H := HA.out
   clear HA
   simp only [spec_l15Rule.j0] at H
   have HC16 := Aside0.mk H
   clear H
   go_upto_if 19 with (fail)
   go_cut [] (fun wc => ∃ (kq : Nat) (x1001_15 : Int) (x1002_15 : Int) (x177000_15 : Int) (x177001_15 : Int) (x177002_15 : Bool), Aside0 (spec_l15Rule.j1 kq s0_0 x1001_15 x1002_15 x177000_15 x177001_15 x177002_15 = some (r1, r2, r3, r4, r5, r6, r7)) ∧ Aside0 (kq ≤ kj4) ∧ Aside0 (wc.heap[gb169]? = some (.cells #[.int .u16 0, .int .u16 0, .int .u8 0, .int .u8 0, .int .i64 0] 24 (0, 0))) ∧ Aside0 (wc.heap[gb176]? = some (.cells #[.int .u16 x177000_15, .int .u8 x177001_15, .bool x177002_15] 34 (0, 0))) ∧ Aside0 (IsS60 w0 wc g s0_0 x1001_15 x1002_15) ∧ Aside0 (KeepBut w wc g none) ∧ Aside0 (Below w0.heap.size w0 wc))
   case first =>
    have H := HC16.out
    clear HC16
    by_cases c17 : x19_4 = true
    ·subst c17
     have H1 : ((spec_l01Below.f s0_0 x1001_4 x1002_4 (l1.length : Int)).bind fun bt180 => (if 0 ≤ bt180.1 then (if bt180.1 < (l1.length : Int) then (spec_l15Rule.j1 kj4 s0_0 bt180.2.1 bt180.2.2 ((rd_T34 l1 bt180.1).f0) ((rd_T34 l1 bt180.1).f1) ((rd_T34 l1 bt180.1).f2)) else (none)) else (none))) = some (r1, r2, r3, r4, r5, r6, r7) := by rw [if_pos rfl] at H; exact H
     clear H
     have H := H1
     clear H1
     replace H := Option.bind_eq_some_iff.mp H
     obtain ⟨⟨t180, t181, t182⟩, A180, H⟩ := H
     replace H : (if 0 ≤ t180 then (if t180 < (l1.length : Int) then (spec_l15Rule.j1 kj4 s0_0 t181 t182 ((rd_T34 l1 t180).f0) ((rd_T34 l1 t180).f1) ((rd_T34 l1 t180).f2)) else (none)) else (none)) = some (r1, r2, r3, r4, r5, r6, r7) := H
     have A18 := Aside0.mk A180
     clear A180
     by_cases c19 : 0 ≤ t180
     ·rw [if_pos c19] at H
      have c19b0 : decide (0 ≤ t180) = true := decide_eq_true c19
      clear c19
      (first | rw [c19b0] | (simp only [i64_w, i32_w]; rw [c19b0]) | skip)
      by_cases c20 : t180 < (l1.length : Int)
      ·rw [if_pos c20] at H
       have c20b0 : decide (t180 < (l1.length : Int)) = true := decide_eq_true c20
       clear c20
       have H' := Aside0.mk H
       clear H
       go_wp2_with (first | ((with_reducible refine gate_callee (f := 34) rfl ?_); refine goesL_ (some 24) rfl rfl Try.func34 (by kernel_rfl) rfl #[.pointer (some ⟨g, 0, none⟩), .int .i64 (l1.length : Int)] rfl (by (try simp only [List.map_toArray, List.map_cons, List.map_nil]); first | done | rfl | (simp only [List.length_drop, List.length_take]; rfl)) ?_; (with_reducible refine (spec_l01Below.calls g s0_0 x1001_4 x1002_4 (l1.length : Int) t180 t181 t182 w0 _ ?side1 ?side2 A18.out).mono ?_); (case side1 => repeat (first | (with_reducible first | exact HI0.out | apply IsS60.alloc | apply IsS60.drewN | apply IsS60.drew | apply IsS60.set_1 | apply IsS60.set_2 | refine IsS60.far ?_ NB0_169.out _ | refine IsS60.far ?_ NB0_176.out _) | exact HI0.out)); (case side2 => repeat (first | (with_reducible first | exact HB.out | apply below_alloc | apply pw_below_drewN | apply below_drew1 | refine below_set ?_ (IsS60.ge HI0.out) | refine below_set ?_ GE169.out | refine below_set ?_ GE176.out) | exact HB.out)); rintro e w21 ⟨rfl, hi, hb, hk⟩; refine ⟨_, rfl, ?_⟩; have n0_ := Aside0.mk (KeepBut.blk hk (g' := gb169) (o := .cells #[.int .u16 0, .int .u16 0, .int .u8 0, .int .u8 0, .int .i64 0] 24 (0, 0)) (by (with_reducible repeat (first | refine blk_drewN ?_ _ | refine blk_drew ?_ | refine blk_alloc ?_ _)); exact BK169.out) NB169_0.out (by simp)); have n1_ := Aside0.mk (KeepBut.blk hk (g' := gb176) (o := .cells #[.int .u16 t170, .int .u8 t173, .bool false] 34 (0, 0)) (by (with_reducible repeat (first | refine blk_drewN ?_ _ | refine blk_drew ?_ | refine blk_alloc ?_ _)); exact BK176.out) NB176_0.out (by simp)); have n2_ := Aside0.mk (KeepBut.trans (by repeat (first | (with_reducible first | exact HK.out | apply KeepBut.set_ | apply keep_drewN | apply keep_drew | apply keep_alloc | refine keep_far ?_ GW169.out _ | refine keep_far ?_ GW176.out _) | exact HK.out)) hk (.inl rfl)); have n3_ := Aside0.mk (hb); have n4_ := Aside0.mk (hi); clear BK169; clear BK176; clear HK; clear HB; clear HI0; have BK169 := n0_; have BK176 := n1_; have HK := n2_; have HB := n3_; have HI0 := n4_; clear n0_ n1_ n2_ n3_ n4_; (try clear hb); (try clear hb2); (try clear hk); (try clear hi); have p183 : 0 ≤ (t180 : Int) := of_decide_eq_true (by first | (with_reducible assumption) | assumption); have q183 : t180 < (l1.length : Int) := of_decide_eq_true (by first | (with_reducible assumption) | assumption); obtain ⟨ad183, e183, hx183_0, hx183_1, hx183_2⟩ := at_T34 (Kd.C_foot_now HR1.out HK.out) t180 p183 q183; cases e183; replace p183 := eq_true p183; replace q183 := eq_true q183; have hnb22 := NB176_169.out; have hnc22 := NB169_176.out; have hnb23 := NB176_0.out; have hnc23 := NB0_176.out; have hcz24_0 : w21.cell? ⟨gb176, 0, none⟩ = some (.int .u16 t170) := (blk_cell BK176.out 0).trans rfl; have hcz24_1 : w21.cell? ⟨gb176, 1, none⟩ = some (.int .u8 t173) := (blk_cell BK176.out 1).trans rfl; have hcz24_2 : w21.cell? ⟨gb176, 2, none⟩ = some (.bool false) := (blk_cell BK176.out 2).trans rfl; have hfz24_0 := blk_frozen BK176.out 0; have hfz24_1 := blk_frozen BK176.out 1; have hfz24_2 := blk_frozen BK176.out 2))
       go_meet
       case rel => exact ⟨_, (t181), (t182), ((rd_T34 l1 t180).f0), ((rd_T34 l1 t180).f1), ((rd_T34 l1 t180).f2), H', ⟨by have := HJ4.out; first | omega | exact Nat.le_refl _⟩, ⟨by (with_reducible repeat (first | refine blk_drewN ?_ _ | refine blk_drew ?_ | refine blk_alloc ?_ _)); refine blk_far ?_ NB169_176.out _; (with_reducible repeat (first | refine blk_drewN ?_ _ | refine blk_drew ?_ | refine blk_alloc ?_ _)); refine blk_far ?_ NB169_176.out _; (with_reducible repeat (first | refine blk_drewN ?_ _ | refine blk_drew ?_ | refine blk_alloc ?_ _)); refine blk_far ?_ NB169_176.out _; (with_reducible repeat (first | refine blk_drewN ?_ _ | refine blk_drew ?_ | refine blk_alloc ?_ _)); exact BK169.out⟩, ⟨by (with_reducible repeat (first | refine blk_drewN ?_ _ | refine blk_drew ?_ | refine blk_alloc ?_ _)); refine blk_put (cs := #[.int .u16 ((rd_T34 l1 t180).f0), .int .u8 ((rd_T34 l1 t180).f1), .bool false]) ?_ 2 _ rfl; (with_reducible repeat (first | refine blk_drewN ?_ _ | refine blk_drew ?_ | refine blk_alloc ?_ _)); refine blk_put (cs := #[.int .u16 ((rd_T34 l1 t180).f0), .int .u8 t173, .bool false]) ?_ 1 _ rfl; (with_reducible repeat (first | refine blk_drewN ?_ _ | refine blk_drew ?_ | refine blk_alloc ?_ _)); refine blk_put (cs := #[.int .u16 t170, .int .u8 t173, .bool false]) ?_ 0 _ rfl; (with_reducible repeat (first | refine blk_drewN ?_ _ | refine blk_drew ?_ | refine blk_alloc ?_ _)); exact BK176.out⟩, ⟨by repeat (first | (with_reducible first | exact HI0.out | apply IsS60.alloc | apply IsS60.drewN | apply IsS60.drew | apply IsS60.set_1 | apply IsS60.set_2 | refine IsS60.far ?_ NB0_169.out _ | refine IsS60.far ?_ NB0_176.out _) | exact HI0.out)⟩, ⟨by repeat (first | (with_reducible first | exact HK.out | apply KeepBut.set_ | apply keep_drewN | apply keep_drew | apply keep_alloc | refine keep_far ?_ GW169.out _ | refine keep_far ?_ GW176.out _) | exact HK.out)⟩, ⟨by repeat (first | (with_reducible first | exact HB.out | apply below_alloc | apply pw_below_drewN | apply below_drew1 | refine below_set ?_ (IsS60.ge HI0.out) | refine below_set ?_ GE169.out | refine below_set ?_ GE176.out) | exact HB.out)⟩⟩
      ·rw [if_neg c20] at H
       exact absurd H (by simp)
     ·rw [if_neg c19] at H
      exact absurd H (by simp)
    ·replace c17 := Bool.eq_false_iff.mpr c17
     subst c17
     have H1 : (spec_l15Rule.j1 kj4 s0_0 x1001_4 x1002_4 t170 t173 false) = some (r1, r2, r3, r4, r5, r6, r7) := by rw [if_neg (show ¬ (false = true) by decide)] at H; exact H
     clear H
     have H := H1
     clear H1
     have H' := Aside0.mk H
     clear H
     go_wp2
     go_meet
     case rel => exact ⟨_, (x1001_4), (x1002_4), (t170), (t173), (false), H', ⟨by have := HJ4.out; first | omega | exact Nat.le_refl _⟩, ⟨by (with_reducible repeat (first | refine blk_drewN ?_ _ | refine blk_drew ?_ | refine blk_alloc ?_ _)); exact BK169.out⟩, ⟨by (with_reducible repeat (first | refine blk_drewN ?_ _ | refine blk_drew ?_ | refine blk_alloc ?_ _)); exact BK176.out⟩, ⟨by repeat (first | (with_reducible first | exact HI0.out | apply IsS60.alloc | apply IsS60.drewN | apply IsS60.drew | apply IsS60.set_1 | apply IsS60.set_2 | refine IsS60.far ?_ NB0_169.out _ | refine IsS60.far ?_ NB0_176.out _) | exact HI0.out)⟩, ⟨by repeat (first | (with_reducible first | exact HK.out | apply KeepBut.set_ | apply keep_drewN | apply keep_drew | apply keep_alloc | refine keep_far ?_ GW169.out _ | refine keep_far ?_ GW176.out _) | exact HK.out)⟩, ⟨by repeat (first | (with_reducible first | exact HB.out | apply below_alloc | apply pw_below_drewN | apply below_drew1 | refine below_set ?_ (IsS60.ge HI0.out) | refine below_set ?_ GE169.out | refine below_set ?_ GE176.out) | exact HB.out)⟩⟩
   case rest =>
    clear HC16
    try clear c1
    try clear p1
    try clear q1
    try clear hx1
    try clear c2
    try clear p2
    try clear c3
    try clear c10
    try clear c11
    try clear c13
    try clear c13b0
    try clear c13b1
    try clear c17
    try clear p18
    try clear q18
    try clear hx18
    try clear c19
    try clear c19b0
    try clear c20
    try clear c20b0
    try clear c22
    try clear c23
    try clear hcz12_0
    try clear hcz12_1
    try clear hcz12_2
    try clear hcz24_0
    try clear hcz24_1
    try clear hcz24_2
    try clear hfz12_0
    try clear hfz12_1
    try clear hfz12_2
    try clear hfz24_0
    try clear hfz24_1
    try clear hfz24_2
    try clear hx183_0
    try clear hx183_1
    try clear hx183_2
    try clear p183
    try clear p2
    try clear q183
    obtain ⟨kq, x1001_15, x1002_15, x177000_15, x177001_15, x177002_15, HA, HJ15, BK169, BK176, HI0, HK, HB⟩ := hcut
    cases kq with
    | zero => exact absurd HA.out (by simp [spec_l15Rule.j1])
    | succ kj15 =>
     have H := HA.out
     clear HA
     simp only [spec_l15Rule.j1] at H
     obtain ⟨y184, hy184⟩ : ∃ y_ : List Int, y_ = (([0, 255, 255, 240, 15] : List Int)) := ⟨_, rfl⟩
     replace H : ((spec_l01PickInt.f s0_0 x1001_15 x1002_15 y184).bind fun bt187 => ((spec_l01PickInt.f s0_0 bt187.2.1 bt187.2.2 (([0, 1, 2, 2] : List Int))).bind fun bt193 => ((spec_l01Once.f s0_0 bt193.2.1 bt193.2.2 2).bind fun bt197 => (if bt197.1 = true then (spec_l15Rule.j2 kj15 s0_0 bt197.2.1 bt197.2.2 x177000_15 x177001_15 x177002_15 (IntKind.u16.wrap ((IntKind.u16.wrap (Int.tdiv x177000_15 256)) * 256)) (IntKind.u16.wrap ((IntKind.u16.wrap ((IntKind.u16.wrap (Int.tdiv x177000_15 256)) * 256)) + 255)) ((bt187.1) % 256) (Go.bits .and .u8 x177001_15 ((bt187.1) % 256)) bt193.1) else (spec_l15Rule.j2 kj15 s0_0 bt197.2.1 bt197.2.2 x177000_15 x177001_15 x177002_15 x177000_15 x177000_15 ((bt187.1) % 256) (Go.bits .and .u8 x177001_15 ((bt187.1) % 256)) bt193.1))))) = some (r1, r2, r3, r4, r5, r6, r7) := by first | (rw [hy184]; with_reducible exact H) | (have H2_ := (Option.bind_some _ _).symm.trans H; rw [hy184]; with_reducible exact H2_) | (have H2_ := (Option.bind_some _ _).symm.trans H; with_reducible exact H2_) | with_reducible exact H | (rw [hy184]; exact H) | exact H
     have Ny184 := Aside0.mk hy184
     clear hy184
     replace H := Option.bind_eq_some_iff.mp H
     obtain ⟨⟨t187, t188, t189⟩, A250, H⟩ := H
     replace H : ((spec_l01PickInt.f s0_0 t188 t189 (([0, 1, 2, 2] : List Int))).bind fun bt193 => ((spec_l01Once.f s0_0 bt193.2.1 bt193.2.2 2).bind fun bt197 => (if bt197.1 = true then (spec_l15Rule.j2 kj15 s0_0 bt197.2.1 bt197.2.2 x177000_15 x177001_15 x177002_15 (IntKind.u16.wrap ((IntKind.u16.wrap (Int.tdiv x177000_15 256)) * 256)) (IntKind.u16.wrap ((IntKind.u16.wrap ((IntKind.u16.wrap (Int.tdiv x177000_15 256)) * 256)) + 255)) ((t187) % 256) (Go.bits .and .u8 x177001_15 ((t187) % 256)) bt193.1) else (spec_l15Rule.j2 kj15 s0_0 bt197.2.1 bt197.2.2 x177000_15 x177001_15 x177002_15 x177000_15 x177000_15 ((t187) % 256) (Go.bits .and .u8 x177001_15 ((t187) % 256)) bt193.1)))) = some (r1, r2, r3, r4, r5, r6, r7) := H
     have A25 := Aside0.mk A250
     clear A250
     obtain ⟨y190, hy190⟩ : ∃ y_ : List Int, y_ = (([0, 1, 2, 2] : List Int)) := ⟨_, rfl⟩
     replace H : ((spec_l01PickInt.f s0_0 t188 t189 y190).bind fun bt193 => ((spec_l01Once.f s0_0 bt193.2.1 bt193.2.2 2).bind fun bt197 => (if bt197.1 = true then (spec_l15Rule.j2 kj15 s0_0 bt197.2.1 bt197.2.2 x177000_15 x177001_15 x177002_15 (IntKind.u16.wrap ((IntKind.u16.wrap (Int.tdiv x177000_15 256)) * 256)) (IntKind.u16.wrap ((IntKind.u16.wrap ((IntKind.u16.wrap (Int.tdiv x177000_15 256)) * 256)) + 255)) ((t187) % 256) (Go.bits .and .u8 x177001_15 ((t187) % 256)) bt193.1) else (spec_l15Rule.j2 kj15 s0_0 bt197.2.1 bt197.2.2 x177000_15 x177001_15 x177002_15 x177000_15 x177000_15 ((t187) % 256) (Go.bits .and .u8 x177001_15 ((t187) % 256)) bt193.1)))) = some (r1, r2, r3, r4, r5, r6, r7) := by first | (rw [hy190]; with_reducible exact H) | (have H2_ := (Option.bind_some _ _).symm.trans H; rw [hy190]; with_reducible exact H2_) | (have H2_ := (Option.bind_some _ _).symm.trans H; with_reducible exact H2_) | with_reducible exact H | (rw [hy190]; exact H) | exact H
     have Ny190 := Aside0.mk hy190
     clear hy190
     replace H := Option.bind_eq_some_iff.mp H
     obtain ⟨⟨t193, t194, t195⟩, A260, H⟩ := H
     replace H : ((spec_l01Once.f s0_0 t194 t195 2).bind fun bt197 => (if bt197.1 = true then (spec_l15Rule.j2 kj15 s0_0 bt197.2.1 bt197.2.2 x177000_15 x177001_15 x177002_15 (IntKind.u16.wrap ((IntKind.u16.wrap (Int.tdiv x177000_15 256)) * 256)) (IntKind.u16.wrap ((IntKind.u16.wrap ((IntKind.u16.wrap (Int.tdiv x177000_15 256)) * 256)) + 255)) ((t187) % 256) (Go.bits .and .u8 x177001_15 ((t187) % 256)) t193) else (spec_l15Rule.j2 kj15 s0_0 bt197.2.1 bt197.2.2 x177000_15 x177001_15 x177002_15 x177000_15 x177000_15 ((t187) % 256) (Go.bits .and .u8 x177001_15 ((t187) % 256)) t193))) = some (r1, r2, r3, r4, r5, r6, r7) := H
     have A26 := Aside0.mk A260
     clear A260
     replace H := Option.bind_eq_some_iff.mp H
     obtain ⟨⟨t197, t198, t199⟩, A270, H⟩ := H
     replace H : (if t197 = true then (spec_l15Rule.j2 kj15 s0_0 t198 t199 x177000_15 x177001_15 x177002_15 (IntKind.u16.wrap ((IntKind.u16.wrap (Int.tdiv x177000_15 256)) * 256)) (IntKind.u16.wrap ((IntKind.u16.wrap ((IntKind.u16.wrap (Int.tdiv x177000_15 256)) * 256)) + 255)) ((t187) % 256) (Go.bits .and .u8 x177001_15 ((t187) % 256)) t193) else (spec_l15Rule.j2 kj15 s0_0 t198 t199 x177000_15 x177001_15 x177002_15 x177000_15 x177000_15 ((t187) % 256) (Go.bits .and .u8 x177001_15 ((t187) % 256)) t193)) = some (r1, r2, r3, r4, r5, r6, r7) := H
     have A27 := Aside0.mk A270
     clear A270
     have HC28 := Aside0.mk H
     clear H
     try go_wp2
     have n0_ := Aside0.mk (blk_drew BK169.out)
     have n1_ := Aside0.mk (blk_drew BK176.out)
     have n2_ := Aside0.mk (IsS60.drew HI0.out)
     have n3_ := Aside0.mk (keep_drew HK.out)
     have n4_ := Aside0.mk (below_drew1 HB.out)
     clear BK169
     clear BK176
     clear HI0
     clear HK
     clear HB
     have BK169 := n0_
     have BK176 := n1_
     have HI0 := n2_
     have HK := n3_
     have HB := n4_
     clear n0_ n1_ n2_ n3_ n4_
     refine start_ (n := 14) (S := fun w' => w'.cell? ⟨gb176, 0, none⟩ = some (.int .u16 x177000_15) ∧ w'.cell? ⟨gb176, 1, none⟩ = some (.int .u8 x177001_15) ∧ w'.cell? ⟨gb176, 2, none⟩ = some (.bool x177002_15)) (ds := []) #[false, false, false, false, false, false, false, false, false, false, false, false, false, false] (by kernel_rfl) rfl rfl ⟨(blk_cell BK176.out 0).trans rfl, (blk_cell BK176.out 1).trans rfl, (blk_cell BK176.out 2).trans rfl⟩ (fun hHeld => ?_); refine with_tabW spec_l15Rule.tab4 spec_l15Rule.bits4 (fun HT_ HW_ => ?_)
     generalize wc.drew = w29 at BK169 BK176 HI0 HK HB hHeld ⊢
     refine pure_ (i := 0) (N := some 27) (v := ?_) (a' := ?_) #[true, false, false, false, false, false, false, false, false, false, false, false, false, false] rfl rfl (any_of HT_.out (by kernel_rfl)) (fun _ _ _ h => h) (Or.inl ⟨by rfl, ?_⟩) ?_ ?_
     rotate_left
     ·intro w'
      go_simp
      with_reducible rfl
     rotate_left
     ·simp only [Act.put, List.setIfInBounds_toArray, List.set_cons_zero, List.set_cons_succ, i64_w, i32_w]
      rfl
     refine pure_ (i := 2) (N := some 29) (v := ?_) (a' := ?_) #[true, false, true, false, false, false, false, false, false, false, false, false, false, false] rfl rfl (any_of HT_.out (by kernel_rfl)) (fun _ _ _ h => h) (Or.inl ⟨by rfl, ?_⟩) ?_ ?_
     rotate_left
     ·intro w'
      go_simp
      with_reducible rfl
     rotate_left
     ·simp only [Act.put, List.setIfInBounds_toArray, List.set_cons_zero, List.set_cons_succ, i64_w, i32_w]
      rfl
     refine pure_ (i := 4) (N := some 31) (v := ?_) (a' := ?_) #[true, false, true, false, true, false, false, false, false, false, false, false, false, false] rfl rfl (any_of HT_.out (by kernel_rfl)) (fun _ _ _ h => h) (Or.inl ⟨by rfl, ?_⟩) ?_ ?_
     rotate_left
     ·intro w'
      go_simp
      with_reducible rfl
     rotate_left
     ·simp only [Act.put, List.setIfInBounds_toArray, List.set_cons_zero, List.set_cons_succ, i64_w, i32_w]
      rfl
     refine pure_ (i := 8) (N := some 35) (v := ?_) (a' := ?_) #[true, false, true, false, true, false, false, false, true, false, false, false, false, false] rfl rfl (any_of HT_.out (by kernel_rfl)) (fun _ _ _ h => h) (Or.inl ⟨by rfl, ?_⟩) ?_ ?_
     rotate_left
     ·intro w'
      go_simp
      with_reducible rfl
     rotate_left
     ·simp only [Act.put, List.setIfInBounds_toArray, List.set_cons_zero, List.set_cons_succ, i64_w, i32_w]
      rfl
     refine take_ (i := 1) (N := some 28) (v := ?_) (a' := ?_) #[true, true, true, false, true, false, false, false, true, false, false, false, false, false] rfl rfl (take_ofW HT_.out HW_.out (by kernel_rfl)) (fun _ _ _ h => h) (Or.inl ⟨by rfl, ?_⟩) hHeld ?_ ?_
     rotate_left
     ·rintro w' ⟨s0, s1, s2⟩
      go_simp
      with_reducible rfl
     rotate_left
     ·simp only [Act.put, List.setIfInBounds_toArray, List.set_cons_zero, List.set_cons_succ, i64_w, i32_w]
      rfl
     refine take_ (i := 3) (N := some 30) (v := ?_) (a' := ?_) #[true, true, true, true, true, false, false, false, true, false, false, false, false, false] rfl rfl (take_ofW HT_.out HW_.out (by kernel_rfl)) (fun _ _ _ h => h) (Or.inl ⟨by rfl, ?_⟩) hHeld ?_ ?_
     rotate_left
     ·rintro w' ⟨s0, s1, s2⟩
      go_simp
      with_reducible rfl
     rotate_left
     ·simp only [Act.put, List.setIfInBounds_toArray, List.set_cons_zero, List.set_cons_succ, i64_w, i32_w]
      rfl
     refine join_ (σ := Value × Value × Nat) 1 #[true, true, true, true, true, true, true, true, true, true, true, true, true, false] (fun s_ => [(32, s_.1), (33, .int .i64 t187), (36, s_.2.1), (37, .int .i64 t193), (6, .pointer (some ⟨s_.2.2, 0, none⟩)), (34, .int .u8 ((t187) % 256)), (38, .agg #[.int .u16 x177000_15, .int .u16 x177000_15, .int .u8 ((t187) % 256), .int .u8 0, .int .i64 t193])]) (fun s_ w' => (w'.cell? ⟨gb176, 0, none⟩ = some (.int .u16 x177000_15) ∧ w'.cell? ⟨gb176, 1, none⟩ = some (.int .u8 x177001_15) ∧ w'.cell? ⟨gb176, 2, none⟩ = some (.bool x177002_15)) ∧ (Kd.R (Kd.int .i64) 3 w' w.heap.size (fun k_ => some k_ ≠ (s_.2.1 : Value).ownBlock) s_.1 y184) ∧ (Kd.R (Kd.int .i64) 3 w' w.heap.size (fun k_ => some k_ ≠ (s_.1 : Value).ownBlock) s_.2.1 y190) ∧ (w'.heap[gb169]? = some (.cells #[.int .u16 0, .int .u16 0, .int .u8 0, .int .u8 0, .int .i64 0] 24 (0, 0))) ∧ (w'.heap[gb176]? = some (.cells #[.int .u16 x177000_15, .int .u8 x177001_15, .bool x177002_15] 34 (0, 0))) ∧ (w'.heap[s_.2.2]? = some (.cells #[.int .u16 0, .int .u16 0, .int .u8 0, .int .u8 0, .int .i64 0] 24 (0, 0))) ∧ (w.heap.size ≤ s_.2.2) ∧ (w0.heap.size ≤ s_.2.2) ∧ (g ≠ s_.2.2) ∧ (s_.2.2 ≠ g) ∧ (gb169 ≠ s_.2.2) ∧ (s_.2.2 ≠ gb169) ∧ (gb176 ≠ s_.2.2) ∧ (s_.2.2 ≠ gb176) ∧ (IsS60 w0 w' g s0_0 t194 t195) ∧ (KeepBut w w' g none) ∧ (Below w0.heap.size w0 w')) ?_ ?_
     rotate_left
     ·intro hJ5_6_9_10_12
      refine join_ (σ := Value × Value) 2 #[true, true, true, true, true, true, true, true, true, true, true, true, false, false] (fun s_ => [(32, s_.1), (33, .int .i64 t187), (36, s_.2), (37, .int .i64 t193), (34, .int .u8 ((t187) % 256)), (38, .agg #[.int .u16 x177000_15, .int .u16 x177000_15, .int .u8 ((t187) % 256), .int .u8 0, .int .i64 t193])]) (fun s_ w' => (w'.cell? ⟨gb176, 0, none⟩ = some (.int .u16 x177000_15) ∧ w'.cell? ⟨gb176, 1, none⟩ = some (.int .u8 x177001_15) ∧ w'.cell? ⟨gb176, 2, none⟩ = some (.bool x177002_15)) ∧ (Kd.R (Kd.int .i64) 3 w' w.heap.size (fun k_ => some k_ ≠ (s_.2 : Value).ownBlock) s_.1 y184) ∧ (Kd.R (Kd.int .i64) 3 w' w.heap.size (fun k_ => some k_ ≠ (s_.1 : Value).ownBlock) s_.2 y190) ∧ (w'.heap[gb169]? = some (.cells #[.int .u16 0, .int .u16 0, .int .u8 0, .int .u8 0, .int .i64 0] 24 (0, 0))) ∧ (w'.heap[gb176]? = some (.cells #[.int .u16 x177000_15, .int .u8 x177001_15, .bool x177002_15] 34 (0, 0))) ∧ (IsS60 w0 w' g s0_0 t194 t195) ∧ (KeepBut w w' g none) ∧ (Below w0.heap.size w0 w')) ?_ ?_
      rotate_left
      ·intro hJ5_6_9_10
       refine join_ (σ := Value × Value × Nat) 3 #[true, true, true, true, true, true, true, true, true, true, false, false, true, false] (fun s_ => [(32, s_.1), (33, .int .i64 t187), (36, s_.2.1), (6, .pointer (some ⟨s_.2.2, 0, none⟩)), (34, .int .u8 ((t187) % 256))]) (fun s_ w' => (w'.cell? ⟨gb176, 0, none⟩ = some (.int .u16 x177000_15) ∧ w'.cell? ⟨gb176, 1, none⟩ = some (.int .u8 x177001_15) ∧ w'.cell? ⟨gb176, 2, none⟩ = some (.bool x177002_15)) ∧ (Kd.R (Kd.int .i64) 3 w' w.heap.size (fun k_ => some k_ ≠ (s_.2.1 : Value).ownBlock) s_.1 y184) ∧ (Kd.R (Kd.int .i64) 3 w' w.heap.size (fun k_ => some k_ ≠ (s_.1 : Value).ownBlock) s_.2.1 y190) ∧ (w'.heap[gb169]? = some (.cells #[.int .u16 0, .int .u16 0, .int .u8 0, .int .u8 0, .int .i64 0] 24 (0, 0))) ∧ (w'.heap[gb176]? = some (.cells #[.int .u16 x177000_15, .int .u8 x177001_15, .bool x177002_15] 34 (0, 0))) ∧ (w'.heap[s_.2.2]? = some (.cells #[.int .u16 0, .int .u16 0, .int .u8 0, .int .u8 0, .int .i64 0] 24 (0, 0))) ∧ (w.heap.size ≤ s_.2.2) ∧ (w0.heap.size ≤ s_.2.2) ∧ (g ≠ s_.2.2) ∧ (s_.2.2 ≠ g) ∧ (gb169 ≠ s_.2.2) ∧ (s_.2.2 ≠ gb169) ∧ (gb176 ≠ s_.2.2) ∧ (s_.2.2 ≠ gb176) ∧ (IsS60 w0 w' g s0_0 t188 t189) ∧ (KeepBut w w' g none) ∧ (Below w0.heap.size w0 w')) ?_ ?_
       rotate_left
       ·intro hJ5_6_9_12
        refine join_ (σ := Value × Value) 4 #[true, true, true, true, true, true, true, true, true, true, false, false, false, false] (fun s_ => [(32, s_.1), (33, .int .i64 t187), (36, s_.2), (34, .int .u8 ((t187) % 256))]) (fun s_ w' => (w'.cell? ⟨gb176, 0, none⟩ = some (.int .u16 x177000_15) ∧ w'.cell? ⟨gb176, 1, none⟩ = some (.int .u8 x177001_15) ∧ w'.cell? ⟨gb176, 2, none⟩ = some (.bool x177002_15)) ∧ (Kd.R (Kd.int .i64) 3 w' w.heap.size (fun k_ => some k_ ≠ (s_.2 : Value).ownBlock) s_.1 y184) ∧ (Kd.R (Kd.int .i64) 3 w' w.heap.size (fun k_ => some k_ ≠ (s_.1 : Value).ownBlock) s_.2 y190) ∧ (w'.heap[gb169]? = some (.cells #[.int .u16 0, .int .u16 0, .int .u8 0, .int .u8 0, .int .i64 0] 24 (0, 0))) ∧ (w'.heap[gb176]? = some (.cells #[.int .u16 x177000_15, .int .u8 x177001_15, .bool x177002_15] 34 (0, 0))) ∧ (IsS60 w0 w' g s0_0 t188 t189) ∧ (KeepBut w w' g none) ∧ (Below w0.heap.size w0 w')) ?_ ?_
        rotate_left
        ·intro hJ5_6_9
         refine join_ (σ := Value × Nat) 4 #[true, true, true, true, true, true, true, true, true, false, false, false, true, false] (fun s_ => [(32, s_.1), (33, .int .i64 t187), (6, .pointer (some ⟨s_.2, 0, none⟩)), (34, .int .u8 ((t187) % 256))]) (fun s_ w' => (w'.cell? ⟨gb176, 0, none⟩ = some (.int .u16 x177000_15) ∧ w'.cell? ⟨gb176, 1, none⟩ = some (.int .u8 x177001_15) ∧ w'.cell? ⟨gb176, 2, none⟩ = some (.bool x177002_15)) ∧ (Kd.R (Kd.int .i64) 3 w' w.heap.size (fun _ => True) s_.1 y184) ∧ (w'.heap[gb169]? = some (.cells #[.int .u16 0, .int .u16 0, .int .u8 0, .int .u8 0, .int .i64 0] 24 (0, 0))) ∧ (w'.heap[gb176]? = some (.cells #[.int .u16 x177000_15, .int .u8 x177001_15, .bool x177002_15] 34 (0, 0))) ∧ (w'.heap[s_.2]? = some (.cells #[.int .u16 0, .int .u16 0, .int .u8 0, .int .u8 0, .int .i64 0] 24 (0, 0))) ∧ (w.heap.size ≤ s_.2) ∧ (w0.heap.size ≤ s_.2) ∧ (g ≠ s_.2) ∧ (s_.2 ≠ g) ∧ (gb169 ≠ s_.2) ∧ (s_.2 ≠ gb169) ∧ (gb176 ≠ s_.2) ∧ (s_.2 ≠ gb176) ∧ (IsS60 w0 w' g s0_0 t188 t189) ∧ (KeepBut w w' g none) ∧ (Below w0.heap.size w0 w')) ?_ ?_
         rotate_left
         ·intro hJ5_6_12
          refine join_ (σ := Value × Value × Nat) 5 #[true, true, true, true, true, true, false, false, true, true, false, false, true, false] (fun s_ => [(32, s_.1), (36, s_.2.1), (6, .pointer (some ⟨s_.2.2, 0, none⟩))]) (fun s_ w' => (w'.cell? ⟨gb176, 0, none⟩ = some (.int .u16 x177000_15) ∧ w'.cell? ⟨gb176, 1, none⟩ = some (.int .u8 x177001_15) ∧ w'.cell? ⟨gb176, 2, none⟩ = some (.bool x177002_15)) ∧ (Kd.R (Kd.int .i64) 3 w' w.heap.size (fun k_ => some k_ ≠ (s_.2.1 : Value).ownBlock) s_.1 y184) ∧ (Kd.R (Kd.int .i64) 3 w' w.heap.size (fun k_ => some k_ ≠ (s_.1 : Value).ownBlock) s_.2.1 y190) ∧ (w'.heap[gb169]? = some (.cells #[.int .u16 0, .int .u16 0, .int .u8 0, .int .u8 0, .int .i64 0] 24 (0, 0))) ∧ (w'.heap[gb176]? = some (.cells #[.int .u16 x177000_15, .int .u8 x177001_15, .bool x177002_15] 34 (0, 0))) ∧ (w'.heap[s_.2.2]? = some (.cells #[.int .u16 0, .int .u16 0, .int .u8 0, .int .u8 0, .int .i64 0] 24 (0, 0))) ∧ (w.heap.size ≤ s_.2.2) ∧ (w0.heap.size ≤ s_.2.2) ∧ (g ≠ s_.2.2) ∧ (s_.2.2 ≠ g) ∧ (gb169 ≠ s_.2.2) ∧ (s_.2.2 ≠ gb169) ∧ (gb176 ≠ s_.2.2) ∧ (s_.2.2 ≠ gb176) ∧ (IsS60 w0 w' g s0_0 x1001_15 x1002_15) ∧ (KeepBut w w' g none) ∧ (Below w0.heap.size w0 w')) ?_ ?_
          rotate_left
          ·intro hJ5_9_12
           refine join_ (σ := Value) 5 #[true, true, true, true, true, true, true, true, true, false, false, false, false, false] (fun s_ => [(32, s_), (33, .int .i64 t187), (34, .int .u8 ((t187) % 256))]) (fun s_ w' => (w'.cell? ⟨gb176, 0, none⟩ = some (.int .u16 x177000_15) ∧ w'.cell? ⟨gb176, 1, none⟩ = some (.int .u8 x177001_15) ∧ w'.cell? ⟨gb176, 2, none⟩ = some (.bool x177002_15)) ∧ (Kd.R (Kd.int .i64) 3 w' w.heap.size (fun _ => True) s_ y184) ∧ (w'.heap[gb169]? = some (.cells #[.int .u16 0, .int .u16 0, .int .u8 0, .int .u8 0, .int .i64 0] 24 (0, 0))) ∧ (w'.heap[gb176]? = some (.cells #[.int .u16 x177000_15, .int .u8 x177001_15, .bool x177002_15] 34 (0, 0))) ∧ (IsS60 w0 w' g s0_0 t188 t189) ∧ (KeepBut w w' g none) ∧ (Below w0.heap.size w0 w')) ?_ ?_
           rotate_left
           ·intro hJ5_6
            refine join_ (σ := Value × Value) 6 #[true, true, true, true, true, true, false, false, true, true, false, false, false, false] (fun s_ => [(32, s_.1), (36, s_.2)]) (fun s_ w' => (w'.cell? ⟨gb176, 0, none⟩ = some (.int .u16 x177000_15) ∧ w'.cell? ⟨gb176, 1, none⟩ = some (.int .u8 x177001_15) ∧ w'.cell? ⟨gb176, 2, none⟩ = some (.bool x177002_15)) ∧ (Kd.R (Kd.int .i64) 3 w' w.heap.size (fun k_ => some k_ ≠ (s_.2 : Value).ownBlock) s_.1 y184) ∧ (Kd.R (Kd.int .i64) 3 w' w.heap.size (fun k_ => some k_ ≠ (s_.1 : Value).ownBlock) s_.2 y190) ∧ (w'.heap[gb169]? = some (.cells #[.int .u16 0, .int .u16 0, .int .u8 0, .int .u8 0, .int .i64 0] 24 (0, 0))) ∧ (w'.heap[gb176]? = some (.cells #[.int .u16 x177000_15, .int .u8 x177001_15, .bool x177002_15] 34 (0, 0))) ∧ (IsS60 w0 w' g s0_0 x1001_15 x1002_15) ∧ (KeepBut w w' g none) ∧ (Below w0.heap.size w0 w')) ?_ ?_
            rotate_left
            ·intro hJ5_9
             refine join_ (σ := Value × Nat) 6 #[true, true, true, true, true, true, false, false, true, false, false, false, true, false] (fun s_ => [(32, s_.1), (6, .pointer (some ⟨s_.2, 0, none⟩))]) (fun s_ w' => (w'.cell? ⟨gb176, 0, none⟩ = some (.int .u16 x177000_15) ∧ w'.cell? ⟨gb176, 1, none⟩ = some (.int .u8 x177001_15) ∧ w'.cell? ⟨gb176, 2, none⟩ = some (.bool x177002_15)) ∧ (Kd.R (Kd.int .i64) 3 w' w.heap.size (fun _ => True) s_.1 y184) ∧ (w'.heap[gb169]? = some (.cells #[.int .u16 0, .int .u16 0, .int .u8 0, .int .u8 0, .int .i64 0] 24 (0, 0))) ∧ (w'.heap[gb176]? = some (.cells #[.int .u16 x177000_15, .int .u8 x177001_15, .bool x177002_15] 34 (0, 0))) ∧ (w'.heap[s_.2]? = some (.cells #[.int .u16 0, .int .u16 0, .int .u8 0, .int .u8 0, .int .i64 0] 24 (0, 0))) ∧ (w.heap.size ≤ s_.2) ∧ (w0.heap.size ≤ s_.2) ∧ (g ≠ s_.2) ∧ (s_.2 ≠ g) ∧ (gb169 ≠ s_.2) ∧ (s_.2 ≠ gb169) ∧ (gb176 ≠ s_.2) ∧ (s_.2 ≠ gb176) ∧ (IsS60 w0 w' g s0_0 x1001_15 x1002_15) ∧ (KeepBut w w' g none) ∧ (Below w0.heap.size w0 w')) ?_ ?_
             rotate_left
             ·intro hJ5_12
              refine join_ (σ := Value × Nat) 6 #[true, true, true, true, true, false, false, false, true, true, false, false, true, false] (fun s_ => [(36, s_.1), (6, .pointer (some ⟨s_.2, 0, none⟩))]) (fun s_ w' => (w'.cell? ⟨gb176, 0, none⟩ = some (.int .u16 x177000_15) ∧ w'.cell? ⟨gb176, 1, none⟩ = some (.int .u8 x177001_15) ∧ w'.cell? ⟨gb176, 2, none⟩ = some (.bool x177002_15)) ∧ (Kd.R (Kd.int .i64) 3 w' w.heap.size (fun _ => True) s_.1 y190) ∧ (w'.heap[gb169]? = some (.cells #[.int .u16 0, .int .u16 0, .int .u8 0, .int .u8 0, .int .i64 0] 24 (0, 0))) ∧ (w'.heap[gb176]? = some (.cells #[.int .u16 x177000_15, .int .u8 x177001_15, .bool x177002_15] 34 (0, 0))) ∧ (w'.heap[s_.2]? = some (.cells #[.int .u16 0, .int .u16 0, .int .u8 0, .int .u8 0, .int .i64 0] 24 (0, 0))) ∧ (w.heap.size ≤ s_.2) ∧ (w0.heap.size ≤ s_.2) ∧ (g ≠ s_.2) ∧ (s_.2 ≠ g) ∧ (gb169 ≠ s_.2) ∧ (s_.2 ≠ gb169) ∧ (gb176 ≠ s_.2) ∧ (s_.2 ≠ gb176) ∧ (IsS60 w0 w' g s0_0 x1001_15 x1002_15) ∧ (KeepBut w w' g none) ∧ (Below w0.heap.size w0 w')) ?_ ?_
              rotate_left
              ·intro hJ9_12
               refine join_ (σ := Value) 7 #[true, true, true, true, true, true, false, false, true, false, false, false, false, false] (fun s_ => [(32, s_)]) (fun s_ w' => (w'.cell? ⟨gb176, 0, none⟩ = some (.int .u16 x177000_15) ∧ w'.cell? ⟨gb176, 1, none⟩ = some (.int .u8 x177001_15) ∧ w'.cell? ⟨gb176, 2, none⟩ = some (.bool x177002_15)) ∧ (Kd.R (Kd.int .i64) 3 w' w.heap.size (fun _ => True) s_ y184) ∧ (w'.heap[gb169]? = some (.cells #[.int .u16 0, .int .u16 0, .int .u8 0, .int .u8 0, .int .i64 0] 24 (0, 0))) ∧ (w'.heap[gb176]? = some (.cells #[.int .u16 x177000_15, .int .u8 x177001_15, .bool x177002_15] 34 (0, 0))) ∧ (IsS60 w0 w' g s0_0 x1001_15 x1002_15) ∧ (KeepBut w w' g none) ∧ (Below w0.heap.size w0 w')) ?_ ?_
               rotate_left
               ·intro hJ5
                refine join_ (σ := Value) 7 #[true, true, true, true, true, false, false, false, true, true, false, false, false, false] (fun s_ => [(36, s_)]) (fun s_ w' => (w'.cell? ⟨gb176, 0, none⟩ = some (.int .u16 x177000_15) ∧ w'.cell? ⟨gb176, 1, none⟩ = some (.int .u8 x177001_15) ∧ w'.cell? ⟨gb176, 2, none⟩ = some (.bool x177002_15)) ∧ (Kd.R (Kd.int .i64) 3 w' w.heap.size (fun _ => True) s_ y190) ∧ (w'.heap[gb169]? = some (.cells #[.int .u16 0, .int .u16 0, .int .u8 0, .int .u8 0, .int .i64 0] 24 (0, 0))) ∧ (w'.heap[gb176]? = some (.cells #[.int .u16 x177000_15, .int .u8 x177001_15, .bool x177002_15] 34 (0, 0))) ∧ (IsS60 w0 w' g s0_0 x1001_15 x1002_15) ∧ (KeepBut w w' g none) ∧ (Below w0.heap.size w0 w')) ?_ ?_
                rotate_left
                ·intro hJ9
                 refine join_ (σ := Nat) 7 #[true, true, true, true, true, false, false, false, true, false, false, false, true, false] (fun s_ => [(6, .pointer (some ⟨s_, 0, none⟩))]) (fun s_ w' => (w'.cell? ⟨gb176, 0, none⟩ = some (.int .u16 x177000_15) ∧ w'.cell? ⟨gb176, 1, none⟩ = some (.int .u8 x177001_15) ∧ w'.cell? ⟨gb176, 2, none⟩ = some (.bool x177002_15)) ∧ (w'.heap[gb169]? = some (.cells #[.int .u16 0, .int .u16 0, .int .u8 0, .int .u8 0, .int .i64 0] 24 (0, 0))) ∧ (w'.heap[gb176]? = some (.cells #[.int .u16 x177000_15, .int .u8 x177001_15, .bool x177002_15] 34 (0, 0))) ∧ (w'.heap[s_]? = some (.cells #[.int .u16 0, .int .u16 0, .int .u8 0, .int .u8 0, .int .i64 0] 24 (0, 0))) ∧ (w.heap.size ≤ s_) ∧ (w0.heap.size ≤ s_) ∧ (g ≠ s_) ∧ (s_ ≠ g) ∧ (gb169 ≠ s_) ∧ (s_ ≠ gb169) ∧ (gb176 ≠ s_) ∧ (s_ ≠ gb176) ∧ (IsS60 w0 w' g s0_0 x1001_15 x1002_15) ∧ (KeepBut w w' g none) ∧ (Below w0.heap.size w0 w')) ?_ ?_
                 rotate_left
                 ·intro hJ12
                  refine three_ (i := 5) (j := 9) (k := 12) (Ni := some 32) (Nj := some 36) (Nk := some 6) #[true, true, true, true, true, true, false, false, true, false, false, false, false, false] #[true, true, true, true, true, false, false, false, true, true, false, false, false, false] #[true, true, true, true, true, false, false, false, true, false, false, false, true, false] rfl rfl rfl rfl rfl rfl (three_of HT_.out (by kernel_rfl)) (by decide) (by decide) (by decide) (fun K hK => ?_) (fun K hK => ?_) (fun K hK => ?_)
                  ·skip
                   refine Kd.R_lit_step (Kd.int .i64) _ 3 ?hg (N := 32) ?hd (xs := ([0, 255, 255, 240, 15] : List Int)) (inner := [.int .i64 0, .int .i64 255, .int .i64 255, .int .i64 240, .int .i64 15]) (ok := fun _ => True) (okp := fun _ => True) ?hr ?hp (fun _ hk => hk) trivial (Below.refl _ _) (Nat.le_refl _) (by simp) ?_; (case hd => rfl); (case hg => rfl); (case hr => first | (go_simp; done) | (go_simp; rfl)); (case hp => exact (Reps.one (show Kd.M (Kd.int .i64) _ _ _ 0 [.int .i64 0] from rfl) (Reps.one (show Kd.M (Kd.int .i64) _ _ _ 255 [.int .i64 255] from rfl) (Reps.one (show Kd.M (Kd.int .i64) _ _ _ 255 [.int .i64 255] from rfl) (Reps.one (show Kd.M (Kd.int .i64) _ _ _ 240 [.int .i64 240] from rfl) (Reps.one (show Kd.M (Kd.int .i64) _ _ _ 15 [.int .i64 15] from rfl) (Reps.none _ _)))))))
                   intro v185 w30 ho31 hb hg_ hnew_
                   clear hg_ hnew_
                   (first | rw [← Ny184.out] at ho31 | (simp only [Int.reduceToNat] at ho31; rw [← Ny184.out] at ho31))
                   have n0_ := Aside0.mk (Kd.R_lower ho31 (keep_size (w := w) (g := g) (row := none) (by repeat (first | (with_reducible first | exact HK.out | apply KeepBut.set_ | apply keep_drewN | apply keep_drew | apply keep_alloc | refine keep_far ?_ GW169.out _ | refine keep_far ?_ GW176.out _) | exact HK.out))))
                   have n1_ := Aside0.mk (blk_below (g := gb169) (o := .cells #[.int .u16 0, .int .u16 0, .int .u8 0, .int .u8 0, .int .i64 0] 24 (0, 0)) (by (with_reducible repeat (first | refine blk_drewN ?_ _ | refine blk_drew ?_ | refine blk_alloc ?_ _)); exact BK169.out) hb)
                   have n2_ := Aside0.mk (blk_below (g := gb176) (o := .cells #[.int .u16 x177000_15, .int .u8 x177001_15, .bool x177002_15] 34 (0, 0)) (by (with_reducible repeat (first | refine blk_drewN ?_ _ | refine blk_drew ?_ | refine blk_alloc ?_ _)); exact BK176.out) hb)
                   have n3_ := Aside0.mk (IsS60.below (by repeat (first | (with_reducible first | exact HI0.out | apply IsS60.alloc | apply IsS60.drewN | apply IsS60.drew | apply IsS60.set_1 | apply IsS60.set_2 | refine IsS60.far ?_ NB0_169.out _ | refine IsS60.far ?_ NB0_176.out _) | exact HI0.out)) hb)
                   have n4_ := Aside0.mk (KeepBut.trans (by repeat (first | (with_reducible first | exact HK.out | apply KeepBut.set_ | apply keep_drewN | apply keep_drew | apply keep_alloc | refine keep_far ?_ GW169.out _ | refine keep_far ?_ GW176.out _) | exact HK.out)) (KeepBut.of_below hb g none) (.inl rfl))
                   have n5_ := Aside0.mk (below_step (by repeat (first | (with_reducible first | exact HB.out | apply below_alloc | apply pw_below_drewN | apply below_drew1 | refine below_set ?_ (IsS60.ge HI0.out) | refine below_set ?_ GE169.out | refine below_set ?_ GE176.out) | exact HB.out)) hb)
                   clear BK169
                   clear BK176
                   clear HI0
                   clear HK
                   clear HB
                   have HO186 := n0_
                   have BK169 := n1_
                   have BK176 := n2_
                   have HI0 := n3_
                   have HK := n4_
                   have HB := n5_
                   clear n0_ n1_ n2_ n3_ n4_ n5_
                   clear hb ho31
                   refine hK.out _ _ ⟨(blk_cell BK176.out 0).trans rfl, (blk_cell BK176.out 1).trans rfl, (blk_cell BK176.out 2).trans rfl⟩ (fun hHeld => ?_)
                   clear hK K
                   refine norm_ (a' := ?_) ?_ ?_
                   rotate_left
                   ·show Act.put _ (some 32) _ = _
                    simp only [Act.put, List.setIfInBounds_toArray, List.set_cons_zero, List.set_cons_succ, i64_w, i32_w]
                    rfl
                   exact norm_ (by first | (simp only [putAll, Act.put, List.setIfInBounds_toArray, List.set_cons_zero, List.set_cons_succ]; done) | (simp only [putAll, Act.put, List.setIfInBounds_toArray, List.set_cons_zero, List.set_cons_succ]; rfl)) (hJ5 (v185) _ ⟨hHeld, (by (with_reducible repeat (first | apply Kd.R_alloc | apply Kd.R_drewN | apply Kd.R_drew)); exact HO186.out), (by (with_reducible repeat (first | refine blk_drewN ?_ _ | refine blk_drew ?_ | refine blk_alloc ?_ _)); exact BK169.out), (by (with_reducible repeat (first | refine blk_drewN ?_ _ | refine blk_drew ?_ | refine blk_alloc ?_ _)); exact BK176.out), (by repeat (first | (with_reducible first | exact HI0.out | apply IsS60.alloc | apply IsS60.drewN | apply IsS60.drew | apply IsS60.set_1 | apply IsS60.set_2 | refine IsS60.far ?_ NB0_169.out _ | refine IsS60.far ?_ NB0_176.out _) | exact HI0.out)), (by repeat (first | (with_reducible first | exact HK.out | apply KeepBut.set_ | apply keep_drewN | apply keep_drew | apply keep_alloc | refine keep_far ?_ GW169.out _ | refine keep_far ?_ GW176.out _) | exact HK.out)), (by repeat (first | (with_reducible first | exact HB.out | apply below_alloc | apply pw_below_drewN | apply below_drew1 | refine below_set ?_ (IsS60.ge HI0.out) | refine below_set ?_ GE169.out | refine below_set ?_ GE176.out) | exact HB.out))⟩)
                  ·skip
                   refine Kd.R_lit_step (Kd.int .i64) _ 3 ?hg (N := 36) ?hd (xs := ([0, 1, 2, 2] : List Int)) (inner := [.int .i64 0, .int .i64 1, .int .i64 2, .int .i64 2]) (ok := fun _ => True) (okp := fun _ => True) ?hr ?hp (fun _ hk => hk) trivial (Below.refl _ _) (Nat.le_refl _) (by simp) ?_; (case hd => rfl); (case hg => rfl); (case hr => first | (go_simp; done) | (go_simp; rfl)); (case hp => exact (Reps.one (show Kd.M (Kd.int .i64) _ _ _ 0 [.int .i64 0] from rfl) (Reps.one (show Kd.M (Kd.int .i64) _ _ _ 1 [.int .i64 1] from rfl) (Reps.one (show Kd.M (Kd.int .i64) _ _ _ 2 [.int .i64 2] from rfl) (Reps.one (show Kd.M (Kd.int .i64) _ _ _ 2 [.int .i64 2] from rfl) (Reps.none _ _))))))
                   intro v191 w30 ho31 hb hg_ hnew_
                   clear hg_ hnew_
                   (first | rw [← Ny190.out] at ho31 | (simp only [Int.reduceToNat] at ho31; rw [← Ny190.out] at ho31))
                   have n0_ := Aside0.mk (Kd.R_lower ho31 (keep_size (w := w) (g := g) (row := none) (by repeat (first | (with_reducible first | exact HK.out | apply KeepBut.set_ | apply keep_drewN | apply keep_drew | apply keep_alloc | refine keep_far ?_ GW169.out _ | refine keep_far ?_ GW176.out _) | exact HK.out))))
                   have n1_ := Aside0.mk (blk_below (g := gb169) (o := .cells #[.int .u16 0, .int .u16 0, .int .u8 0, .int .u8 0, .int .i64 0] 24 (0, 0)) (by (with_reducible repeat (first | refine blk_drewN ?_ _ | refine blk_drew ?_ | refine blk_alloc ?_ _)); exact BK169.out) hb)
                   have n2_ := Aside0.mk (blk_below (g := gb176) (o := .cells #[.int .u16 x177000_15, .int .u8 x177001_15, .bool x177002_15] 34 (0, 0)) (by (with_reducible repeat (first | refine blk_drewN ?_ _ | refine blk_drew ?_ | refine blk_alloc ?_ _)); exact BK176.out) hb)
                   have n3_ := Aside0.mk (IsS60.below (by repeat (first | (with_reducible first | exact HI0.out | apply IsS60.alloc | apply IsS60.drewN | apply IsS60.drew | apply IsS60.set_1 | apply IsS60.set_2 | refine IsS60.far ?_ NB0_169.out _ | refine IsS60.far ?_ NB0_176.out _) | exact HI0.out)) hb)
                   have n4_ := Aside0.mk (KeepBut.trans (by repeat (first | (with_reducible first | exact HK.out | apply KeepBut.set_ | apply keep_drewN | apply keep_drew | apply keep_alloc | refine keep_far ?_ GW169.out _ | refine keep_far ?_ GW176.out _) | exact HK.out)) (KeepBut.of_below hb g none) (.inl rfl))
                   have n5_ := Aside0.mk (below_step (by repeat (first | (with_reducible first | exact HB.out | apply below_alloc | apply pw_below_drewN | apply below_drew1 | refine below_set ?_ (IsS60.ge HI0.out) | refine below_set ?_ GE169.out | refine below_set ?_ GE176.out) | exact HB.out)) hb)
                   clear BK169
                   clear BK176
                   clear HI0
                   clear HK
                   clear HB
                   have HO192 := n0_
                   have BK169 := n1_
                   have BK176 := n2_
                   have HI0 := n3_
                   have HK := n4_
                   have HB := n5_
                   clear n0_ n1_ n2_ n3_ n4_ n5_
                   clear hb ho31
                   refine hK.out _ _ ⟨(blk_cell BK176.out 0).trans rfl, (blk_cell BK176.out 1).trans rfl, (blk_cell BK176.out 2).trans rfl⟩ (fun hHeld => ?_)
                   clear hK K
                   refine norm_ (a' := ?_) ?_ ?_
                   rotate_left
                   ·show Act.put _ (some 36) _ = _
                    simp only [Act.put, List.setIfInBounds_toArray, List.set_cons_zero, List.set_cons_succ, i64_w, i32_w]
                    rfl
                   exact norm_ (by first | (simp only [putAll, Act.put, List.setIfInBounds_toArray, List.set_cons_zero, List.set_cons_succ]; done) | (simp only [putAll, Act.put, List.setIfInBounds_toArray, List.set_cons_zero, List.set_cons_succ]; rfl)) (hJ9 (v191) _ ⟨hHeld, (by (with_reducible repeat (first | apply Kd.R_alloc | apply Kd.R_drewN | apply Kd.R_drew)); exact HO192.out), (by (with_reducible repeat (first | refine blk_drewN ?_ _ | refine blk_drew ?_ | refine blk_alloc ?_ _)); exact BK169.out), (by (with_reducible repeat (first | refine blk_drewN ?_ _ | refine blk_drew ?_ | refine blk_alloc ?_ _)); exact BK176.out), (by repeat (first | (with_reducible first | exact HI0.out | apply IsS60.alloc | apply IsS60.drewN | apply IsS60.drew | apply IsS60.set_1 | apply IsS60.set_2 | refine IsS60.far ?_ NB0_169.out _ | refine IsS60.far ?_ NB0_176.out _) | exact HI0.out)), (by repeat (first | (with_reducible first | exact HK.out | apply KeepBut.set_ | apply keep_drewN | apply keep_drew | apply keep_alloc | refine keep_far ?_ GW169.out _ | refine keep_far ?_ GW176.out _) | exact HK.out)), (by repeat (first | (with_reducible first | exact HB.out | apply below_alloc | apply pw_below_drewN | apply below_drew1 | refine below_set ?_ (IsS60.ge HI0.out) | refine below_set ?_ GE169.out | refine below_set ?_ GE176.out) | exact HB.out))⟩)
                  ·skip
                   refine box_step ?hg (N := 6) ?hd (cs := #[.int .u16 0, .int .u16 0, .int .u8 0, .int .u8 0, .int .i64 0]) (t := 24) ?hr ?_; (case hd => rfl); (case hg => rfl); (case hr => first | (go_simp; done) | (go_simp; rfl))
                   intro gb196 hg w30 hbox hb
                   have n0_ := Aside0.mk (blk_below (g := gb169) (o := .cells #[.int .u16 0, .int .u16 0, .int .u8 0, .int .u8 0, .int .i64 0] 24 (0, 0)) (by (with_reducible repeat (first | refine blk_drewN ?_ _ | refine blk_drew ?_ | refine blk_alloc ?_ _)); exact BK169.out) hb)
                   have n1_ := Aside0.mk (blk_below (g := gb176) (o := .cells #[.int .u16 x177000_15, .int .u8 x177001_15, .bool x177002_15] 34 (0, 0)) (by (with_reducible repeat (first | refine blk_drewN ?_ _ | refine blk_drew ?_ | refine blk_alloc ?_ _)); exact BK176.out) hb)
                   have n2_ := Aside0.mk (IsS60.below (by repeat (first | (with_reducible first | exact HI0.out | apply IsS60.alloc | apply IsS60.drewN | apply IsS60.drew | apply IsS60.set_1 | apply IsS60.set_2 | refine IsS60.far ?_ NB0_169.out _ | refine IsS60.far ?_ NB0_176.out _) | exact HI0.out)) hb)
                   have n3_ := Aside0.mk (KeepBut.trans (by repeat (first | (with_reducible first | exact HK.out | apply KeepBut.set_ | apply keep_drewN | apply keep_drew | apply keep_alloc | refine keep_far ?_ GW169.out _ | refine keep_far ?_ GW176.out _) | exact HK.out)) (KeepBut.of_below hb g none) (.inl rfl))
                   have n4_ := Aside0.mk (below_step (by repeat (first | (with_reducible first | exact HB.out | apply below_alloc | apply pw_below_drewN | apply below_drew1 | refine below_set ?_ (IsS60.ge HI0.out) | refine below_set ?_ GE169.out | refine below_set ?_ GE176.out) | exact HB.out)) hb)
                   have n5_ := Aside0.mk (hbox)
                   have n6_ := Aside0.mk ((by rw [hg]; exact (keep_size (w := w) (g := g) (row := none) (by repeat (first | (with_reducible first | exact HK.out | apply KeepBut.set_ | apply keep_drewN | apply keep_drew | apply keep_alloc | refine keep_far ?_ GW169.out _ | refine keep_far ?_ GW176.out _) | exact HK.out))) : w.heap.size ≤ gb196))
                   have n7_ := Aside0.mk ((Nat.le_trans HW0.out (by rw [hg]; exact (keep_size (w := w) (g := g) (row := none) (by repeat (first | (with_reducible first | exact HK.out | apply KeepBut.set_ | apply keep_drewN | apply keep_drew | apply keep_alloc | refine keep_far ?_ GW169.out _ | refine keep_far ?_ GW176.out _) | exact HK.out))) : w.heap.size ≤ gb196) : w0.heap.size ≤ gb196))
                   have n8_ := Aside0.mk ((by rw [hg]; exact Nat.ne_of_lt (blk_lt (g := gb169) (o := .cells #[.int .u16 0, .int .u16 0, .int .u8 0, .int .u8 0, .int .i64 0] 24 (0, 0)) (by (with_reducible repeat (first | refine blk_drewN ?_ _ | refine blk_drew ?_ | refine blk_alloc ?_ _)); exact BK169.out)) : gb169 ≠ gb196))
                   have n9_ := Aside0.mk ((by rw [hg]; exact Nat.ne_of_gt (blk_lt (g := gb169) (o := .cells #[.int .u16 0, .int .u16 0, .int .u8 0, .int .u8 0, .int .i64 0] 24 (0, 0)) (by (with_reducible repeat (first | refine blk_drewN ?_ _ | refine blk_drew ?_ | refine blk_alloc ?_ _)); exact BK169.out)) : gb196 ≠ gb169))
                   have n10_ := Aside0.mk ((by rw [hg]; exact Nat.ne_of_lt (blk_lt (g := gb176) (o := .cells #[.int .u16 x177000_15, .int .u8 x177001_15, .bool x177002_15] 34 (0, 0)) (by (with_reducible repeat (first | refine blk_drewN ?_ _ | refine blk_drew ?_ | refine blk_alloc ?_ _)); exact BK176.out)) : gb176 ≠ gb196))
                   have n11_ := Aside0.mk ((by rw [hg]; exact Nat.ne_of_gt (blk_lt (g := gb176) (o := .cells #[.int .u16 x177000_15, .int .u8 x177001_15, .bool x177002_15] 34 (0, 0)) (by (with_reducible repeat (first | refine blk_drewN ?_ _ | refine blk_drew ?_ | refine blk_alloc ?_ _)); exact BK176.out)) : gb196 ≠ gb176))
                   have n12_ := Aside0.mk ((by rw [hg]; exact Nat.ne_of_lt (IsS60.lt (show IsS60 w0 _ g s0_0 x1001_15 x1002_15 from by repeat (first | (with_reducible first | exact HI0.out | apply IsS60.alloc | apply IsS60.drewN | apply IsS60.drew | apply IsS60.set_1 | apply IsS60.set_2 | refine IsS60.far ?_ NB0_169.out _ | refine IsS60.far ?_ NB0_176.out _) | exact HI0.out))) : g ≠ gb196))
                   have n13_ := Aside0.mk ((by rw [hg]; exact Nat.ne_of_gt (IsS60.lt (show IsS60 w0 _ g s0_0 x1001_15 x1002_15 from by repeat (first | (with_reducible first | exact HI0.out | apply IsS60.alloc | apply IsS60.drewN | apply IsS60.drew | apply IsS60.set_1 | apply IsS60.set_2 | refine IsS60.far ?_ NB0_169.out _ | refine IsS60.far ?_ NB0_176.out _) | exact HI0.out))) : gb196 ≠ g))
                   clear BK169
                   clear BK176
                   clear HI0
                   clear HK
                   clear HB
                   have BK169 := n0_
                   have BK176 := n1_
                   have HI0 := n2_
                   have HK := n3_
                   have HB := n4_
                   have BK196 := n5_
                   have GW196 := n6_
                   have GE196 := n7_
                   have NB169_196 := n8_
                   have NB196_169 := n9_
                   have NB176_196 := n10_
                   have NB196_176 := n11_
                   have NB0_196 := n12_
                   have NB196_0 := n13_
                   clear n0_ n1_ n2_ n3_ n4_ n5_ n6_ n7_ n8_ n9_ n10_ n11_ n12_ n13_
                   clear hb hbox hg
                   refine hK.out _ _ ⟨(blk_cell BK176.out 0).trans rfl, (blk_cell BK176.out 1).trans rfl, (blk_cell BK176.out 2).trans rfl⟩ (fun hHeld => ?_)
                   clear hK K
                   refine norm_ (a' := ?_) ?_ ?_
                   rotate_left
                   ·show Act.put _ (some 6) _ = _
                    simp only [Act.put, List.setIfInBounds_toArray, List.set_cons_zero, List.set_cons_succ, i64_w, i32_w]
                    rfl
                   exact norm_ (by first | (simp only [putAll, Act.put, List.setIfInBounds_toArray, List.set_cons_zero, List.set_cons_succ]; done) | (simp only [putAll, Act.put, List.setIfInBounds_toArray, List.set_cons_zero, List.set_cons_succ]; rfl)) (hJ12 (gb196) _ ⟨hHeld, (by (with_reducible repeat (first | refine blk_drewN ?_ _ | refine blk_drew ?_ | refine blk_alloc ?_ _)); exact BK169.out), (by (with_reducible repeat (first | refine blk_drewN ?_ _ | refine blk_drew ?_ | refine blk_alloc ?_ _)); exact BK176.out), (by (with_reducible repeat (first | refine blk_drewN ?_ _ | refine blk_drew ?_ | refine blk_alloc ?_ _)); exact BK196.out), GW196.out, GE196.out, NB0_196.out, NB196_0.out, NB169_196.out, NB196_169.out, NB176_196.out, NB196_176.out, (by repeat (first | (with_reducible first | exact HI0.out | apply IsS60.alloc | apply IsS60.drewN | apply IsS60.drew | apply IsS60.set_1 | apply IsS60.set_2 | refine IsS60.far ?_ NB0_169.out _ | refine IsS60.far ?_ NB0_176.out _ | refine IsS60.far ?_ NB0_196.out _) | exact HI0.out)), (by repeat (first | (with_reducible first | exact HK.out | apply KeepBut.set_ | apply keep_drewN | apply keep_drew | apply keep_alloc | refine keep_far ?_ GW169.out _ | refine keep_far ?_ GW176.out _ | refine keep_far ?_ GW196.out _) | exact HK.out)), (by repeat (first | (with_reducible first | exact HB.out | apply below_alloc | apply pw_below_drewN | apply below_drew1 | refine below_set ?_ (IsS60.ge HI0.out) | refine below_set ?_ GE169.out | refine below_set ?_ GE176.out | refine below_set ?_ GE196.out) | exact HB.out))⟩)
                 ·skip
                  rintro gb196 w31 ⟨hS_, h0_, h1_, h2_, h3_, h4_, h5_, h6_, h7_, h8_, h9_, h10_, h11_, h12_, h13_⟩
                  have n0_ : Aside0 (w31.heap[gb169]? = some (.cells #[.int .u16 0, .int .u16 0, .int .u8 0, .int .u8 0, .int .i64 0] 24 (0, 0))) := ⟨h0_⟩
                  have n1_ : Aside0 (w31.heap[gb176]? = some (.cells #[.int .u16 x177000_15, .int .u8 x177001_15, .bool x177002_15] 34 (0, 0))) := ⟨h1_⟩
                  have n2_ : Aside0 (w31.heap[gb196]? = some (.cells #[.int .u16 0, .int .u16 0, .int .u8 0, .int .u8 0, .int .i64 0] 24 (0, 0))) := ⟨h2_⟩
                  have n3_ : Aside0 (w.heap.size ≤ gb196) := ⟨h3_⟩
                  have n4_ : Aside0 (w0.heap.size ≤ gb196) := ⟨h4_⟩
                  have n5_ : Aside0 (g ≠ gb196) := ⟨h5_⟩
                  have n6_ : Aside0 (gb196 ≠ g) := ⟨h6_⟩
                  have n7_ : Aside0 (gb169 ≠ gb196) := ⟨h7_⟩
                  have n8_ : Aside0 (gb196 ≠ gb169) := ⟨h8_⟩
                  have n9_ : Aside0 (gb176 ≠ gb196) := ⟨h9_⟩
                  have n10_ : Aside0 (gb196 ≠ gb176) := ⟨h10_⟩
                  have n11_ : Aside0 (IsS60 w0 w31 g s0_0 x1001_15 x1002_15) := ⟨h11_⟩
                  have n12_ : Aside0 (KeepBut w w31 g none) := ⟨h12_⟩
                  have n13_ : Aside0 (Below w0.heap.size w0 w31) := ⟨h13_⟩
                  clear BK169
                  clear BK176
                  clear HI0
                  clear HK
                  clear HB
                  clear h0_ h1_ h2_ h3_ h4_ h5_ h6_ h7_ h8_ h9_ h10_ h11_ h12_ h13_
                  have BK169 := n0_
                  have BK176 := n1_
                  have BK196 := n2_
                  have GW196 := n3_
                  have GE196 := n4_
                  have NB0_196 := n5_
                  have NB196_0 := n6_
                  have NB169_196 := n7_
                  have NB196_169 := n8_
                  have NB176_196 := n9_
                  have NB196_176 := n10_
                  have HI0 := n11_
                  have HK := n12_
                  have HB := n13_
                  clear n0_ n1_ n2_ n3_ n4_ n5_ n6_ n7_ n8_ n9_ n10_ n11_ n12_ n13_
                  have hHeld : w31.cell? ⟨gb176, 0, none⟩ = some (.int .u16 x177000_15) ∧ w31.cell? ⟨gb176, 1, none⟩ = some (.int .u8 x177001_15) ∧ w31.cell? ⟨gb176, 2, none⟩ = some (.bool x177002_15) := hS_
                  refine norm_ (a' := ?_) ?_ ?_
                  rotate_left
                  ·simp only [putAll, Act.put, List.setIfInBounds_toArray, List.set_cons_zero, List.set_cons_succ]
                   rfl
                  refine two_ (i := 5) (j := 9) (Ni := some 32) (Nj := some 36) #[true, true, true, true, true, true, false, false, true, false, false, false, true, false] #[true, true, true, true, true, false, false, false, true, true, false, false, true, false] rfl rfl rfl rfl (two_of HT_.out (by kernel_rfl)) (by decide) (by decide) (fun K hK => ?_) (fun K hK => ?_)
                  ·skip
                   refine Kd.R_lit_step (Kd.int .i64) _ 3 ?hg (N := 32) ?hd (xs := ([0, 255, 255, 240, 15] : List Int)) (inner := [.int .i64 0, .int .i64 255, .int .i64 255, .int .i64 240, .int .i64 15]) (ok := fun _ => True) (okp := fun _ => True) ?hr ?hp (fun _ hk => hk) trivial (Below.refl _ _) (Nat.le_refl _) (by simp) ?_; (case hd => rfl); (case hg => rfl); (case hr => first | (go_simp; done) | (go_simp; rfl)); (case hp => exact (Reps.one (show Kd.M (Kd.int .i64) _ _ _ 0 [.int .i64 0] from rfl) (Reps.one (show Kd.M (Kd.int .i64) _ _ _ 255 [.int .i64 255] from rfl) (Reps.one (show Kd.M (Kd.int .i64) _ _ _ 255 [.int .i64 255] from rfl) (Reps.one (show Kd.M (Kd.int .i64) _ _ _ 240 [.int .i64 240] from rfl) (Reps.one (show Kd.M (Kd.int .i64) _ _ _ 15 [.int .i64 15] from rfl) (Reps.none _ _)))))))
                   intro v185 w32 ho33 hb hg_ hnew_
                   clear hg_ hnew_
                   (first | rw [← Ny184.out] at ho33 | (simp only [Int.reduceToNat] at ho33; rw [← Ny184.out] at ho33))
                   have n0_ := Aside0.mk (Kd.R_lower ho33 (keep_size (w := w) (g := g) (row := none) (by repeat (first | (with_reducible first | exact HK.out | apply KeepBut.set_ | apply keep_drewN | apply keep_drew | apply keep_alloc | refine keep_far ?_ GW169.out _ | refine keep_far ?_ GW176.out _ | refine keep_far ?_ GW196.out _) | exact HK.out))))
                   have n1_ := Aside0.mk (blk_below (g := gb169) (o := .cells #[.int .u16 0, .int .u16 0, .int .u8 0, .int .u8 0, .int .i64 0] 24 (0, 0)) (by (with_reducible repeat (first | refine blk_drewN ?_ _ | refine blk_drew ?_ | refine blk_alloc ?_ _)); exact BK169.out) hb)
                   have n2_ := Aside0.mk (blk_below (g := gb176) (o := .cells #[.int .u16 x177000_15, .int .u8 x177001_15, .bool x177002_15] 34 (0, 0)) (by (with_reducible repeat (first | refine blk_drewN ?_ _ | refine blk_drew ?_ | refine blk_alloc ?_ _)); exact BK176.out) hb)
                   have n3_ := Aside0.mk (IsS60.below (by repeat (first | (with_reducible first | exact HI0.out | apply IsS60.alloc | apply IsS60.drewN | apply IsS60.drew | apply IsS60.set_1 | apply IsS60.set_2 | refine IsS60.far ?_ NB0_169.out _ | refine IsS60.far ?_ NB0_176.out _ | refine IsS60.far ?_ NB0_196.out _) | exact HI0.out)) hb)
                   have n4_ := Aside0.mk (blk_below (g := gb196) (o := .cells #[.int .u16 0, .int .u16 0, .int .u8 0, .int .u8 0, .int .i64 0] 24 (0, 0)) (by (with_reducible repeat (first | refine blk_drewN ?_ _ | refine blk_drew ?_ | refine blk_alloc ?_ _)); exact BK196.out) hb)
                   have n5_ := Aside0.mk (KeepBut.trans (by repeat (first | (with_reducible first | exact HK.out | apply KeepBut.set_ | apply keep_drewN | apply keep_drew | apply keep_alloc | refine keep_far ?_ GW169.out _ | refine keep_far ?_ GW176.out _ | refine keep_far ?_ GW196.out _) | exact HK.out)) (KeepBut.of_below hb g none) (.inl rfl))
                   have n6_ := Aside0.mk (below_step (by repeat (first | (with_reducible first | exact HB.out | apply below_alloc | apply pw_below_drewN | apply below_drew1 | refine below_set ?_ (IsS60.ge HI0.out) | refine below_set ?_ GE169.out | refine below_set ?_ GE176.out | refine below_set ?_ GE196.out) | exact HB.out)) hb)
                   clear BK169
                   clear BK176
                   clear HI0
                   clear BK196
                   clear HK
                   clear HB
                   have HO186 := n0_
                   have BK169 := n1_
                   have BK176 := n2_
                   have HI0 := n3_
                   have BK196 := n4_
                   have HK := n5_
                   have HB := n6_
                   clear n0_ n1_ n2_ n3_ n4_ n5_ n6_
                   clear hb ho33
                   refine hK.out _ _ ⟨(blk_cell BK176.out 0).trans rfl, (blk_cell BK176.out 1).trans rfl, (blk_cell BK176.out 2).trans rfl⟩ (fun hHeld => ?_)
                   clear hK K
                   refine norm_ (a' := ?_) ?_ ?_
                   rotate_left
                   ·show Act.put _ (some 32) _ = _
                    simp only [Act.put, List.setIfInBounds_toArray, List.set_cons_zero, List.set_cons_succ, i64_w, i32_w]
                    rfl
                   exact norm_ (by first | (simp only [putAll, Act.put, List.setIfInBounds_toArray, List.set_cons_zero, List.set_cons_succ]; done) | (simp only [putAll, Act.put, List.setIfInBounds_toArray, List.set_cons_zero, List.set_cons_succ]; rfl)) (hJ5_12 (v185, gb196) _ ⟨hHeld, (by (with_reducible repeat (first | apply Kd.R_alloc | apply Kd.R_drewN | apply Kd.R_drew)); exact HO186.out), (by (with_reducible repeat (first | refine blk_drewN ?_ _ | refine blk_drew ?_ | refine blk_alloc ?_ _)); exact BK169.out), (by (with_reducible repeat (first | refine blk_drewN ?_ _ | refine blk_drew ?_ | refine blk_alloc ?_ _)); exact BK176.out), (by (with_reducible repeat (first | refine blk_drewN ?_ _ | refine blk_drew ?_ | refine blk_alloc ?_ _)); exact BK196.out), GW196.out, GE196.out, NB0_196.out, NB196_0.out, NB169_196.out, NB196_169.out, NB176_196.out, NB196_176.out, (by repeat (first | (with_reducible first | exact HI0.out | apply IsS60.alloc | apply IsS60.drewN | apply IsS60.drew | apply IsS60.set_1 | apply IsS60.set_2 | refine IsS60.far ?_ NB0_169.out _ | refine IsS60.far ?_ NB0_176.out _ | refine IsS60.far ?_ NB0_196.out _) | exact HI0.out)), (by repeat (first | (with_reducible first | exact HK.out | apply KeepBut.set_ | apply keep_drewN | apply keep_drew | apply keep_alloc | refine keep_far ?_ GW169.out _ | refine keep_far ?_ GW176.out _ | refine keep_far ?_ GW196.out _) | exact HK.out)), (by repeat (first | (with_reducible first | exact HB.out | apply below_alloc | apply pw_below_drewN | apply below_drew1 | refine below_set ?_ (IsS60.ge HI0.out) | refine below_set ?_ GE169.out | refine below_set ?_ GE176.out | refine below_set ?_ GE196.out) | exact HB.out))⟩)
                  ·skip
                   refine Kd.R_lit_step (Kd.int .i64) _ 3 ?hg (N := 36) ?hd (xs := ([0, 1, 2, 2] : List Int)) (inner := [.int .i64 0, .int .i64 1, .int .i64 2, .int .i64 2]) (ok := fun _ => True) (okp := fun _ => True) ?hr ?hp (fun _ hk => hk) trivial (Below.refl _ _) (Nat.le_refl _) (by simp) ?_; (case hd => rfl); (case hg => rfl); (case hr => first | (go_simp; done) | (go_simp; rfl)); (case hp => exact (Reps.one (show Kd.M (Kd.int .i64) _ _ _ 0 [.int .i64 0] from rfl) (Reps.one (show Kd.M (Kd.int .i64) _ _ _ 1 [.int .i64 1] from rfl) (Reps.one (show Kd.M (Kd.int .i64) _ _ _ 2 [.int .i64 2] from rfl) (Reps.one (show Kd.M (Kd.int .i64) _ _ _ 2 [.int .i64 2] from rfl) (Reps.none _ _))))))
                   intro v191 w32 ho33 hb hg_ hnew_
                   clear hg_ hnew_
                   (first | rw [← Ny190.out] at ho33 | (simp only [Int.reduceToNat] at ho33; rw [← Ny190.out] at ho33))
                   have n0_ := Aside0.mk (Kd.R_lower ho33 (keep_size (w := w) (g := g) (row := none) (by repeat (first | (with_reducible first | exact HK.out | apply KeepBut.set_ | apply keep_drewN | apply keep_drew | apply keep_alloc | refine keep_far ?_ GW169.out _ | refine keep_far ?_ GW176.out _ | refine keep_far ?_ GW196.out _) | exact HK.out))))
                   have n1_ := Aside0.mk (blk_below (g := gb169) (o := .cells #[.int .u16 0, .int .u16 0, .int .u8 0, .int .u8 0, .int .i64 0] 24 (0, 0)) (by (with_reducible repeat (first | refine blk_drewN ?_ _ | refine blk_drew ?_ | refine blk_alloc ?_ _)); exact BK169.out) hb)
                   have n2_ := Aside0.mk (blk_below (g := gb176) (o := .cells #[.int .u16 x177000_15, .int .u8 x177001_15, .bool x177002_15] 34 (0, 0)) (by (with_reducible repeat (first | refine blk_drewN ?_ _ | refine blk_drew ?_ | refine blk_alloc ?_ _)); exact BK176.out) hb)
                   have n3_ := Aside0.mk (IsS60.below (by repeat (first | (with_reducible first | exact HI0.out | apply IsS60.alloc | apply IsS60.drewN | apply IsS60.drew | apply IsS60.set_1 | apply IsS60.set_2 | refine IsS60.far ?_ NB0_169.out _ | refine IsS60.far ?_ NB0_176.out _ | refine IsS60.far ?_ NB0_196.out _) | exact HI0.out)) hb)
                   have n4_ := Aside0.mk (blk_below (g := gb196) (o := .cells #[.int .u16 0, .int .u16 0, .int .u8 0, .int .u8 0, .int .i64 0] 24 (0, 0)) (by (with_reducible repeat (first | refine blk_drewN ?_ _ | refine blk_drew ?_ | refine blk_alloc ?_ _)); exact BK196.out) hb)
                   have n5_ := Aside0.mk (KeepBut.trans (by repeat (first | (with_reducible first | exact HK.out | apply KeepBut.set_ | apply keep_drewN | apply keep_drew | apply keep_alloc | refine keep_far ?_ GW169.out _ | refine keep_far ?_ GW176.out _ | refine keep_far ?_ GW196.out _) | exact HK.out)) (KeepBut.of_below hb g none) (.inl rfl))
                   have n6_ := Aside0.mk (below_step (by repeat (first | (with_reducible first | exact HB.out | apply below_alloc | apply pw_below_drewN | apply below_drew1 | refine below_set ?_ (IsS60.ge HI0.out) | refine below_set ?_ GE169.out | refine below_set ?_ GE176.out | refine below_set ?_ GE196.out) | exact HB.out)) hb)
                   clear BK169
                   clear BK176
                   clear HI0
                   clear BK196
                   clear HK
                   clear HB
                   have HO192 := n0_
                   have BK169 := n1_
                   have BK176 := n2_
                   have HI0 := n3_
                   have BK196 := n4_
                   have HK := n5_
                   have HB := n6_
                   clear n0_ n1_ n2_ n3_ n4_ n5_ n6_
                   clear hb ho33
                   refine hK.out _ _ ⟨(blk_cell BK176.out 0).trans rfl, (blk_cell BK176.out 1).trans rfl, (blk_cell BK176.out 2).trans rfl⟩ (fun hHeld => ?_)
                   clear hK K
                   refine norm_ (a' := ?_) ?_ ?_
                   rotate_left
                   ·show Act.put _ (some 36) _ = _
                    simp only [Act.put, List.setIfInBounds_toArray, List.set_cons_zero, List.set_cons_succ, i64_w, i32_w]
                    rfl
                   exact norm_ (by first | (simp only [putAll, Act.put, List.setIfInBounds_toArray, List.set_cons_zero, List.set_cons_succ]; done) | (simp only [putAll, Act.put, List.setIfInBounds_toArray, List.set_cons_zero, List.set_cons_succ]; rfl)) (hJ9_12 (v191, gb196) _ ⟨hHeld, (by (with_reducible repeat (first | apply Kd.R_alloc | apply Kd.R_drewN | apply Kd.R_drew)); exact HO192.out), (by (with_reducible repeat (first | refine blk_drewN ?_ _ | refine blk_drew ?_ | refine blk_alloc ?_ _)); exact BK169.out), (by (with_reducible repeat (first | refine blk_drewN ?_ _ | refine blk_drew ?_ | refine blk_alloc ?_ _)); exact BK176.out), (by (with_reducible repeat (first | refine blk_drewN ?_ _ | refine blk_drew ?_ | refine blk_alloc ?_ _)); exact BK196.out), GW196.out, GE196.out, NB0_196.out, NB196_0.out, NB169_196.out, NB196_169.out, NB176_196.out, NB196_176.out, (by repeat (first | (with_reducible first | exact HI0.out | apply IsS60.alloc | apply IsS60.drewN | apply IsS60.drew | apply IsS60.set_1 | apply IsS60.set_2 | refine IsS60.far ?_ NB0_169.out _ | refine IsS60.far ?_ NB0_176.out _ | refine IsS60.far ?_ NB0_196.out _) | exact HI0.out)), (by repeat (first | (with_reducible first | exact HK.out | apply KeepBut.set_ | apply keep_drewN | apply keep_drew | apply keep_alloc | refine keep_far ?_ GW169.out _ | refine keep_far ?_ GW176.out _ | refine keep_far ?_ GW196.out _) | exact HK.out)), (by repeat (first | (with_reducible first | exact HB.out | apply below_alloc | apply pw_below_drewN | apply below_drew1 | refine below_set ?_ (IsS60.ge HI0.out) | refine below_set ?_ GE169.out | refine below_set ?_ GE176.out | refine below_set ?_ GE196.out) | exact HB.out))⟩)
                ·skip
                 rintro v191 w32 ⟨hS_, h0_, h1_, h2_, h3_, h4_, h5_⟩
                 have n0_ : Aside0 (Kd.R (Kd.int .i64) 3 w32 w.heap.size (fun _ => True) v191 y190) := ⟨h0_⟩
                 have n1_ : Aside0 (w32.heap[gb169]? = some (.cells #[.int .u16 0, .int .u16 0, .int .u8 0, .int .u8 0, .int .i64 0] 24 (0, 0))) := ⟨h1_⟩
                 have n2_ : Aside0 (w32.heap[gb176]? = some (.cells #[.int .u16 x177000_15, .int .u8 x177001_15, .bool x177002_15] 34 (0, 0))) := ⟨h2_⟩
                 have n3_ : Aside0 (IsS60 w0 w32 g s0_0 x1001_15 x1002_15) := ⟨h3_⟩
                 have n4_ : Aside0 (KeepBut w w32 g none) := ⟨h4_⟩
                 have n5_ : Aside0 (Below w0.heap.size w0 w32) := ⟨h5_⟩
                 clear BK169
                 clear BK176
                 clear HI0
                 clear HK
                 clear HB
                 clear h0_ h1_ h2_ h3_ h4_ h5_
                 have HO192 := n0_
                 have BK169 := n1_
                 have BK176 := n2_
                 have HI0 := n3_
                 have HK := n4_
                 have HB := n5_
                 clear n0_ n1_ n2_ n3_ n4_ n5_
                 have hHeld : w32.cell? ⟨gb176, 0, none⟩ = some (.int .u16 x177000_15) ∧ w32.cell? ⟨gb176, 1, none⟩ = some (.int .u8 x177001_15) ∧ w32.cell? ⟨gb176, 2, none⟩ = some (.bool x177002_15) := hS_
                 refine norm_ (a' := ?_) ?_ ?_
                 rotate_left
                 ·simp only [putAll, Act.put, List.setIfInBounds_toArray, List.set_cons_zero, List.set_cons_succ]
                  rfl
                 refine two_ (i := 5) (j := 12) (Ni := some 32) (Nj := some 6) #[true, true, true, true, true, true, false, false, true, true, false, false, false, false] #[true, true, true, true, true, false, false, false, true, true, false, false, true, false] rfl rfl rfl rfl (two_of HT_.out (by kernel_rfl)) (by decide) (by decide) (fun K hK => ?_) (fun K hK => ?_)
                 ·skip
                  refine Kd.R_lit_step (Kd.int .i64) _ 3 ?hg (N := 32) ?hd (xs := ([0, 255, 255, 240, 15] : List Int)) (inner := [.int .i64 0, .int .i64 255, .int .i64 255, .int .i64 240, .int .i64 15]) (ok := fun _ => True) (okp := fun _ => True) ?hr ?hp (fun _ hk => hk) trivial (Below.refl _ _) (Nat.le_refl _) (by simp) ?_; (case hd => rfl); (case hg => rfl); (case hr => first | (go_simp; done) | (go_simp; rfl)); (case hp => exact (Reps.one (show Kd.M (Kd.int .i64) _ _ _ 0 [.int .i64 0] from rfl) (Reps.one (show Kd.M (Kd.int .i64) _ _ _ 255 [.int .i64 255] from rfl) (Reps.one (show Kd.M (Kd.int .i64) _ _ _ 255 [.int .i64 255] from rfl) (Reps.one (show Kd.M (Kd.int .i64) _ _ _ 240 [.int .i64 240] from rfl) (Reps.one (show Kd.M (Kd.int .i64) _ _ _ 15 [.int .i64 15] from rfl) (Reps.none _ _)))))))
                  intro v185 w33 ho34 hb hg_ hnew_
                  clear hg_ hnew_
                  (first | rw [← Ny184.out] at ho34 | (simp only [Int.reduceToNat] at ho34; rw [← Ny184.out] at ho34))
                  have n0_ := Aside0.mk (Kd.R_elder' (by (with_reducible repeat (first | apply Kd.R_alloc | apply Kd.R_drewN | apply Kd.R_drew)); exact HO192.out) (Kd.R_base ho34) hb)
                  have n1_ := Aside0.mk (Kd.R_lower (Kd.R_new' ho34 (Kd.R_lt (by (with_reducible repeat (first | apply Kd.R_alloc | apply Kd.R_drewN | apply Kd.R_drew)); exact HO192.out))) (keep_size (w := w) (g := g) (row := none) (by repeat (first | (with_reducible first | exact HK.out | apply KeepBut.set_ | apply keep_drewN | apply keep_drew | apply keep_alloc | refine keep_far ?_ GW169.out _ | refine keep_far ?_ GW176.out _) | exact HK.out))))
                  have n2_ := Aside0.mk (blk_below (g := gb169) (o := .cells #[.int .u16 0, .int .u16 0, .int .u8 0, .int .u8 0, .int .i64 0] 24 (0, 0)) (by (with_reducible repeat (first | refine blk_drewN ?_ _ | refine blk_drew ?_ | refine blk_alloc ?_ _)); exact BK169.out) hb)
                  have n3_ := Aside0.mk (blk_below (g := gb176) (o := .cells #[.int .u16 x177000_15, .int .u8 x177001_15, .bool x177002_15] 34 (0, 0)) (by (with_reducible repeat (first | refine blk_drewN ?_ _ | refine blk_drew ?_ | refine blk_alloc ?_ _)); exact BK176.out) hb)
                  have n4_ := Aside0.mk (IsS60.below (by repeat (first | (with_reducible first | exact HI0.out | apply IsS60.alloc | apply IsS60.drewN | apply IsS60.drew | apply IsS60.set_1 | apply IsS60.set_2 | refine IsS60.far ?_ NB0_169.out _ | refine IsS60.far ?_ NB0_176.out _) | exact HI0.out)) hb)
                  have n5_ := Aside0.mk (KeepBut.trans (by repeat (first | (with_reducible first | exact HK.out | apply KeepBut.set_ | apply keep_drewN | apply keep_drew | apply keep_alloc | refine keep_far ?_ GW169.out _ | refine keep_far ?_ GW176.out _) | exact HK.out)) (KeepBut.of_below hb g none) (.inl rfl))
                  have n6_ := Aside0.mk (below_step (by repeat (first | (with_reducible first | exact HB.out | apply below_alloc | apply pw_below_drewN | apply below_drew1 | refine below_set ?_ (IsS60.ge HI0.out) | refine below_set ?_ GE169.out | refine below_set ?_ GE176.out) | exact HB.out)) hb)
                  clear HO192
                  clear BK169
                  clear BK176
                  clear HI0
                  clear HK
                  clear HB
                  have HO192 := n0_
                  have HO186 := n1_
                  have BK169 := n2_
                  have BK176 := n3_
                  have HI0 := n4_
                  have HK := n5_
                  have HB := n6_
                  clear n0_ n1_ n2_ n3_ n4_ n5_ n6_
                  clear hb ho34
                  refine hK.out _ _ ⟨(blk_cell BK176.out 0).trans rfl, (blk_cell BK176.out 1).trans rfl, (blk_cell BK176.out 2).trans rfl⟩ (fun hHeld => ?_)
                  clear hK K
                  refine norm_ (a' := ?_) ?_ ?_
                  rotate_left
                  ·show Act.put _ (some 32) _ = _
                   simp only [Act.put, List.setIfInBounds_toArray, List.set_cons_zero, List.set_cons_succ, i64_w, i32_w]
                   rfl
                  exact norm_ (by first | (simp only [putAll, Act.put, List.setIfInBounds_toArray, List.set_cons_zero, List.set_cons_succ]; done) | (simp only [putAll, Act.put, List.setIfInBounds_toArray, List.set_cons_zero, List.set_cons_succ]; rfl)) (hJ5_9 (v185, v191) _ ⟨hHeld, (by (with_reducible repeat (first | apply Kd.R_alloc | apply Kd.R_drewN | apply Kd.R_drew)); exact Kd.R_mono HO186.out (fun _ hk => hk.2)), (by (with_reducible repeat (first | apply Kd.R_alloc | apply Kd.R_drewN | apply Kd.R_drew)); exact Kd.R_mono HO192.out (fun _ hk => hk.2)), (by (with_reducible repeat (first | refine blk_drewN ?_ _ | refine blk_drew ?_ | refine blk_alloc ?_ _)); exact BK169.out), (by (with_reducible repeat (first | refine blk_drewN ?_ _ | refine blk_drew ?_ | refine blk_alloc ?_ _)); exact BK176.out), (by repeat (first | (with_reducible first | exact HI0.out | apply IsS60.alloc | apply IsS60.drewN | apply IsS60.drew | apply IsS60.set_1 | apply IsS60.set_2 | refine IsS60.far ?_ NB0_169.out _ | refine IsS60.far ?_ NB0_176.out _) | exact HI0.out)), (by repeat (first | (with_reducible first | exact HK.out | apply KeepBut.set_ | apply keep_drewN | apply keep_drew | apply keep_alloc | refine keep_far ?_ GW169.out _ | refine keep_far ?_ GW176.out _) | exact HK.out)), (by repeat (first | (with_reducible first | exact HB.out | apply below_alloc | apply pw_below_drewN | apply below_drew1 | refine below_set ?_ (IsS60.ge HI0.out) | refine below_set ?_ GE169.out | refine below_set ?_ GE176.out) | exact HB.out))⟩)
                 ·skip
                  refine box_step ?hg (N := 6) ?hd (cs := #[.int .u16 0, .int .u16 0, .int .u8 0, .int .u8 0, .int .i64 0]) (t := 24) ?hr ?_; (case hd => rfl); (case hg => rfl); (case hr => first | (go_simp; done) | (go_simp; rfl))
                  intro gb196 hg w33 hbox hb
                  have n0_ := Aside0.mk (Kd.R_below (by (with_reducible repeat (first | apply Kd.R_alloc | apply Kd.R_drewN | apply Kd.R_drew)); exact HO192.out) hb)
                  have n1_ := Aside0.mk (blk_below (g := gb169) (o := .cells #[.int .u16 0, .int .u16 0, .int .u8 0, .int .u8 0, .int .i64 0] 24 (0, 0)) (by (with_reducible repeat (first | refine blk_drewN ?_ _ | refine blk_drew ?_ | refine blk_alloc ?_ _)); exact BK169.out) hb)
                  have n2_ := Aside0.mk (blk_below (g := gb176) (o := .cells #[.int .u16 x177000_15, .int .u8 x177001_15, .bool x177002_15] 34 (0, 0)) (by (with_reducible repeat (first | refine blk_drewN ?_ _ | refine blk_drew ?_ | refine blk_alloc ?_ _)); exact BK176.out) hb)
                  have n3_ := Aside0.mk (IsS60.below (by repeat (first | (with_reducible first | exact HI0.out | apply IsS60.alloc | apply IsS60.drewN | apply IsS60.drew | apply IsS60.set_1 | apply IsS60.set_2 | refine IsS60.far ?_ NB0_169.out _ | refine IsS60.far ?_ NB0_176.out _) | exact HI0.out)) hb)
                  have n4_ := Aside0.mk (KeepBut.trans (by repeat (first | (with_reducible first | exact HK.out | apply KeepBut.set_ | apply keep_drewN | apply keep_drew | apply keep_alloc | refine keep_far ?_ GW169.out _ | refine keep_far ?_ GW176.out _) | exact HK.out)) (KeepBut.of_below hb g none) (.inl rfl))
                  have n5_ := Aside0.mk (below_step (by repeat (first | (with_reducible first | exact HB.out | apply below_alloc | apply pw_below_drewN | apply below_drew1 | refine below_set ?_ (IsS60.ge HI0.out) | refine below_set ?_ GE169.out | refine below_set ?_ GE176.out) | exact HB.out)) hb)
                  have n6_ := Aside0.mk (hbox)
                  have n7_ := Aside0.mk ((by rw [hg]; exact (keep_size (w := w) (g := g) (row := none) (by repeat (first | (with_reducible first | exact HK.out | apply KeepBut.set_ | apply keep_drewN | apply keep_drew | apply keep_alloc | refine keep_far ?_ GW169.out _ | refine keep_far ?_ GW176.out _) | exact HK.out))) : w.heap.size ≤ gb196))
                  have n8_ := Aside0.mk ((Nat.le_trans HW0.out (by rw [hg]; exact (keep_size (w := w) (g := g) (row := none) (by repeat (first | (with_reducible first | exact HK.out | apply KeepBut.set_ | apply keep_drewN | apply keep_drew | apply keep_alloc | refine keep_far ?_ GW169.out _ | refine keep_far ?_ GW176.out _) | exact HK.out))) : w.heap.size ≤ gb196) : w0.heap.size ≤ gb196))
                  have n9_ := Aside0.mk ((by rw [hg]; exact Nat.ne_of_lt (blk_lt (g := gb169) (o := .cells #[.int .u16 0, .int .u16 0, .int .u8 0, .int .u8 0, .int .i64 0] 24 (0, 0)) (by (with_reducible repeat (first | refine blk_drewN ?_ _ | refine blk_drew ?_ | refine blk_alloc ?_ _)); exact BK169.out)) : gb169 ≠ gb196))
                  have n10_ := Aside0.mk ((by rw [hg]; exact Nat.ne_of_gt (blk_lt (g := gb169) (o := .cells #[.int .u16 0, .int .u16 0, .int .u8 0, .int .u8 0, .int .i64 0] 24 (0, 0)) (by (with_reducible repeat (first | refine blk_drewN ?_ _ | refine blk_drew ?_ | refine blk_alloc ?_ _)); exact BK169.out)) : gb196 ≠ gb169))
                  have n11_ := Aside0.mk ((by rw [hg]; exact Nat.ne_of_lt (blk_lt (g := gb176) (o := .cells #[.int .u16 x177000_15, .int .u8 x177001_15, .bool x177002_15] 34 (0, 0)) (by (with_reducible repeat (first | refine blk_drewN ?_ _ | refine blk_drew ?_ | refine blk_alloc ?_ _)); exact BK176.out)) : gb176 ≠ gb196))
                  have n12_ := Aside0.mk ((by rw [hg]; exact Nat.ne_of_gt (blk_lt (g := gb176) (o := .cells #[.int .u16 x177000_15, .int .u8 x177001_15, .bool x177002_15] 34 (0, 0)) (by (with_reducible repeat (first | refine blk_drewN ?_ _ | refine blk_drew ?_ | refine blk_alloc ?_ _)); exact BK176.out)) : gb196 ≠ gb176))
                  have n13_ := Aside0.mk ((by rw [hg]; exact Nat.ne_of_lt (IsS60.lt (show IsS60 w0 _ g s0_0 x1001_15 x1002_15 from by repeat (first | (with_reducible first | exact HI0.out | apply IsS60.alloc | apply IsS60.drewN | apply IsS60.drew | apply IsS60.set_1 | apply IsS60.set_2 | refine IsS60.far ?_ NB0_169.out _ | refine IsS60.far ?_ NB0_176.out _) | exact HI0.out))) : g ≠ gb196))
                  have n14_ := Aside0.mk ((by rw [hg]; exact Nat.ne_of_gt (IsS60.lt (show IsS60 w0 _ g s0_0 x1001_15 x1002_15 from by repeat (first | (with_reducible first | exact HI0.out | apply IsS60.alloc | apply IsS60.drewN | apply IsS60.drew | apply IsS60.set_1 | apply IsS60.set_2 | refine IsS60.far ?_ NB0_169.out _ | refine IsS60.far ?_ NB0_176.out _) | exact HI0.out))) : gb196 ≠ g))
                  clear HO192
                  clear BK169
                  clear BK176
                  clear HI0
                  clear HK
                  clear HB
                  have HO192 := n0_
                  have BK169 := n1_
                  have BK176 := n2_
                  have HI0 := n3_
                  have HK := n4_
                  have HB := n5_
                  have BK196 := n6_
                  have GW196 := n7_
                  have GE196 := n8_
                  have NB169_196 := n9_
                  have NB196_169 := n10_
                  have NB176_196 := n11_
                  have NB196_176 := n12_
                  have NB0_196 := n13_
                  have NB196_0 := n14_
                  clear n0_ n1_ n2_ n3_ n4_ n5_ n6_ n7_ n8_ n9_ n10_ n11_ n12_ n13_ n14_
                  clear hb hbox hg
                  refine hK.out _ _ ⟨(blk_cell BK176.out 0).trans rfl, (blk_cell BK176.out 1).trans rfl, (blk_cell BK176.out 2).trans rfl⟩ (fun hHeld => ?_)
                  clear hK K
                  refine norm_ (a' := ?_) ?_ ?_
                  rotate_left
                  ·show Act.put _ (some 6) _ = _
                   simp only [Act.put, List.setIfInBounds_toArray, List.set_cons_zero, List.set_cons_succ, i64_w, i32_w]
                   rfl
                  exact norm_ (by first | (simp only [putAll, Act.put, List.setIfInBounds_toArray, List.set_cons_zero, List.set_cons_succ]; done) | (simp only [putAll, Act.put, List.setIfInBounds_toArray, List.set_cons_zero, List.set_cons_succ]; rfl)) (hJ9_12 (v191, gb196) _ ⟨hHeld, (by (with_reducible repeat (first | apply Kd.R_alloc | apply Kd.R_drewN | apply Kd.R_drew)); exact HO192.out), (by (with_reducible repeat (first | refine blk_drewN ?_ _ | refine blk_drew ?_ | refine blk_alloc ?_ _)); exact BK169.out), (by (with_reducible repeat (first | refine blk_drewN ?_ _ | refine blk_drew ?_ | refine blk_alloc ?_ _)); exact BK176.out), (by (with_reducible repeat (first | refine blk_drewN ?_ _ | refine blk_drew ?_ | refine blk_alloc ?_ _)); exact BK196.out), GW196.out, GE196.out, NB0_196.out, NB196_0.out, NB169_196.out, NB196_169.out, NB176_196.out, NB196_176.out, (by repeat (first | (with_reducible first | exact HI0.out | apply IsS60.alloc | apply IsS60.drewN | apply IsS60.drew | apply IsS60.set_1 | apply IsS60.set_2 | refine IsS60.far ?_ NB0_169.out _ | refine IsS60.far ?_ NB0_176.out _ | refine IsS60.far ?_ NB0_196.out _) | exact HI0.out)), (by repeat (first | (with_reducible first | exact HK.out | apply KeepBut.set_ | apply keep_drewN | apply keep_drew | apply keep_alloc | refine keep_far ?_ GW169.out _ | refine keep_far ?_ GW176.out _ | refine keep_far ?_ GW196.out _) | exact HK.out)), (by repeat (first | (with_reducible first | exact HB.out | apply below_alloc | apply pw_below_drewN | apply below_drew1 | refine below_set ?_ (IsS60.ge HI0.out) | refine below_set ?_ GE169.out | refine below_set ?_ GE176.out | refine below_set ?_ GE196.out) | exact HB.out))⟩)
               ·skip
                rintro v185 w32 ⟨hS_, h0_, h1_, h2_, h3_, h4_, h5_⟩
                have n0_ : Aside0 (Kd.R (Kd.int .i64) 3 w32 w.heap.size (fun _ => True) v185 y184) := ⟨h0_⟩
                have n1_ : Aside0 (w32.heap[gb169]? = some (.cells #[.int .u16 0, .int .u16 0, .int .u8 0, .int .u8 0, .int .i64 0] 24 (0, 0))) := ⟨h1_⟩
                have n2_ : Aside0 (w32.heap[gb176]? = some (.cells #[.int .u16 x177000_15, .int .u8 x177001_15, .bool x177002_15] 34 (0, 0))) := ⟨h2_⟩
                have n3_ : Aside0 (IsS60 w0 w32 g s0_0 x1001_15 x1002_15) := ⟨h3_⟩
                have n4_ : Aside0 (KeepBut w w32 g none) := ⟨h4_⟩
                have n5_ : Aside0 (Below w0.heap.size w0 w32) := ⟨h5_⟩
                clear BK169
                clear BK176
                clear HI0
                clear HK
                clear HB
                clear h0_ h1_ h2_ h3_ h4_ h5_
                have HO186 := n0_
                have BK169 := n1_
                have BK176 := n2_
                have HI0 := n3_
                have HK := n4_
                have HB := n5_
                clear n0_ n1_ n2_ n3_ n4_ n5_
                have hHeld : w32.cell? ⟨gb176, 0, none⟩ = some (.int .u16 x177000_15) ∧ w32.cell? ⟨gb176, 1, none⟩ = some (.int .u8 x177001_15) ∧ w32.cell? ⟨gb176, 2, none⟩ = some (.bool x177002_15) := hS_
                obtain ⟨Ao33, co33, eo33⟩ := Kd.R_slice HO186.out
                (first | subst eo33 | (injection eo33 with f1_ f2_ f3_; have f4_ := f1_.symm; have f5_ := f3_.symm; clear f1_ f2_ f3_; subst f4_; subst f5_))
                refine norm_ (a' := ?_) ?_ ?_
                rotate_left
                ·simp only [putAll, Act.put, List.setIfInBounds_toArray, List.set_cons_zero, List.set_cons_succ]
                 rfl
                refine three_ (i := 6) (j := 9) (k := 12) (Ni := some 33) (Nj := some 36) (Nk := some 6) #[true, true, true, true, true, true, true, false, true, false, false, false, false, false] #[true, true, true, true, true, true, false, false, true, true, false, false, false, false] #[true, true, true, true, true, true, false, false, true, false, false, false, true, false] rfl rfl rfl rfl rfl rfl (three_of HT_.out (by kernel_rfl)) (by decide) (by decide) (by decide) (fun K hK => ?_) (fun K hK => ?_) (fun K hK => ?_)
                ·skip
                 refine goes_ Try.func35 (by kernel_rfl) rfl #[.pointer (some ⟨g, 0, none⟩), .slice Ao33 y184.length co33] (by rfl) rfl rfl (by (try simp only [List.map_toArray, List.map_cons, List.map_nil]); first | done | rfl | (simp only [List.length_drop, List.length_take]; rfl)) ?_
                 with_reducible refine (spec_l01PickInt.calls g s0_0 x1001_15 x1002_15 _ _ y184 t187 t188 t189 w0 _ ?side1 ?side2 ?side3 ?side4 ?side5 A25.out).mono ?_
                 (case side1 => repeat (first | (with_reducible first | exact HI0.out | apply IsS60.alloc | apply IsS60.drewN | apply IsS60.drew | apply IsS60.set_1 | apply IsS60.set_2 | refine IsS60.far ?_ NB0_169.out _ | refine IsS60.far ?_ NB0_176.out _) | exact HI0.out))
                 (case side2 => repeat (first | (with_reducible first | exact HB.out | apply below_alloc | apply pw_below_drewN | apply below_drew1 | refine below_set ?_ (IsS60.ge HI0.out) | refine below_set ?_ GE169.out | refine below_set ?_ GE176.out) | exact HB.out))
                 (case side3 => repeat (first | exact (Kd.R_reads' HO186.out).2.2 | (with_reducible refine Kd.C_alloc ?_ _) | (with_reducible refine Kd.C_drewN ?_ _) | (with_reducible refine Kd.C_drew ?_)))
                 (case side4 => exact (Kd.R_reads' HO186.out).2.1)
                 (case side5 => exact far_slice (IsS60.own_ne HI0.out HO186.out (by decide)))
                 rintro e w34 ⟨rfl, hi, hb, hk⟩
                 refine ⟨_, rfl, ?_⟩
                 have n0_ := Aside0.mk (KeepBut.blk hk (g' := gb169) (o := .cells #[.int .u16 0, .int .u16 0, .int .u8 0, .int .u8 0, .int .i64 0] 24 (0, 0)) (by (with_reducible repeat (first | refine blk_drewN ?_ _ | refine blk_drew ?_ | refine blk_alloc ?_ _)); exact BK169.out) NB169_0.out (by simp))
                 have n1_ := Aside0.mk (KeepBut.blk hk (g' := gb176) (o := .cells #[.int .u16 x177000_15, .int .u8 x177001_15, .bool x177002_15] 34 (0, 0)) (by (with_reducible repeat (first | refine blk_drewN ?_ _ | refine blk_drew ?_ | refine blk_alloc ?_ _)); exact BK176.out) NB176_0.out (by simp))
                 have n2_ := Aside0.mk (Kd.R_mono (Kd.R_keep (IsS60.apart (show IsS60 w0 _ g s0_0 x1001_15 x1002_15 from by repeat (first | (with_reducible first | exact HI0.out | apply IsS60.alloc | apply IsS60.drewN | apply IsS60.drew | apply IsS60.set_1 | apply IsS60.set_2 | refine IsS60.far ?_ NB0_169.out _ | refine IsS60.far ?_ NB0_176.out _) | exact HI0.out)) (by (with_reducible repeat (first | apply Kd.R_alloc | apply Kd.R_drewN | apply Kd.R_drew)); exact HO186.out) (by decide)) hk (fun _ h => h.2)) (fun _ h => h.1))
                 have n3_ := Aside0.mk (KeepBut.trans (by repeat (first | (with_reducible first | exact HK.out | apply KeepBut.set_ | apply keep_drewN | apply keep_drew | apply keep_alloc | refine keep_far ?_ GW169.out _ | refine keep_far ?_ GW176.out _) | exact HK.out)) hk (.inl rfl))
                 have n4_ := Aside0.mk (hb)
                 have n5_ := Aside0.mk (hi)
                 clear BK169
                 clear BK176
                 clear HO186
                 clear HK
                 clear HB
                 clear HI0
                 have BK169 := n0_
                 have BK176 := n1_
                 have HO186 := n2_
                 have HK := n3_
                 have HB := n4_
                 have HI0 := n5_
                 clear n0_ n1_ n2_ n3_ n4_ n5_
                 (try clear hb)
                 (try clear hb2)
                 (try clear hk)
                 (try clear hi)
                 refine hK.out _ _ ⟨(blk_cell BK176.out 0).trans rfl, (blk_cell BK176.out 1).trans rfl, (blk_cell BK176.out 2).trans rfl⟩ (fun hHeld => ?_)
                 clear hK K
                 refine norm_ (a' := ?_) ?_ ?_
                 rotate_left
                 ·show Act.put _ (some 33) _ = _
                  simp only [Act.put, List.setIfInBounds_toArray, List.set_cons_zero, List.set_cons_succ, i64_w, i32_w]
                  rfl
                 refine pure_ (i := 7) (N := some 34) (v := ?_) (a' := ?_) #[true, true, true, true, true, true, true, true, true, false, false, false, false, false] rfl rfl (any_of HT_.out (by kernel_rfl)) (fun _ _ _ h => h) (Or.inl ⟨by rfl, ?_⟩) ?_ ?_
                 rotate_left
                 ·intro w'
                  go_simp
                  with_reducible rfl
                 rotate_left
                 ·simp only [Act.put, List.setIfInBounds_toArray, List.set_cons_zero, List.set_cons_succ, i64_w, i32_w]
                  rfl
                 exact norm_ (by first | (simp only [putAll, Act.put, List.setIfInBounds_toArray, List.set_cons_zero, List.set_cons_succ]; done) | (simp only [putAll, Act.put, List.setIfInBounds_toArray, List.set_cons_zero, List.set_cons_succ]; rfl)) (hJ5_6 (.slice Ao33 y184.length co33) _ ⟨hHeld, (by (with_reducible repeat (first | apply Kd.R_alloc | apply Kd.R_drewN | apply Kd.R_drew)); exact HO186.out), (by (with_reducible repeat (first | refine blk_drewN ?_ _ | refine blk_drew ?_ | refine blk_alloc ?_ _)); exact BK169.out), (by (with_reducible repeat (first | refine blk_drewN ?_ _ | refine blk_drew ?_ | refine blk_alloc ?_ _)); exact BK176.out), (by repeat (first | (with_reducible first | exact HI0.out | apply IsS60.alloc | apply IsS60.drewN | apply IsS60.drew | apply IsS60.set_1 | apply IsS60.set_2 | refine IsS60.far ?_ NB0_169.out _ | refine IsS60.far ?_ NB0_176.out _) | exact HI0.out)), (by repeat (first | (with_reducible first | exact HK.out | apply KeepBut.set_ | apply keep_drewN | apply keep_drew | apply keep_alloc | refine keep_far ?_ GW169.out _ | refine keep_far ?_ GW176.out _) | exact HK.out)), (by repeat (first | (with_reducible first | exact HB.out | apply below_alloc | apply pw_below_drewN | apply below_drew1 | refine below_set ?_ (IsS60.ge HI0.out) | refine below_set ?_ GE169.out | refine below_set ?_ GE176.out) | exact HB.out))⟩)
                ·skip
                 refine Kd.R_lit_step (Kd.int .i64) _ 3 ?hg (N := 36) ?hd (xs := ([0, 1, 2, 2] : List Int)) (inner := [.int .i64 0, .int .i64 1, .int .i64 2, .int .i64 2]) (ok := fun _ => True) (okp := fun _ => True) ?hr ?hp (fun _ hk => hk) trivial (Below.refl _ _) (Nat.le_refl _) (by simp) ?_; (case hd => rfl); (case hg => rfl); (case hr => first | (go_simp; done) | (go_simp; rfl)); (case hp => exact (Reps.one (show Kd.M (Kd.int .i64) _ _ _ 0 [.int .i64 0] from rfl) (Reps.one (show Kd.M (Kd.int .i64) _ _ _ 1 [.int .i64 1] from rfl) (Reps.one (show Kd.M (Kd.int .i64) _ _ _ 2 [.int .i64 2] from rfl) (Reps.one (show Kd.M (Kd.int .i64) _ _ _ 2 [.int .i64 2] from rfl) (Reps.none _ _))))))
                 intro v191 w33 ho34 hb hg_ hnew_
                 clear hg_ hnew_
                 (first | rw [← Ny190.out] at ho34 | (simp only [Int.reduceToNat] at ho34; rw [← Ny190.out] at ho34))
                 have n0_ := Aside0.mk (Kd.R_elder' (by (with_reducible repeat (first | apply Kd.R_alloc | apply Kd.R_drewN | apply Kd.R_drew)); exact HO186.out) (Kd.R_base ho34) hb)
                 have n1_ := Aside0.mk (Kd.R_lower (Kd.R_new' ho34 (Kd.R_lt (by (with_reducible repeat (first | apply Kd.R_alloc | apply Kd.R_drewN | apply Kd.R_drew)); exact HO186.out))) (keep_size (w := w) (g := g) (row := none) (by repeat (first | (with_reducible first | exact HK.out | apply KeepBut.set_ | apply keep_drewN | apply keep_drew | apply keep_alloc | refine keep_far ?_ GW169.out _ | refine keep_far ?_ GW176.out _) | exact HK.out))))
                 have n2_ := Aside0.mk (blk_below (g := gb169) (o := .cells #[.int .u16 0, .int .u16 0, .int .u8 0, .int .u8 0, .int .i64 0] 24 (0, 0)) (by (with_reducible repeat (first | refine blk_drewN ?_ _ | refine blk_drew ?_ | refine blk_alloc ?_ _)); exact BK169.out) hb)
                 have n3_ := Aside0.mk (blk_below (g := gb176) (o := .cells #[.int .u16 x177000_15, .int .u8 x177001_15, .bool x177002_15] 34 (0, 0)) (by (with_reducible repeat (first | refine blk_drewN ?_ _ | refine blk_drew ?_ | refine blk_alloc ?_ _)); exact BK176.out) hb)
                 have n4_ := Aside0.mk (IsS60.below (by repeat (first | (with_reducible first | exact HI0.out | apply IsS60.alloc | apply IsS60.drewN | apply IsS60.drew | apply IsS60.set_1 | apply IsS60.set_2 | refine IsS60.far ?_ NB0_169.out _ | refine IsS60.far ?_ NB0_176.out _) | exact HI0.out)) hb)
                 have n5_ := Aside0.mk (KeepBut.trans (by repeat (first | (with_reducible first | exact HK.out | apply KeepBut.set_ | apply keep_drewN | apply keep_drew | apply keep_alloc | refine keep_far ?_ GW169.out _ | refine keep_far ?_ GW176.out _) | exact HK.out)) (KeepBut.of_below hb g none) (.inl rfl))
                 have n6_ := Aside0.mk (below_step (by repeat (first | (with_reducible first | exact HB.out | apply below_alloc | apply pw_below_drewN | apply below_drew1 | refine below_set ?_ (IsS60.ge HI0.out) | refine below_set ?_ GE169.out | refine below_set ?_ GE176.out) | exact HB.out)) hb)
                 clear HO186
                 clear BK169
                 clear BK176
                 clear HI0
                 clear HK
                 clear HB
                 have HO186 := n0_
                 have HO192 := n1_
                 have BK169 := n2_
                 have BK176 := n3_
                 have HI0 := n4_
                 have HK := n5_
                 have HB := n6_
                 clear n0_ n1_ n2_ n3_ n4_ n5_ n6_
                 clear hb ho34
                 refine hK.out _ _ ⟨(blk_cell BK176.out 0).trans rfl, (blk_cell BK176.out 1).trans rfl, (blk_cell BK176.out 2).trans rfl⟩ (fun hHeld => ?_)
                 clear hK K
                 refine norm_ (a' := ?_) ?_ ?_
                 rotate_left
                 ·show Act.put _ (some 36) _ = _
                  simp only [Act.put, List.setIfInBounds_toArray, List.set_cons_zero, List.set_cons_succ, i64_w, i32_w]
                  rfl
                 exact norm_ (by first | (simp only [putAll, Act.put, List.setIfInBounds_toArray, List.set_cons_zero, List.set_cons_succ]; done) | (simp only [putAll, Act.put, List.setIfInBounds_toArray, List.set_cons_zero, List.set_cons_succ]; rfl)) (hJ5_9 ((.slice Ao33 y184.length co33), v191) _ ⟨hHeld, (by (with_reducible repeat (first | apply Kd.R_alloc | apply Kd.R_drewN | apply Kd.R_drew)); exact Kd.R_mono HO186.out (fun _ hk => hk.2)), (by (with_reducible repeat (first | apply Kd.R_alloc | apply Kd.R_drewN | apply Kd.R_drew)); exact Kd.R_mono HO192.out (fun _ hk => hk.2)), (by (with_reducible repeat (first | refine blk_drewN ?_ _ | refine blk_drew ?_ | refine blk_alloc ?_ _)); exact BK169.out), (by (with_reducible repeat (first | refine blk_drewN ?_ _ | refine blk_drew ?_ | refine blk_alloc ?_ _)); exact BK176.out), (by repeat (first | (with_reducible first | exact HI0.out | apply IsS60.alloc | apply IsS60.drewN | apply IsS60.drew | apply IsS60.set_1 | apply IsS60.set_2 | refine IsS60.far ?_ NB0_169.out _ | refine IsS60.far ?_ NB0_176.out _) | exact HI0.out)), (by repeat (first | (with_reducible first | exact HK.out | apply KeepBut.set_ | apply keep_drewN | apply keep_drew | apply keep_alloc | refine keep_far ?_ GW169.out _ | refine keep_far ?_ GW176.out _) | exact HK.out)), (by repeat (first | (with_reducible first | exact HB.out | apply below_alloc | apply pw_below_drewN | apply below_drew1 | refine below_set ?_ (IsS60.ge HI0.out) | refine below_set ?_ GE169.out | refine below_set ?_ GE176.out) | exact HB.out))⟩)
                ·skip
                 refine box_step ?hg (N := 6) ?hd (cs := #[.int .u16 0, .int .u16 0, .int .u8 0, .int .u8 0, .int .i64 0]) (t := 24) ?hr ?_; (case hd => rfl); (case hg => rfl); (case hr => first | (go_simp; done) | (go_simp; rfl))
                 intro gb196 hg w33 hbox hb
                 have n0_ := Aside0.mk (Kd.R_below (by (with_reducible repeat (first | apply Kd.R_alloc | apply Kd.R_drewN | apply Kd.R_drew)); exact HO186.out) hb)
                 have n1_ := Aside0.mk (blk_below (g := gb169) (o := .cells #[.int .u16 0, .int .u16 0, .int .u8 0, .int .u8 0, .int .i64 0] 24 (0, 0)) (by (with_reducible repeat (first | refine blk_drewN ?_ _ | refine blk_drew ?_ | refine blk_alloc ?_ _)); exact BK169.out) hb)
                 have n2_ := Aside0.mk (blk_below (g := gb176) (o := .cells #[.int .u16 x177000_15, .int .u8 x177001_15, .bool x177002_15] 34 (0, 0)) (by (with_reducible repeat (first | refine blk_drewN ?_ _ | refine blk_drew ?_ | refine blk_alloc ?_ _)); exact BK176.out) hb)
                 have n3_ := Aside0.mk (IsS60.below (by repeat (first | (with_reducible first | exact HI0.out | apply IsS60.alloc | apply IsS60.drewN | apply IsS60.drew | apply IsS60.set_1 | apply IsS60.set_2 | refine IsS60.far ?_ NB0_169.out _ | refine IsS60.far ?_ NB0_176.out _) | exact HI0.out)) hb)
                 have n4_ := Aside0.mk (KeepBut.trans (by repeat (first | (with_reducible first | exact HK.out | apply KeepBut.set_ | apply keep_drewN | apply keep_drew | apply keep_alloc | refine keep_far ?_ GW169.out _ | refine keep_far ?_ GW176.out _) | exact HK.out)) (KeepBut.of_below hb g none) (.inl rfl))
                 have n5_ := Aside0.mk (below_step (by repeat (first | (with_reducible first | exact HB.out | apply below_alloc | apply pw_below_drewN | apply below_drew1 | refine below_set ?_ (IsS60.ge HI0.out) | refine below_set ?_ GE169.out | refine below_set ?_ GE176.out) | exact HB.out)) hb)
                 have n6_ := Aside0.mk (hbox)
                 have n7_ := Aside0.mk ((by rw [hg]; exact (keep_size (w := w) (g := g) (row := none) (by repeat (first | (with_reducible first | exact HK.out | apply KeepBut.set_ | apply keep_drewN | apply keep_drew | apply keep_alloc | refine keep_far ?_ GW169.out _ | refine keep_far ?_ GW176.out _) | exact HK.out))) : w.heap.size ≤ gb196))
                 have n8_ := Aside0.mk ((Nat.le_trans HW0.out (by rw [hg]; exact (keep_size (w := w) (g := g) (row := none) (by repeat (first | (with_reducible first | exact HK.out | apply KeepBut.set_ | apply keep_drewN | apply keep_drew | apply keep_alloc | refine keep_far ?_ GW169.out _ | refine keep_far ?_ GW176.out _) | exact HK.out))) : w.heap.size ≤ gb196) : w0.heap.size ≤ gb196))
                 have n9_ := Aside0.mk ((by rw [hg]; exact Nat.ne_of_lt (blk_lt (g := gb169) (o := .cells #[.int .u16 0, .int .u16 0, .int .u8 0, .int .u8 0, .int .i64 0] 24 (0, 0)) (by (with_reducible repeat (first | refine blk_drewN ?_ _ | refine blk_drew ?_ | refine blk_alloc ?_ _)); exact BK169.out)) : gb169 ≠ gb196))
                 have n10_ := Aside0.mk ((by rw [hg]; exact Nat.ne_of_gt (blk_lt (g := gb169) (o := .cells #[.int .u16 0, .int .u16 0, .int .u8 0, .int .u8 0, .int .i64 0] 24 (0, 0)) (by (with_reducible repeat (first | refine blk_drewN ?_ _ | refine blk_drew ?_ | refine blk_alloc ?_ _)); exact BK169.out)) : gb196 ≠ gb169))
                 have n11_ := Aside0.mk ((by rw [hg]; exact Nat.ne_of_lt (blk_lt (g := gb176) (o := .cells #[.int .u16 x177000_15, .int .u8 x177001_15, .bool x177002_15] 34 (0, 0)) (by (with_reducible repeat (first | refine blk_drewN ?_ _ | refine blk_drew ?_ | refine blk_alloc ?_ _)); exact BK176.out)) : gb176 ≠ gb196))
                 have n12_ := Aside0.mk ((by rw [hg]; exact Nat.ne_of_gt (blk_lt (g := gb176) (o := .cells #[.int .u16 x177000_15, .int .u8 x177001_15, .bool x177002_15] 34 (0, 0)) (by (with_reducible repeat (first | refine blk_drewN ?_ _ | refine blk_drew ?_ | refine blk_alloc ?_ _)); exact BK176.out)) : gb196 ≠ gb176))
                 have n13_ := Aside0.mk ((by rw [hg]; exact Nat.ne_of_lt (IsS60.lt (show IsS60 w0 _ g s0_0 x1001_15 x1002_15 from by repeat (first | (with_reducible first | exact HI0.out | apply IsS60.alloc | apply IsS60.drewN | apply IsS60.drew | apply IsS60.set_1 | apply IsS60.set_2 | refine IsS60.far ?_ NB0_169.out _ | refine IsS60.far ?_ NB0_176.out _) | exact HI0.out))) : g ≠ gb196))
                 have n14_ := Aside0.mk ((by rw [hg]; exact Nat.ne_of_gt (IsS60.lt (show IsS60 w0 _ g s0_0 x1001_15 x1002_15 from by repeat (first | (with_reducible first | exact HI0.out | apply IsS60.alloc | apply IsS60.drewN | apply IsS60.drew | apply IsS60.set_1 | apply IsS60.set_2 | refine IsS60.far ?_ NB0_169.out _ | refine IsS60.far ?_ NB0_176.out _) | exact HI0.out))) : gb196 ≠ g))
                 clear HO186
                 clear BK169
                 clear BK176
                 clear HI0
                 clear HK
                 clear HB
                 have HO186 := n0_
                 have BK169 := n1_
                 have BK176 := n2_
                 have HI0 := n3_
                 have HK := n4_
                 have HB := n5_
                 have BK196 := n6_
                 have GW196 := n7_
                 have GE196 := n8_
                 have NB169_196 := n9_
                 have NB196_169 := n10_
                 have NB176_196 := n11_
                 have NB196_176 := n12_
                 have NB0_196 := n13_
                 have NB196_0 := n14_
                 clear n0_ n1_ n2_ n3_ n4_ n5_ n6_ n7_ n8_ n9_ n10_ n11_ n12_ n13_ n14_
                 clear hb hbox hg
                 refine hK.out _ _ ⟨(blk_cell BK176.out 0).trans rfl, (blk_cell BK176.out 1).trans rfl, (blk_cell BK176.out 2).trans rfl⟩ (fun hHeld => ?_)
                 clear hK K
                 refine norm_ (a' := ?_) ?_ ?_
                 rotate_left
                 ·show Act.put _ (some 6) _ = _
                  simp only [Act.put, List.setIfInBounds_toArray, List.set_cons_zero, List.set_cons_succ, i64_w, i32_w]
                  rfl
                 exact norm_ (by first | (simp only [putAll, Act.put, List.setIfInBounds_toArray, List.set_cons_zero, List.set_cons_succ]; done) | (simp only [putAll, Act.put, List.setIfInBounds_toArray, List.set_cons_zero, List.set_cons_succ]; rfl)) (hJ5_12 ((.slice Ao33 y184.length co33), gb196) _ ⟨hHeld, (by (with_reducible repeat (first | apply Kd.R_alloc | apply Kd.R_drewN | apply Kd.R_drew)); exact HO186.out), (by (with_reducible repeat (first | refine blk_drewN ?_ _ | refine blk_drew ?_ | refine blk_alloc ?_ _)); exact BK169.out), (by (with_reducible repeat (first | refine blk_drewN ?_ _ | refine blk_drew ?_ | refine blk_alloc ?_ _)); exact BK176.out), (by (with_reducible repeat (first | refine blk_drewN ?_ _ | refine blk_drew ?_ | refine blk_alloc ?_ _)); exact BK196.out), GW196.out, GE196.out, NB0_196.out, NB196_0.out, NB169_196.out, NB196_169.out, NB176_196.out, NB196_176.out, (by repeat (first | (with_reducible first | exact HI0.out | apply IsS60.alloc | apply IsS60.drewN | apply IsS60.drew | apply IsS60.set_1 | apply IsS60.set_2 | refine IsS60.far ?_ NB0_169.out _ | refine IsS60.far ?_ NB0_176.out _ | refine IsS60.far ?_ NB0_196.out _) | exact HI0.out)), (by repeat (first | (with_reducible first | exact HK.out | apply KeepBut.set_ | apply keep_drewN | apply keep_drew | apply keep_alloc | refine keep_far ?_ GW169.out _ | refine keep_far ?_ GW176.out _ | refine keep_far ?_ GW196.out _) | exact HK.out)), (by repeat (first | (with_reducible first | exact HB.out | apply below_alloc | apply pw_below_drewN | apply below_drew1 | refine below_set ?_ (IsS60.ge HI0.out) | refine below_set ?_ GE169.out | refine below_set ?_ GE176.out | refine below_set ?_ GE196.out) | exact HB.out))⟩)
              ·skip
               rintro ⟨v191, gb196⟩ w33 ⟨hS_, h0_, h1_, h2_, h3_, h4_, h5_, h6_, h7_, h8_, h9_, h10_, h11_, h12_, h13_, h14_⟩
               have n0_ : Aside0 (Kd.R (Kd.int .i64) 3 w33 w.heap.size (fun _ => True) v191 y190) := ⟨h0_⟩
               have n1_ : Aside0 (w33.heap[gb169]? = some (.cells #[.int .u16 0, .int .u16 0, .int .u8 0, .int .u8 0, .int .i64 0] 24 (0, 0))) := ⟨h1_⟩
               have n2_ : Aside0 (w33.heap[gb176]? = some (.cells #[.int .u16 x177000_15, .int .u8 x177001_15, .bool x177002_15] 34 (0, 0))) := ⟨h2_⟩
               have n3_ : Aside0 (w33.heap[gb196]? = some (.cells #[.int .u16 0, .int .u16 0, .int .u8 0, .int .u8 0, .int .i64 0] 24 (0, 0))) := ⟨h3_⟩
               have n4_ : Aside0 (w.heap.size ≤ gb196) := ⟨h4_⟩
               have n5_ : Aside0 (w0.heap.size ≤ gb196) := ⟨h5_⟩
               have n6_ : Aside0 (g ≠ gb196) := ⟨h6_⟩
               have n7_ : Aside0 (gb196 ≠ g) := ⟨h7_⟩
               have n8_ : Aside0 (gb169 ≠ gb196) := ⟨h8_⟩
               have n9_ : Aside0 (gb196 ≠ gb169) := ⟨h9_⟩
               have n10_ : Aside0 (gb176 ≠ gb196) := ⟨h10_⟩
               have n11_ : Aside0 (gb196 ≠ gb176) := ⟨h11_⟩
               have n12_ : Aside0 (IsS60 w0 w33 g s0_0 x1001_15 x1002_15) := ⟨h12_⟩
               have n13_ : Aside0 (KeepBut w w33 g none) := ⟨h13_⟩
               have n14_ : Aside0 (Below w0.heap.size w0 w33) := ⟨h14_⟩
               clear BK169
               clear BK176
               clear HI0
               clear HK
               clear HB
               clear h0_ h1_ h2_ h3_ h4_ h5_ h6_ h7_ h8_ h9_ h10_ h11_ h12_ h13_ h14_
               have HO192 := n0_
               have BK169 := n1_
               have BK176 := n2_
               have BK196 := n3_
               have GW196 := n4_
               have GE196 := n5_
               have NB0_196 := n6_
               have NB196_0 := n7_
               have NB169_196 := n8_
               have NB196_169 := n9_
               have NB176_196 := n10_
               have NB196_176 := n11_
               have HI0 := n12_
               have HK := n13_
               have HB := n14_
               clear n0_ n1_ n2_ n3_ n4_ n5_ n6_ n7_ n8_ n9_ n10_ n11_ n12_ n13_ n14_
               have hHeld : w33.cell? ⟨gb176, 0, none⟩ = some (.int .u16 x177000_15) ∧ w33.cell? ⟨gb176, 1, none⟩ = some (.int .u8 x177001_15) ∧ w33.cell? ⟨gb176, 2, none⟩ = some (.bool x177002_15) := hS_
               refine norm_ (a' := ?_) ?_ ?_
               rotate_left
               ·simp only [putAll, Act.put, List.setIfInBounds_toArray, List.set_cons_zero, List.set_cons_succ]
                rfl
               refine one_ (i := 5) (N := some 32) #[true, true, true, true, true, true, false, false, true, true, false, false, true, false] rfl rfl (one_of HT_.out (by kernel_rfl)) (by decide) (fun K hK => ?_)
               refine Kd.R_lit_step (Kd.int .i64) _ 3 ?hg (N := 32) ?hd (xs := ([0, 255, 255, 240, 15] : List Int)) (inner := [.int .i64 0, .int .i64 255, .int .i64 255, .int .i64 240, .int .i64 15]) (ok := fun _ => True) (okp := fun _ => True) ?hr ?hp (fun _ hk => hk) trivial (Below.refl _ _) (Nat.le_refl _) (by simp) ?_; (case hd => rfl); (case hg => rfl); (case hr => first | (go_simp; done) | (go_simp; rfl)); (case hp => exact (Reps.one (show Kd.M (Kd.int .i64) _ _ _ 0 [.int .i64 0] from rfl) (Reps.one (show Kd.M (Kd.int .i64) _ _ _ 255 [.int .i64 255] from rfl) (Reps.one (show Kd.M (Kd.int .i64) _ _ _ 255 [.int .i64 255] from rfl) (Reps.one (show Kd.M (Kd.int .i64) _ _ _ 240 [.int .i64 240] from rfl) (Reps.one (show Kd.M (Kd.int .i64) _ _ _ 15 [.int .i64 15] from rfl) (Reps.none _ _)))))))
               intro v185 w34 ho35 hb hg_ hnew_
               clear hg_ hnew_
               (first | rw [← Ny184.out] at ho35 | (simp only [Int.reduceToNat] at ho35; rw [← Ny184.out] at ho35))
               have n0_ := Aside0.mk (Kd.R_elder' (by (with_reducible repeat (first | apply Kd.R_alloc | apply Kd.R_drewN | apply Kd.R_drew)); exact HO192.out) (Kd.R_base ho35) hb)
               have n1_ := Aside0.mk (Kd.R_lower (Kd.R_new' ho35 (Kd.R_lt (by (with_reducible repeat (first | apply Kd.R_alloc | apply Kd.R_drewN | apply Kd.R_drew)); exact HO192.out))) (keep_size (w := w) (g := g) (row := none) (by repeat (first | (with_reducible first | exact HK.out | apply KeepBut.set_ | apply keep_drewN | apply keep_drew | apply keep_alloc | refine keep_far ?_ GW169.out _ | refine keep_far ?_ GW176.out _ | refine keep_far ?_ GW196.out _) | exact HK.out))))
               have n2_ := Aside0.mk (blk_below (g := gb169) (o := .cells #[.int .u16 0, .int .u16 0, .int .u8 0, .int .u8 0, .int .i64 0] 24 (0, 0)) (by (with_reducible repeat (first | refine blk_drewN ?_ _ | refine blk_drew ?_ | refine blk_alloc ?_ _)); exact BK169.out) hb)
               have n3_ := Aside0.mk (blk_below (g := gb176) (o := .cells #[.int .u16 x177000_15, .int .u8 x177001_15, .bool x177002_15] 34 (0, 0)) (by (with_reducible repeat (first | refine blk_drewN ?_ _ | refine blk_drew ?_ | refine blk_alloc ?_ _)); exact BK176.out) hb)
               have n4_ := Aside0.mk (IsS60.below (by repeat (first | (with_reducible first | exact HI0.out | apply IsS60.alloc | apply IsS60.drewN | apply IsS60.drew | apply IsS60.set_1 | apply IsS60.set_2 | refine IsS60.far ?_ NB0_169.out _ | refine IsS60.far ?_ NB0_176.out _ | refine IsS60.far ?_ NB0_196.out _) | exact HI0.out)) hb)
               have n5_ := Aside0.mk (blk_below (g := gb196) (o := .cells #[.int .u16 0, .int .u16 0, .int .u8 0, .int .u8 0, .int .i64 0] 24 (0, 0)) (by (with_reducible repeat (first | refine blk_drewN ?_ _ | refine blk_drew ?_ | refine blk_alloc ?_ _)); exact BK196.out) hb)
               have n6_ := Aside0.mk (KeepBut.trans (by repeat (first | (with_reducible first | exact HK.out | apply KeepBut.set_ | apply keep_drewN | apply keep_drew | apply keep_alloc | refine keep_far ?_ GW169.out _ | refine keep_far ?_ GW176.out _ | refine keep_far ?_ GW196.out _) | exact HK.out)) (KeepBut.of_below hb g none) (.inl rfl))
               have n7_ := Aside0.mk (below_step (by repeat (first | (with_reducible first | exact HB.out | apply below_alloc | apply pw_below_drewN | apply below_drew1 | refine below_set ?_ (IsS60.ge HI0.out) | refine below_set ?_ GE169.out | refine below_set ?_ GE176.out | refine below_set ?_ GE196.out) | exact HB.out)) hb)
               clear HO192
               clear BK169
               clear BK176
               clear HI0
               clear BK196
               clear HK
               clear HB
               have HO192 := n0_
               have HO186 := n1_
               have BK169 := n2_
               have BK176 := n3_
               have HI0 := n4_
               have BK196 := n5_
               have HK := n6_
               have HB := n7_
               clear n0_ n1_ n2_ n3_ n4_ n5_ n6_ n7_
               clear hb ho35
               refine hK.out _ _ ⟨(blk_cell BK176.out 0).trans rfl, (blk_cell BK176.out 1).trans rfl, (blk_cell BK176.out 2).trans rfl⟩ (fun hHeld => ?_)
               clear hK K
               refine norm_ (a' := ?_) ?_ ?_
               rotate_left
               ·show Act.put _ (some 32) _ = _
                simp only [Act.put, List.setIfInBounds_toArray, List.set_cons_zero, List.set_cons_succ, i64_w, i32_w]
                rfl
               exact norm_ (by first | (simp only [putAll, Act.put, List.setIfInBounds_toArray, List.set_cons_zero, List.set_cons_succ]; done) | (simp only [putAll, Act.put, List.setIfInBounds_toArray, List.set_cons_zero, List.set_cons_succ]; rfl)) (hJ5_9_12 (v185, v191, gb196) _ ⟨hHeld, (by (with_reducible repeat (first | apply Kd.R_alloc | apply Kd.R_drewN | apply Kd.R_drew)); exact Kd.R_mono HO186.out (fun _ hk => hk.2)), (by (with_reducible repeat (first | apply Kd.R_alloc | apply Kd.R_drewN | apply Kd.R_drew)); exact Kd.R_mono HO192.out (fun _ hk => hk.2)), (by (with_reducible repeat (first | refine blk_drewN ?_ _ | refine blk_drew ?_ | refine blk_alloc ?_ _)); exact BK169.out), (by (with_reducible repeat (first | refine blk_drewN ?_ _ | refine blk_drew ?_ | refine blk_alloc ?_ _)); exact BK176.out), (by (with_reducible repeat (first | refine blk_drewN ?_ _ | refine blk_drew ?_ | refine blk_alloc ?_ _)); exact BK196.out), GW196.out, GE196.out, NB0_196.out, NB196_0.out, NB169_196.out, NB196_169.out, NB176_196.out, NB196_176.out, (by repeat (first | (with_reducible first | exact HI0.out | apply IsS60.alloc | apply IsS60.drewN | apply IsS60.drew | apply IsS60.set_1 | apply IsS60.set_2 | refine IsS60.far ?_ NB0_169.out _ | refine IsS60.far ?_ NB0_176.out _ | refine IsS60.far ?_ NB0_196.out _) | exact HI0.out)), (by repeat (first | (with_reducible first | exact HK.out | apply KeepBut.set_ | apply keep_drewN | apply keep_drew | apply keep_alloc | refine keep_far ?_ GW169.out _ | refine keep_far ?_ GW176.out _ | refine keep_far ?_ GW196.out _) | exact HK.out)), (by repeat (first | (with_reducible first | exact HB.out | apply below_alloc | apply pw_below_drewN | apply below_drew1 | refine below_set ?_ (IsS60.ge HI0.out) | refine below_set ?_ GE169.out | refine below_set ?_ GE176.out | refine below_set ?_ GE196.out) | exact HB.out))⟩)
             ·skip
              rintro ⟨v185, gb196⟩ w33 ⟨hS_, h0_, h1_, h2_, h3_, h4_, h5_, h6_, h7_, h8_, h9_, h10_, h11_, h12_, h13_, h14_⟩
              have n0_ : Aside0 (Kd.R (Kd.int .i64) 3 w33 w.heap.size (fun _ => True) v185 y184) := ⟨h0_⟩
              have n1_ : Aside0 (w33.heap[gb169]? = some (.cells #[.int .u16 0, .int .u16 0, .int .u8 0, .int .u8 0, .int .i64 0] 24 (0, 0))) := ⟨h1_⟩
              have n2_ : Aside0 (w33.heap[gb176]? = some (.cells #[.int .u16 x177000_15, .int .u8 x177001_15, .bool x177002_15] 34 (0, 0))) := ⟨h2_⟩
              have n3_ : Aside0 (w33.heap[gb196]? = some (.cells #[.int .u16 0, .int .u16 0, .int .u8 0, .int .u8 0, .int .i64 0] 24 (0, 0))) := ⟨h3_⟩
              have n4_ : Aside0 (w.heap.size ≤ gb196) := ⟨h4_⟩
              have n5_ : Aside0 (w0.heap.size ≤ gb196) := ⟨h5_⟩
              have n6_ : Aside0 (g ≠ gb196) := ⟨h6_⟩
              have n7_ : Aside0 (gb196 ≠ g) := ⟨h7_⟩
              have n8_ : Aside0 (gb169 ≠ gb196) := ⟨h8_⟩
              have n9_ : Aside0 (gb196 ≠ gb169) := ⟨h9_⟩
              have n10_ : Aside0 (gb176 ≠ gb196) := ⟨h10_⟩
              have n11_ : Aside0 (gb196 ≠ gb176) := ⟨h11_⟩
              have n12_ : Aside0 (IsS60 w0 w33 g s0_0 x1001_15 x1002_15) := ⟨h12_⟩
              have n13_ : Aside0 (KeepBut w w33 g none) := ⟨h13_⟩
              have n14_ : Aside0 (Below w0.heap.size w0 w33) := ⟨h14_⟩
              clear BK169
              clear BK176
              clear HI0
              clear HK
              clear HB
              clear h0_ h1_ h2_ h3_ h4_ h5_ h6_ h7_ h8_ h9_ h10_ h11_ h12_ h13_ h14_
              have HO186 := n0_
              have BK169 := n1_
              have BK176 := n2_
              have BK196 := n3_
              have GW196 := n4_
              have GE196 := n5_
              have NB0_196 := n6_
              have NB196_0 := n7_
              have NB169_196 := n8_
              have NB196_169 := n9_
              have NB176_196 := n10_
              have NB196_176 := n11_
              have HI0 := n12_
              have HK := n13_
              have HB := n14_
              clear n0_ n1_ n2_ n3_ n4_ n5_ n6_ n7_ n8_ n9_ n10_ n11_ n12_ n13_ n14_
              have hHeld : w33.cell? ⟨gb176, 0, none⟩ = some (.int .u16 x177000_15) ∧ w33.cell? ⟨gb176, 1, none⟩ = some (.int .u8 x177001_15) ∧ w33.cell? ⟨gb176, 2, none⟩ = some (.bool x177002_15) := hS_
              obtain ⟨Ao34, co34, eo34⟩ := Kd.R_slice HO186.out
              (first | subst eo34 | (injection eo34 with f1_ f2_ f3_; have f4_ := f1_.symm; have f5_ := f3_.symm; clear f1_ f2_ f3_; subst f4_; subst f5_))
              refine norm_ (a' := ?_) ?_ ?_
              rotate_left
              ·simp only [putAll, Act.put, List.setIfInBounds_toArray, List.set_cons_zero, List.set_cons_succ]
               rfl
              refine two_ (i := 6) (j := 9) (Ni := some 33) (Nj := some 36) #[true, true, true, true, true, true, true, false, true, false, false, false, true, false] #[true, true, true, true, true, true, false, false, true, true, false, false, true, false] rfl rfl rfl rfl (two_of HT_.out (by kernel_rfl)) (by decide) (by decide) (fun K hK => ?_) (fun K hK => ?_)
              ·skip
               refine goes_ Try.func35 (by kernel_rfl) rfl #[.pointer (some ⟨g, 0, none⟩), .slice Ao34 y184.length co34] (by rfl) rfl rfl (by (try simp only [List.map_toArray, List.map_cons, List.map_nil]); first | done | rfl | (simp only [List.length_drop, List.length_take]; rfl)) ?_
               with_reducible refine (spec_l01PickInt.calls g s0_0 x1001_15 x1002_15 _ _ y184 t187 t188 t189 w0 _ ?side1 ?side2 ?side3 ?side4 ?side5 A25.out).mono ?_
               (case side1 => repeat (first | (with_reducible first | exact HI0.out | apply IsS60.alloc | apply IsS60.drewN | apply IsS60.drew | apply IsS60.set_1 | apply IsS60.set_2 | refine IsS60.far ?_ NB0_169.out _ | refine IsS60.far ?_ NB0_176.out _ | refine IsS60.far ?_ NB0_196.out _) | exact HI0.out))
               (case side2 => repeat (first | (with_reducible first | exact HB.out | apply below_alloc | apply pw_below_drewN | apply below_drew1 | refine below_set ?_ (IsS60.ge HI0.out) | refine below_set ?_ GE169.out | refine below_set ?_ GE176.out | refine below_set ?_ GE196.out) | exact HB.out))
               (case side3 => repeat (first | exact (Kd.R_reads' HO186.out).2.2 | (with_reducible refine Kd.C_alloc ?_ _) | (with_reducible refine Kd.C_drewN ?_ _) | (with_reducible refine Kd.C_drew ?_)))
               (case side4 => exact (Kd.R_reads' HO186.out).2.1)
               (case side5 => exact far_slice (IsS60.own_ne HI0.out HO186.out (by decide)))
               rintro e w35 ⟨rfl, hi, hb, hk⟩
               refine ⟨_, rfl, ?_⟩
               have n0_ := Aside0.mk (KeepBut.blk hk (g' := gb169) (o := .cells #[.int .u16 0, .int .u16 0, .int .u8 0, .int .u8 0, .int .i64 0] 24 (0, 0)) (by (with_reducible repeat (first | refine blk_drewN ?_ _ | refine blk_drew ?_ | refine blk_alloc ?_ _)); exact BK169.out) NB169_0.out (by simp))
               have n1_ := Aside0.mk (KeepBut.blk hk (g' := gb176) (o := .cells #[.int .u16 x177000_15, .int .u8 x177001_15, .bool x177002_15] 34 (0, 0)) (by (with_reducible repeat (first | refine blk_drewN ?_ _ | refine blk_drew ?_ | refine blk_alloc ?_ _)); exact BK176.out) NB176_0.out (by simp))
               have n2_ := Aside0.mk (Kd.R_mono (Kd.R_keep (IsS60.apart (show IsS60 w0 _ g s0_0 x1001_15 x1002_15 from by repeat (first | (with_reducible first | exact HI0.out | apply IsS60.alloc | apply IsS60.drewN | apply IsS60.drew | apply IsS60.set_1 | apply IsS60.set_2 | refine IsS60.far ?_ NB0_169.out _ | refine IsS60.far ?_ NB0_176.out _ | refine IsS60.far ?_ NB0_196.out _) | exact HI0.out)) (by (with_reducible repeat (first | apply Kd.R_alloc | apply Kd.R_drewN | apply Kd.R_drew)); exact HO186.out) (by decide)) hk (fun _ h => h.2)) (fun _ h => h.1))
               have n3_ := Aside0.mk (KeepBut.blk hk (g' := gb196) (o := .cells #[.int .u16 0, .int .u16 0, .int .u8 0, .int .u8 0, .int .i64 0] 24 (0, 0)) (by (with_reducible repeat (first | refine blk_drewN ?_ _ | refine blk_drew ?_ | refine blk_alloc ?_ _)); exact BK196.out) NB196_0.out (by simp))
               have n4_ := Aside0.mk (KeepBut.trans (by repeat (first | (with_reducible first | exact HK.out | apply KeepBut.set_ | apply keep_drewN | apply keep_drew | apply keep_alloc | refine keep_far ?_ GW169.out _ | refine keep_far ?_ GW176.out _ | refine keep_far ?_ GW196.out _) | exact HK.out)) hk (.inl rfl))
               have n5_ := Aside0.mk (hb)
               have n6_ := Aside0.mk (hi)
               clear BK169
               clear BK176
               clear HO186
               clear BK196
               clear HK
               clear HB
               clear HI0
               have BK169 := n0_
               have BK176 := n1_
               have HO186 := n2_
               have BK196 := n3_
               have HK := n4_
               have HB := n5_
               have HI0 := n6_
               clear n0_ n1_ n2_ n3_ n4_ n5_ n6_
               (try clear hb)
               (try clear hb2)
               (try clear hk)
               (try clear hi)
               refine hK.out _ _ ⟨(blk_cell BK176.out 0).trans rfl, (blk_cell BK176.out 1).trans rfl, (blk_cell BK176.out 2).trans rfl⟩ (fun hHeld => ?_)
               clear hK K
               refine norm_ (a' := ?_) ?_ ?_
               rotate_left
               ·show Act.put _ (some 33) _ = _
                simp only [Act.put, List.setIfInBounds_toArray, List.set_cons_zero, List.set_cons_succ, i64_w, i32_w]
                rfl
               refine pure_ (i := 7) (N := some 34) (v := ?_) (a' := ?_) #[true, true, true, true, true, true, true, true, true, false, false, false, true, false] rfl rfl (any_of HT_.out (by kernel_rfl)) (fun _ _ _ h => h) (Or.inl ⟨by rfl, ?_⟩) ?_ ?_
               rotate_left
               ·intro w'
                go_simp
                with_reducible rfl
               rotate_left
               ·simp only [Act.put, List.setIfInBounds_toArray, List.set_cons_zero, List.set_cons_succ, i64_w, i32_w]
                rfl
               exact norm_ (by first | (simp only [putAll, Act.put, List.setIfInBounds_toArray, List.set_cons_zero, List.set_cons_succ]; done) | (simp only [putAll, Act.put, List.setIfInBounds_toArray, List.set_cons_zero, List.set_cons_succ]; rfl)) (hJ5_6_12 (.slice Ao34 y184.length co34, gb196) _ ⟨hHeld, (by (with_reducible repeat (first | apply Kd.R_alloc | apply Kd.R_drewN | apply Kd.R_drew)); exact HO186.out), (by (with_reducible repeat (first | refine blk_drewN ?_ _ | refine blk_drew ?_ | refine blk_alloc ?_ _)); exact BK169.out), (by (with_reducible repeat (first | refine blk_drewN ?_ _ | refine blk_drew ?_ | refine blk_alloc ?_ _)); exact BK176.out), (by (with_reducible repeat (first | refine blk_drewN ?_ _ | refine blk_drew ?_ | refine blk_alloc ?_ _)); exact BK196.out), GW196.out, GE196.out, NB0_196.out, NB196_0.out, NB169_196.out, NB196_169.out, NB176_196.out, NB196_176.out, (by repeat (first | (with_reducible first | exact HI0.out | apply IsS60.alloc | apply IsS60.drewN | apply IsS60.drew | apply IsS60.set_1 | apply IsS60.set_2 | refine IsS60.far ?_ NB0_169.out _ | refine IsS60.far ?_ NB0_176.out _ | refine IsS60.far ?_ NB0_196.out _) | exact HI0.out)), (by repeat (first | (with_reducible first | exact HK.out | apply KeepBut.set_ | apply keep_drewN | apply keep_drew | apply keep_alloc | refine keep_far ?_ GW169.out _ | refine keep_far ?_ GW176.out _ | refine keep_far ?_ GW196.out _) | exact HK.out)), (by repeat (first | (with_reducible first | exact HB.out | apply below_alloc | apply pw_below_drewN | apply below_drew1 | refine below_set ?_ (IsS60.ge HI0.out) | refine below_set ?_ GE169.out | refine below_set ?_ GE176.out | refine below_set ?_ GE196.out) | exact HB.out))⟩)
              ·skip
               refine Kd.R_lit_step (Kd.int .i64) _ 3 ?hg (N := 36) ?hd (xs := ([0, 1, 2, 2] : List Int)) (inner := [.int .i64 0, .int .i64 1, .int .i64 2, .int .i64 2]) (ok := fun _ => True) (okp := fun _ => True) ?hr ?hp (fun _ hk => hk) trivial (Below.refl _ _) (Nat.le_refl _) (by simp) ?_; (case hd => rfl); (case hg => rfl); (case hr => first | (go_simp; done) | (go_simp; rfl)); (case hp => exact (Reps.one (show Kd.M (Kd.int .i64) _ _ _ 0 [.int .i64 0] from rfl) (Reps.one (show Kd.M (Kd.int .i64) _ _ _ 1 [.int .i64 1] from rfl) (Reps.one (show Kd.M (Kd.int .i64) _ _ _ 2 [.int .i64 2] from rfl) (Reps.one (show Kd.M (Kd.int .i64) _ _ _ 2 [.int .i64 2] from rfl) (Reps.none _ _))))))
               intro v191 w34 ho35 hb hg_ hnew_
               clear hg_ hnew_
               (first | rw [← Ny190.out] at ho35 | (simp only [Int.reduceToNat] at ho35; rw [← Ny190.out] at ho35))
               have n0_ := Aside0.mk (Kd.R_elder' (by (with_reducible repeat (first | apply Kd.R_alloc | apply Kd.R_drewN | apply Kd.R_drew)); exact HO186.out) (Kd.R_base ho35) hb)
               have n1_ := Aside0.mk (Kd.R_lower (Kd.R_new' ho35 (Kd.R_lt (by (with_reducible repeat (first | apply Kd.R_alloc | apply Kd.R_drewN | apply Kd.R_drew)); exact HO186.out))) (keep_size (w := w) (g := g) (row := none) (by repeat (first | (with_reducible first | exact HK.out | apply KeepBut.set_ | apply keep_drewN | apply keep_drew | apply keep_alloc | refine keep_far ?_ GW169.out _ | refine keep_far ?_ GW176.out _ | refine keep_far ?_ GW196.out _) | exact HK.out))))
               have n2_ := Aside0.mk (blk_below (g := gb169) (o := .cells #[.int .u16 0, .int .u16 0, .int .u8 0, .int .u8 0, .int .i64 0] 24 (0, 0)) (by (with_reducible repeat (first | refine blk_drewN ?_ _ | refine blk_drew ?_ | refine blk_alloc ?_ _)); exact BK169.out) hb)
               have n3_ := Aside0.mk (blk_below (g := gb176) (o := .cells #[.int .u16 x177000_15, .int .u8 x177001_15, .bool x177002_15] 34 (0, 0)) (by (with_reducible repeat (first | refine blk_drewN ?_ _ | refine blk_drew ?_ | refine blk_alloc ?_ _)); exact BK176.out) hb)
               have n4_ := Aside0.mk (IsS60.below (by repeat (first | (with_reducible first | exact HI0.out | apply IsS60.alloc | apply IsS60.drewN | apply IsS60.drew | apply IsS60.set_1 | apply IsS60.set_2 | refine IsS60.far ?_ NB0_169.out _ | refine IsS60.far ?_ NB0_176.out _ | refine IsS60.far ?_ NB0_196.out _) | exact HI0.out)) hb)
               have n5_ := Aside0.mk (blk_below (g := gb196) (o := .cells #[.int .u16 0, .int .u16 0, .int .u8 0, .int .u8 0, .int .i64 0] 24 (0, 0)) (by (with_reducible repeat (first | refine blk_drewN ?_ _ | refine blk_drew ?_ | refine blk_alloc ?_ _)); exact BK196.out) hb)
               have n6_ := Aside0.mk (KeepBut.trans (by repeat (first | (with_reducible first | exact HK.out | apply KeepBut.set_ | apply keep_drewN | apply keep_drew | apply keep_alloc | refine keep_far ?_ GW169.out _ | refine keep_far ?_ GW176.out _ | refine keep_far ?_ GW196.out _) | exact HK.out)) (KeepBut.of_below hb g none) (.inl rfl))
               have n7_ := Aside0.mk (below_step (by repeat (first | (with_reducible first | exact HB.out | apply below_alloc | apply pw_below_drewN | apply below_drew1 | refine below_set ?_ (IsS60.ge HI0.out) | refine below_set ?_ GE169.out | refine below_set ?_ GE176.out | refine below_set ?_ GE196.out) | exact HB.out)) hb)
               clear HO186
               clear BK169
               clear BK176
               clear HI0
               clear BK196
               clear HK
               clear HB
               have HO186 := n0_
               have HO192 := n1_
               have BK169 := n2_
               have BK176 := n3_
               have HI0 := n4_
               have BK196 := n5_
               have HK := n6_
               have HB := n7_
               clear n0_ n1_ n2_ n3_ n4_ n5_ n6_ n7_
               clear hb ho35
               refine hK.out _ _ ⟨(blk_cell BK176.out 0).trans rfl, (blk_cell BK176.out 1).trans rfl, (blk_cell BK176.out 2).trans rfl⟩ (fun hHeld => ?_)
               clear hK K
               refine norm_ (a' := ?_) ?_ ?_
               rotate_left
               ·show Act.put _ (some 36) _ = _
                simp only [Act.put, List.setIfInBounds_toArray, List.set_cons_zero, List.set_cons_succ, i64_w, i32_w]
                rfl
               exact norm_ (by first | (simp only [putAll, Act.put, List.setIfInBounds_toArray, List.set_cons_zero, List.set_cons_succ]; done) | (simp only [putAll, Act.put, List.setIfInBounds_toArray, List.set_cons_zero, List.set_cons_succ]; rfl)) (hJ5_9_12 ((.slice Ao34 y184.length co34), v191, gb196) _ ⟨hHeld, (by (with_reducible repeat (first | apply Kd.R_alloc | apply Kd.R_drewN | apply Kd.R_drew)); exact Kd.R_mono HO186.out (fun _ hk => hk.2)), (by (with_reducible repeat (first | apply Kd.R_alloc | apply Kd.R_drewN | apply Kd.R_drew)); exact Kd.R_mono HO192.out (fun _ hk => hk.2)), (by (with_reducible repeat (first | refine blk_drewN ?_ _ | refine blk_drew ?_ | refine blk_alloc ?_ _)); exact BK169.out), (by (with_reducible repeat (first | refine blk_drewN ?_ _ | refine blk_drew ?_ | refine blk_alloc ?_ _)); exact BK176.out), (by (with_reducible repeat (first | refine blk_drewN ?_ _ | refine blk_drew ?_ | refine blk_alloc ?_ _)); exact BK196.out), GW196.out, GE196.out, NB0_196.out, NB196_0.out, NB169_196.out, NB196_169.out, NB176_196.out, NB196_176.out, (by repeat (first | (with_reducible first | exact HI0.out | apply IsS60.alloc | apply IsS60.drewN | apply IsS60.drew | apply IsS60.set_1 | apply IsS60.set_2 | refine IsS60.far ?_ NB0_169.out _ | refine IsS60.far ?_ NB0_176.out _ | refine IsS60.far ?_ NB0_196.out _) | exact HI0.out)), (by repeat (first | (with_reducible first | exact HK.out | apply KeepBut.set_ | apply keep_drewN | apply keep_drew | apply keep_alloc | refine keep_far ?_ GW169.out _ | refine keep_far ?_ GW176.out _ | refine keep_far ?_ GW196.out _) | exact HK.out)), (by repeat (first | (with_reducible first | exact HB.out | apply below_alloc | apply pw_below_drewN | apply below_drew1 | refine below_set ?_ (IsS60.ge HI0.out) | refine below_set ?_ GE169.out | refine below_set ?_ GE176.out | refine below_set ?_ GE196.out) | exact HB.out))⟩)
            ·skip
             rintro ⟨v185, v191⟩ w34 ⟨hS_, h0_, h1_, h2_, h3_, h4_, h5_, h6_⟩
             have n0_ : Aside0 (Kd.R (Kd.int .i64) 3 w34 w.heap.size (fun k_ => some k_ ≠ (v191 : Value).ownBlock) v185 y184) := ⟨h0_⟩
             have n1_ : Aside0 (Kd.R (Kd.int .i64) 3 w34 w.heap.size (fun k_ => some k_ ≠ (v185 : Value).ownBlock) v191 y190) := ⟨h1_⟩
             have n2_ : Aside0 (w34.heap[gb169]? = some (.cells #[.int .u16 0, .int .u16 0, .int .u8 0, .int .u8 0, .int .i64 0] 24 (0, 0))) := ⟨h2_⟩
             have n3_ : Aside0 (w34.heap[gb176]? = some (.cells #[.int .u16 x177000_15, .int .u8 x177001_15, .bool x177002_15] 34 (0, 0))) := ⟨h3_⟩
             have n4_ : Aside0 (IsS60 w0 w34 g s0_0 x1001_15 x1002_15) := ⟨h4_⟩
             have n5_ : Aside0 (KeepBut w w34 g none) := ⟨h5_⟩
             have n6_ : Aside0 (Below w0.heap.size w0 w34) := ⟨h6_⟩
             clear BK169
             clear BK176
             clear HI0
             clear HK
             clear HB
             clear h0_ h1_ h2_ h3_ h4_ h5_ h6_
             have HO186 := n0_
             have HO192 := n1_
             have BK169 := n2_
             have BK176 := n3_
             have HI0 := n4_
             have HK := n5_
             have HB := n6_
             clear n0_ n1_ n2_ n3_ n4_ n5_ n6_
             have hHeld : w34.cell? ⟨gb176, 0, none⟩ = some (.int .u16 x177000_15) ∧ w34.cell? ⟨gb176, 1, none⟩ = some (.int .u8 x177001_15) ∧ w34.cell? ⟨gb176, 2, none⟩ = some (.bool x177002_15) := hS_
             obtain ⟨Ao35, co35, eo35⟩ := Kd.R_slice HO186.out
             (first | subst eo35 | (injection eo35 with f1_ f2_ f3_; have f4_ := f1_.symm; have f5_ := f3_.symm; clear f1_ f2_ f3_; subst f4_; subst f5_))
             refine norm_ (a' := ?_) ?_ ?_
             rotate_left
             ·simp only [putAll, Act.put, List.setIfInBounds_toArray, List.set_cons_zero, List.set_cons_succ]
              rfl
             refine two_ (i := 6) (j := 12) (Ni := some 33) (Nj := some 6) #[true, true, true, true, true, true, true, false, true, true, false, false, false, false] #[true, true, true, true, true, true, false, false, true, true, false, false, true, false] rfl rfl rfl rfl (two_of HT_.out (by kernel_rfl)) (by decide) (by decide) (fun K hK => ?_) (fun K hK => ?_)
             ·skip
              refine goes_ Try.func35 (by kernel_rfl) rfl #[.pointer (some ⟨g, 0, none⟩), .slice Ao35 y184.length co35] (by rfl) rfl rfl (by (try simp only [List.map_toArray, List.map_cons, List.map_nil]); first | done | rfl | (simp only [List.length_drop, List.length_take]; rfl)) ?_
              with_reducible refine (spec_l01PickInt.calls g s0_0 x1001_15 x1002_15 _ _ y184 t187 t188 t189 w0 _ ?side1 ?side2 ?side3 ?side4 ?side5 A25.out).mono ?_
              (case side1 => repeat (first | (with_reducible first | exact HI0.out | apply IsS60.alloc | apply IsS60.drewN | apply IsS60.drew | apply IsS60.set_1 | apply IsS60.set_2 | refine IsS60.far ?_ NB0_169.out _ | refine IsS60.far ?_ NB0_176.out _) | exact HI0.out))
              (case side2 => repeat (first | (with_reducible first | exact HB.out | apply below_alloc | apply pw_below_drewN | apply below_drew1 | refine below_set ?_ (IsS60.ge HI0.out) | refine below_set ?_ GE169.out | refine below_set ?_ GE176.out) | exact HB.out))
              (case side3 => repeat (first | exact (Kd.R_reads' HO186.out).2.2 | (with_reducible refine Kd.C_alloc ?_ _) | (with_reducible refine Kd.C_drewN ?_ _) | (with_reducible refine Kd.C_drew ?_)))
              (case side4 => exact (Kd.R_reads' HO186.out).2.1)
              (case side5 => exact far_slice (IsS60.own_ne HI0.out HO186.out (by decide)))
              rintro e w36 ⟨rfl, hi, hb, hk⟩
              refine ⟨_, rfl, ?_⟩
              have n0_ := Aside0.mk (KeepBut.blk hk (g' := gb169) (o := .cells #[.int .u16 0, .int .u16 0, .int .u8 0, .int .u8 0, .int .i64 0] 24 (0, 0)) (by (with_reducible repeat (first | refine blk_drewN ?_ _ | refine blk_drew ?_ | refine blk_alloc ?_ _)); exact BK169.out) NB169_0.out (by simp))
              have n1_ := Aside0.mk (KeepBut.blk hk (g' := gb176) (o := .cells #[.int .u16 x177000_15, .int .u8 x177001_15, .bool x177002_15] 34 (0, 0)) (by (with_reducible repeat (first | refine blk_drewN ?_ _ | refine blk_drew ?_ | refine blk_alloc ?_ _)); exact BK176.out) NB176_0.out (by simp))
              have n2_ := Aside0.mk (Kd.R_mono (Kd.R_keep (IsS60.apart (show IsS60 w0 _ g s0_0 x1001_15 x1002_15 from by repeat (first | (with_reducible first | exact HI0.out | apply IsS60.alloc | apply IsS60.drewN | apply IsS60.drew | apply IsS60.set_1 | apply IsS60.set_2 | refine IsS60.far ?_ NB0_169.out _ | refine IsS60.far ?_ NB0_176.out _) | exact HI0.out)) (by (with_reducible repeat (first | apply Kd.R_alloc | apply Kd.R_drewN | apply Kd.R_drew)); exact HO186.out) (by decide)) hk (fun _ h => h.2)) (fun _ h => h.1))
              have n3_ := Aside0.mk (Kd.R_mono (Kd.R_keep (IsS60.apart (show IsS60 w0 _ g s0_0 x1001_15 x1002_15 from by repeat (first | (with_reducible first | exact HI0.out | apply IsS60.alloc | apply IsS60.drewN | apply IsS60.drew | apply IsS60.set_1 | apply IsS60.set_2 | refine IsS60.far ?_ NB0_169.out _ | refine IsS60.far ?_ NB0_176.out _) | exact HI0.out)) (by (with_reducible repeat (first | apply Kd.R_alloc | apply Kd.R_drewN | apply Kd.R_drew)); exact HO192.out) (by decide)) hk (fun _ h => h.2)) (fun _ h => h.1))
              have n4_ := Aside0.mk (KeepBut.trans (by repeat (first | (with_reducible first | exact HK.out | apply KeepBut.set_ | apply keep_drewN | apply keep_drew | apply keep_alloc | refine keep_far ?_ GW169.out _ | refine keep_far ?_ GW176.out _) | exact HK.out)) hk (.inl rfl))
              have n5_ := Aside0.mk (hb)
              have n6_ := Aside0.mk (hi)
              clear BK169
              clear BK176
              clear HO186
              clear HO192
              clear HK
              clear HB
              clear HI0
              have BK169 := n0_
              have BK176 := n1_
              have HO186 := n2_
              have HO192 := n3_
              have HK := n4_
              have HB := n5_
              have HI0 := n6_
              clear n0_ n1_ n2_ n3_ n4_ n5_ n6_
              (try clear hb)
              (try clear hb2)
              (try clear hk)
              (try clear hi)
              refine hK.out _ _ ⟨(blk_cell BK176.out 0).trans rfl, (blk_cell BK176.out 1).trans rfl, (blk_cell BK176.out 2).trans rfl⟩ (fun hHeld => ?_)
              clear hK K
              refine norm_ (a' := ?_) ?_ ?_
              rotate_left
              ·show Act.put _ (some 33) _ = _
               simp only [Act.put, List.setIfInBounds_toArray, List.set_cons_zero, List.set_cons_succ, i64_w, i32_w]
               rfl
              refine pure_ (i := 7) (N := some 34) (v := ?_) (a' := ?_) #[true, true, true, true, true, true, true, true, true, true, false, false, false, false] rfl rfl (any_of HT_.out (by kernel_rfl)) (fun _ _ _ h => h) (Or.inl ⟨by rfl, ?_⟩) ?_ ?_
              rotate_left
              ·intro w'
               go_simp
               with_reducible rfl
              rotate_left
              ·simp only [Act.put, List.setIfInBounds_toArray, List.set_cons_zero, List.set_cons_succ, i64_w, i32_w]
               rfl
              exact norm_ (by first | (simp only [putAll, Act.put, List.setIfInBounds_toArray, List.set_cons_zero, List.set_cons_succ]; done) | (simp only [putAll, Act.put, List.setIfInBounds_toArray, List.set_cons_zero, List.set_cons_succ]; rfl)) (hJ5_6_9 (.slice Ao35 y184.length co35, v191) _ ⟨hHeld, (by (with_reducible repeat (first | apply Kd.R_alloc | apply Kd.R_drewN | apply Kd.R_drew)); exact HO186.out), (by (with_reducible repeat (first | apply Kd.R_alloc | apply Kd.R_drewN | apply Kd.R_drew)); exact HO192.out), (by (with_reducible repeat (first | refine blk_drewN ?_ _ | refine blk_drew ?_ | refine blk_alloc ?_ _)); exact BK169.out), (by (with_reducible repeat (first | refine blk_drewN ?_ _ | refine blk_drew ?_ | refine blk_alloc ?_ _)); exact BK176.out), (by repeat (first | (with_reducible first | exact HI0.out | apply IsS60.alloc | apply IsS60.drewN | apply IsS60.drew | apply IsS60.set_1 | apply IsS60.set_2 | refine IsS60.far ?_ NB0_169.out _ | refine IsS60.far ?_ NB0_176.out _) | exact HI0.out)), (by repeat (first | (with_reducible first | exact HK.out | apply KeepBut.set_ | apply keep_drewN | apply keep_drew | apply keep_alloc | refine keep_far ?_ GW169.out _ | refine keep_far ?_ GW176.out _) | exact HK.out)), (by repeat (first | (with_reducible first | exact HB.out | apply below_alloc | apply pw_below_drewN | apply below_drew1 | refine below_set ?_ (IsS60.ge HI0.out) | refine below_set ?_ GE169.out | refine below_set ?_ GE176.out) | exact HB.out))⟩)
             ·skip
              refine box_step ?hg (N := 6) ?hd (cs := #[.int .u16 0, .int .u16 0, .int .u8 0, .int .u8 0, .int .i64 0]) (t := 24) ?hr ?_; (case hd => rfl); (case hg => rfl); (case hr => first | (go_simp; done) | (go_simp; rfl))
              intro gb196 hg w35 hbox hb
              have n0_ := Aside0.mk (Kd.R_below (by (with_reducible repeat (first | apply Kd.R_alloc | apply Kd.R_drewN | apply Kd.R_drew)); exact HO186.out) hb)
              have n1_ := Aside0.mk (Kd.R_below (by (with_reducible repeat (first | apply Kd.R_alloc | apply Kd.R_drewN | apply Kd.R_drew)); exact HO192.out) hb)
              have n2_ := Aside0.mk (blk_below (g := gb169) (o := .cells #[.int .u16 0, .int .u16 0, .int .u8 0, .int .u8 0, .int .i64 0] 24 (0, 0)) (by (with_reducible repeat (first | refine blk_drewN ?_ _ | refine blk_drew ?_ | refine blk_alloc ?_ _)); exact BK169.out) hb)
              have n3_ := Aside0.mk (blk_below (g := gb176) (o := .cells #[.int .u16 x177000_15, .int .u8 x177001_15, .bool x177002_15] 34 (0, 0)) (by (with_reducible repeat (first | refine blk_drewN ?_ _ | refine blk_drew ?_ | refine blk_alloc ?_ _)); exact BK176.out) hb)
              have n4_ := Aside0.mk (IsS60.below (by repeat (first | (with_reducible first | exact HI0.out | apply IsS60.alloc | apply IsS60.drewN | apply IsS60.drew | apply IsS60.set_1 | apply IsS60.set_2 | refine IsS60.far ?_ NB0_169.out _ | refine IsS60.far ?_ NB0_176.out _) | exact HI0.out)) hb)
              have n5_ := Aside0.mk (KeepBut.trans (by repeat (first | (with_reducible first | exact HK.out | apply KeepBut.set_ | apply keep_drewN | apply keep_drew | apply keep_alloc | refine keep_far ?_ GW169.out _ | refine keep_far ?_ GW176.out _) | exact HK.out)) (KeepBut.of_below hb g none) (.inl rfl))
              have n6_ := Aside0.mk (below_step (by repeat (first | (with_reducible first | exact HB.out | apply below_alloc | apply pw_below_drewN | apply below_drew1 | refine below_set ?_ (IsS60.ge HI0.out) | refine below_set ?_ GE169.out | refine below_set ?_ GE176.out) | exact HB.out)) hb)
              have n7_ := Aside0.mk (hbox)
              have n8_ := Aside0.mk ((by rw [hg]; exact (keep_size (w := w) (g := g) (row := none) (by repeat (first | (with_reducible first | exact HK.out | apply KeepBut.set_ | apply keep_drewN | apply keep_drew | apply keep_alloc | refine keep_far ?_ GW169.out _ | refine keep_far ?_ GW176.out _) | exact HK.out))) : w.heap.size ≤ gb196))
              have n9_ := Aside0.mk ((Nat.le_trans HW0.out (by rw [hg]; exact (keep_size (w := w) (g := g) (row := none) (by repeat (first | (with_reducible first | exact HK.out | apply KeepBut.set_ | apply keep_drewN | apply keep_drew | apply keep_alloc | refine keep_far ?_ GW169.out _ | refine keep_far ?_ GW176.out _) | exact HK.out))) : w.heap.size ≤ gb196) : w0.heap.size ≤ gb196))
              have n10_ := Aside0.mk ((by rw [hg]; exact Nat.ne_of_lt (blk_lt (g := gb169) (o := .cells #[.int .u16 0, .int .u16 0, .int .u8 0, .int .u8 0, .int .i64 0] 24 (0, 0)) (by (with_reducible repeat (first | refine blk_drewN ?_ _ | refine blk_drew ?_ | refine blk_alloc ?_ _)); exact BK169.out)) : gb169 ≠ gb196))
              have n11_ := Aside0.mk ((by rw [hg]; exact Nat.ne_of_gt (blk_lt (g := gb169) (o := .cells #[.int .u16 0, .int .u16 0, .int .u8 0, .int .u8 0, .int .i64 0] 24 (0, 0)) (by (with_reducible repeat (first | refine blk_drewN ?_ _ | refine blk_drew ?_ | refine blk_alloc ?_ _)); exact BK169.out)) : gb196 ≠ gb169))
              have n12_ := Aside0.mk ((by rw [hg]; exact Nat.ne_of_lt (blk_lt (g := gb176) (o := .cells #[.int .u16 x177000_15, .int .u8 x177001_15, .bool x177002_15] 34 (0, 0)) (by (with_reducible repeat (first | refine blk_drewN ?_ _ | refine blk_drew ?_ | refine blk_alloc ?_ _)); exact BK176.out)) : gb176 ≠ gb196))
              have n13_ := Aside0.mk ((by rw [hg]; exact Nat.ne_of_gt (blk_lt (g := gb176) (o := .cells #[.int .u16 x177000_15, .int .u8 x177001_15, .bool x177002_15] 34 (0, 0)) (by (with_reducible repeat (first | refine blk_drewN ?_ _ | refine blk_drew ?_ | refine blk_alloc ?_ _)); exact BK176.out)) : gb196 ≠ gb176))
              have n14_ := Aside0.mk ((by rw [hg]; exact Nat.ne_of_lt (IsS60.lt (show IsS60 w0 _ g s0_0 x1001_15 x1002_15 from by repeat (first | (with_reducible first | exact HI0.out | apply IsS60.alloc | apply IsS60.drewN | apply IsS60.drew | apply IsS60.set_1 | apply IsS60.set_2 | refine IsS60.far ?_ NB0_169.out _ | refine IsS60.far ?_ NB0_176.out _) | exact HI0.out))) : g ≠ gb196))
              have n15_ := Aside0.mk ((by rw [hg]; exact Nat.ne_of_gt (IsS60.lt (show IsS60 w0 _ g s0_0 x1001_15 x1002_15 from by repeat (first | (with_reducible first | exact HI0.out | apply IsS60.alloc | apply IsS60.drewN | apply IsS60.drew | apply IsS60.set_1 | apply IsS60.set_2 | refine IsS60.far ?_ NB0_169.out _ | refine IsS60.far ?_ NB0_176.out _) | exact HI0.out))) : gb196 ≠ g))
              clear HO186
              clear HO192
              clear BK169
              clear BK176
              clear HI0
              clear HK
              clear HB
              have HO186 := n0_
              have HO192 := n1_
              have BK169 := n2_
              have BK176 := n3_
              have HI0 := n4_
              have HK := n5_
              have HB := n6_
              have BK196 := n7_
              have GW196 := n8_
              have GE196 := n9_
              have NB169_196 := n10_
              have NB196_169 := n11_
              have NB176_196 := n12_
              have NB196_176 := n13_
              have NB0_196 := n14_
              have NB196_0 := n15_
              clear n0_ n1_ n2_ n3_ n4_ n5_ n6_ n7_ n8_ n9_ n10_ n11_ n12_ n13_ n14_ n15_
              clear hb hbox hg
              refine hK.out _ _ ⟨(blk_cell BK176.out 0).trans rfl, (blk_cell BK176.out 1).trans rfl, (blk_cell BK176.out 2).trans rfl⟩ (fun hHeld => ?_)
              clear hK K
              refine norm_ (a' := ?_) ?_ ?_
              rotate_left
              ·show Act.put _ (some 6) _ = _
               simp only [Act.put, List.setIfInBounds_toArray, List.set_cons_zero, List.set_cons_succ, i64_w, i32_w]
               rfl
              exact norm_ (by first | (simp only [putAll, Act.put, List.setIfInBounds_toArray, List.set_cons_zero, List.set_cons_succ]; done) | (simp only [putAll, Act.put, List.setIfInBounds_toArray, List.set_cons_zero, List.set_cons_succ]; rfl)) (hJ5_9_12 ((.slice Ao35 y184.length co35), v191, gb196) _ ⟨hHeld, (by (with_reducible repeat (first | apply Kd.R_alloc | apply Kd.R_drewN | apply Kd.R_drew)); exact HO186.out), (by (with_reducible repeat (first | apply Kd.R_alloc | apply Kd.R_drewN | apply Kd.R_drew)); exact HO192.out), (by (with_reducible repeat (first | refine blk_drewN ?_ _ | refine blk_drew ?_ | refine blk_alloc ?_ _)); exact BK169.out), (by (with_reducible repeat (first | refine blk_drewN ?_ _ | refine blk_drew ?_ | refine blk_alloc ?_ _)); exact BK176.out), (by (with_reducible repeat (first | refine blk_drewN ?_ _ | refine blk_drew ?_ | refine blk_alloc ?_ _)); exact BK196.out), GW196.out, GE196.out, NB0_196.out, NB196_0.out, NB169_196.out, NB196_169.out, NB176_196.out, NB196_176.out, (by repeat (first | (with_reducible first | exact HI0.out | apply IsS60.alloc | apply IsS60.drewN | apply IsS60.drew | apply IsS60.set_1 | apply IsS60.set_2 | refine IsS60.far ?_ NB0_169.out _ | refine IsS60.far ?_ NB0_176.out _ | refine IsS60.far ?_ NB0_196.out _) | exact HI0.out)), (by repeat (first | (with_reducible first | exact HK.out | apply KeepBut.set_ | apply keep_drewN | apply keep_drew | apply keep_alloc | refine keep_far ?_ GW169.out _ | refine keep_far ?_ GW176.out _ | refine keep_far ?_ GW196.out _) | exact HK.out)), (by repeat (first | (with_reducible first | exact HB.out | apply below_alloc | apply pw_below_drewN | apply below_drew1 | refine below_set ?_ (IsS60.ge HI0.out) | refine below_set ?_ GE169.out | refine below_set ?_ GE176.out | refine below_set ?_ GE196.out) | exact HB.out))⟩)
           ·skip
            rintro v185 w34 ⟨hS_, h0_, h1_, h2_, h3_, h4_, h5_⟩
            have n0_ : Aside0 (Kd.R (Kd.int .i64) 3 w34 w.heap.size (fun _ => True) v185 y184) := ⟨h0_⟩
            have n1_ : Aside0 (w34.heap[gb169]? = some (.cells #[.int .u16 0, .int .u16 0, .int .u8 0, .int .u8 0, .int .i64 0] 24 (0, 0))) := ⟨h1_⟩
            have n2_ : Aside0 (w34.heap[gb176]? = some (.cells #[.int .u16 x177000_15, .int .u8 x177001_15, .bool x177002_15] 34 (0, 0))) := ⟨h2_⟩
            have n3_ : Aside0 (IsS60 w0 w34 g s0_0 t188 t189) := ⟨h3_⟩
            have n4_ : Aside0 (KeepBut w w34 g none) := ⟨h4_⟩
            have n5_ : Aside0 (Below w0.heap.size w0 w34) := ⟨h5_⟩
            clear BK169
            clear BK176
            clear HI0
            clear HK
            clear HB
            clear h0_ h1_ h2_ h3_ h4_ h5_
            have HO186 := n0_
            have BK169 := n1_
            have BK176 := n2_
            have HI0 := n3_
            have HK := n4_
            have HB := n5_
            clear n0_ n1_ n2_ n3_ n4_ n5_
            have hHeld : w34.cell? ⟨gb176, 0, none⟩ = some (.int .u16 x177000_15) ∧ w34.cell? ⟨gb176, 1, none⟩ = some (.int .u8 x177001_15) ∧ w34.cell? ⟨gb176, 2, none⟩ = some (.bool x177002_15) := hS_
            refine norm_ (a' := ?_) ?_ ?_
            rotate_left
            ·simp only [putAll, Act.put, List.setIfInBounds_toArray, List.set_cons_zero, List.set_cons_succ]
             rfl
            refine two_ (i := 9) (j := 12) (Ni := some 36) (Nj := some 6) #[true, true, true, true, true, true, true, true, true, true, false, false, false, false] #[true, true, true, true, true, true, true, true, true, false, false, false, true, false] rfl rfl rfl rfl (two_of HT_.out (by kernel_rfl)) (by decide) (by decide) (fun K hK => ?_) (fun K hK => ?_)
            ·skip
             refine Kd.R_lit_step (Kd.int .i64) _ 3 ?hg (N := 36) ?hd (xs := ([0, 1, 2, 2] : List Int)) (inner := [.int .i64 0, .int .i64 1, .int .i64 2, .int .i64 2]) (ok := fun _ => True) (okp := fun _ => True) ?hr ?hp (fun _ hk => hk) trivial (Below.refl _ _) (Nat.le_refl _) (by simp) ?_; (case hd => rfl); (case hg => rfl); (case hr => first | (go_simp; done) | (go_simp; rfl)); (case hp => exact (Reps.one (show Kd.M (Kd.int .i64) _ _ _ 0 [.int .i64 0] from rfl) (Reps.one (show Kd.M (Kd.int .i64) _ _ _ 1 [.int .i64 1] from rfl) (Reps.one (show Kd.M (Kd.int .i64) _ _ _ 2 [.int .i64 2] from rfl) (Reps.one (show Kd.M (Kd.int .i64) _ _ _ 2 [.int .i64 2] from rfl) (Reps.none _ _))))))
             intro v191 w35 ho36 hb hg_ hnew_
             clear hg_ hnew_
             (first | rw [← Ny190.out] at ho36 | (simp only [Int.reduceToNat] at ho36; rw [← Ny190.out] at ho36))
             have n0_ := Aside0.mk (Kd.R_elder' (by (with_reducible repeat (first | apply Kd.R_alloc | apply Kd.R_drewN | apply Kd.R_drew)); exact HO186.out) (Kd.R_base ho36) hb)
             have n1_ := Aside0.mk (Kd.R_lower (Kd.R_new' ho36 (Kd.R_lt (by (with_reducible repeat (first | apply Kd.R_alloc | apply Kd.R_drewN | apply Kd.R_drew)); exact HO186.out))) (keep_size (w := w) (g := g) (row := none) (by repeat (first | (with_reducible first | exact HK.out | apply KeepBut.set_ | apply keep_drewN | apply keep_drew | apply keep_alloc | refine keep_far ?_ GW169.out _ | refine keep_far ?_ GW176.out _) | exact HK.out))))
             have n2_ := Aside0.mk (blk_below (g := gb169) (o := .cells #[.int .u16 0, .int .u16 0, .int .u8 0, .int .u8 0, .int .i64 0] 24 (0, 0)) (by (with_reducible repeat (first | refine blk_drewN ?_ _ | refine blk_drew ?_ | refine blk_alloc ?_ _)); exact BK169.out) hb)
             have n3_ := Aside0.mk (blk_below (g := gb176) (o := .cells #[.int .u16 x177000_15, .int .u8 x177001_15, .bool x177002_15] 34 (0, 0)) (by (with_reducible repeat (first | refine blk_drewN ?_ _ | refine blk_drew ?_ | refine blk_alloc ?_ _)); exact BK176.out) hb)
             have n4_ := Aside0.mk (IsS60.below (by repeat (first | (with_reducible first | exact HI0.out | apply IsS60.alloc | apply IsS60.drewN | apply IsS60.drew | apply IsS60.set_1 | apply IsS60.set_2 | refine IsS60.far ?_ NB0_169.out _ | refine IsS60.far ?_ NB0_176.out _) | exact HI0.out)) hb)
             have n5_ := Aside0.mk (KeepBut.trans (by repeat (first | (with_reducible first | exact HK.out | apply KeepBut.set_ | apply keep_drewN | apply keep_drew | apply keep_alloc | refine keep_far ?_ GW169.out _ | refine keep_far ?_ GW176.out _) | exact HK.out)) (KeepBut.of_below hb g none) (.inl rfl))
             have n6_ := Aside0.mk (below_step (by repeat (first | (with_reducible first | exact HB.out | apply below_alloc | apply pw_below_drewN | apply below_drew1 | refine below_set ?_ (IsS60.ge HI0.out) | refine below_set ?_ GE169.out | refine below_set ?_ GE176.out) | exact HB.out)) hb)
             clear HO186
             clear BK169
             clear BK176
             clear HI0
             clear HK
             clear HB
             have HO186 := n0_
             have HO192 := n1_
             have BK169 := n2_
             have BK176 := n3_
             have HI0 := n4_
             have HK := n5_
             have HB := n6_
             clear n0_ n1_ n2_ n3_ n4_ n5_ n6_
             clear hb ho36
             refine hK.out _ _ ⟨(blk_cell BK176.out 0).trans rfl, (blk_cell BK176.out 1).trans rfl, (blk_cell BK176.out 2).trans rfl⟩ (fun hHeld => ?_)
             clear hK K
             refine norm_ (a' := ?_) ?_ ?_
             rotate_left
             ·show Act.put _ (some 36) _ = _
              simp only [Act.put, List.setIfInBounds_toArray, List.set_cons_zero, List.set_cons_succ, i64_w, i32_w]
              rfl
             exact norm_ (by first | (simp only [putAll, Act.put, List.setIfInBounds_toArray, List.set_cons_zero, List.set_cons_succ]; done) | (simp only [putAll, Act.put, List.setIfInBounds_toArray, List.set_cons_zero, List.set_cons_succ]; rfl)) (hJ5_6_9 (v185, v191) _ ⟨hHeld, (by (with_reducible repeat (first | apply Kd.R_alloc | apply Kd.R_drewN | apply Kd.R_drew)); exact Kd.R_mono HO186.out (fun _ hk => hk.2)), (by (with_reducible repeat (first | apply Kd.R_alloc | apply Kd.R_drewN | apply Kd.R_drew)); exact Kd.R_mono HO192.out (fun _ hk => hk.2)), (by (with_reducible repeat (first | refine blk_drewN ?_ _ | refine blk_drew ?_ | refine blk_alloc ?_ _)); exact BK169.out), (by (with_reducible repeat (first | refine blk_drewN ?_ _ | refine blk_drew ?_ | refine blk_alloc ?_ _)); exact BK176.out), (by repeat (first | (with_reducible first | exact HI0.out | apply IsS60.alloc | apply IsS60.drewN | apply IsS60.drew | apply IsS60.set_1 | apply IsS60.set_2 | refine IsS60.far ?_ NB0_169.out _ | refine IsS60.far ?_ NB0_176.out _) | exact HI0.out)), (by repeat (first | (with_reducible first | exact HK.out | apply KeepBut.set_ | apply keep_drewN | apply keep_drew | apply keep_alloc | refine keep_far ?_ GW169.out _ | refine keep_far ?_ GW176.out _) | exact HK.out)), (by repeat (first | (with_reducible first | exact HB.out | apply below_alloc | apply pw_below_drewN | apply below_drew1 | refine below_set ?_ (IsS60.ge HI0.out) | refine below_set ?_ GE169.out | refine below_set ?_ GE176.out) | exact HB.out))⟩)
            ·skip
             refine box_step ?hg (N := 6) ?hd (cs := #[.int .u16 0, .int .u16 0, .int .u8 0, .int .u8 0, .int .i64 0]) (t := 24) ?hr ?_; (case hd => rfl); (case hg => rfl); (case hr => first | (go_simp; done) | (go_simp; rfl))
             intro gb196 hg w35 hbox hb
             have n0_ := Aside0.mk (Kd.R_below (by (with_reducible repeat (first | apply Kd.R_alloc | apply Kd.R_drewN | apply Kd.R_drew)); exact HO186.out) hb)
             have n1_ := Aside0.mk (blk_below (g := gb169) (o := .cells #[.int .u16 0, .int .u16 0, .int .u8 0, .int .u8 0, .int .i64 0] 24 (0, 0)) (by (with_reducible repeat (first | refine blk_drewN ?_ _ | refine blk_drew ?_ | refine blk_alloc ?_ _)); exact BK169.out) hb)
             have n2_ := Aside0.mk (blk_below (g := gb176) (o := .cells #[.int .u16 x177000_15, .int .u8 x177001_15, .bool x177002_15] 34 (0, 0)) (by (with_reducible repeat (first | refine blk_drewN ?_ _ | refine blk_drew ?_ | refine blk_alloc ?_ _)); exact BK176.out) hb)
             have n3_ := Aside0.mk (IsS60.below (by repeat (first | (with_reducible first | exact HI0.out | apply IsS60.alloc | apply IsS60.drewN | apply IsS60.drew | apply IsS60.set_1 | apply IsS60.set_2 | refine IsS60.far ?_ NB0_169.out _ | refine IsS60.far ?_ NB0_176.out _) | exact HI0.out)) hb)
             have n4_ := Aside0.mk (KeepBut.trans (by repeat (first | (with_reducible first | exact HK.out | apply KeepBut.set_ | apply keep_drewN | apply keep_drew | apply keep_alloc | refine keep_far ?_ GW169.out _ | refine keep_far ?_ GW176.out _) | exact HK.out)) (KeepBut.of_below hb g none) (.inl rfl))
             have n5_ := Aside0.mk (below_step (by repeat (first | (with_reducible first | exact HB.out | apply below_alloc | apply pw_below_drewN | apply below_drew1 | refine below_set ?_ (IsS60.ge HI0.out) | refine below_set ?_ GE169.out | refine below_set ?_ GE176.out) | exact HB.out)) hb)
             have n6_ := Aside0.mk (hbox)
             have n7_ := Aside0.mk ((by rw [hg]; exact (keep_size (w := w) (g := g) (row := none) (by repeat (first | (with_reducible first | exact HK.out | apply KeepBut.set_ | apply keep_drewN | apply keep_drew | apply keep_alloc | refine keep_far ?_ GW169.out _ | refine keep_far ?_ GW176.out _) | exact HK.out))) : w.heap.size ≤ gb196))
             have n8_ := Aside0.mk ((Nat.le_trans HW0.out (by rw [hg]; exact (keep_size (w := w) (g := g) (row := none) (by repeat (first | (with_reducible first | exact HK.out | apply KeepBut.set_ | apply keep_drewN | apply keep_drew | apply keep_alloc | refine keep_far ?_ GW169.out _ | refine keep_far ?_ GW176.out _) | exact HK.out))) : w.heap.size ≤ gb196) : w0.heap.size ≤ gb196))
             have n9_ := Aside0.mk ((by rw [hg]; exact Nat.ne_of_lt (blk_lt (g := gb169) (o := .cells #[.int .u16 0, .int .u16 0, .int .u8 0, .int .u8 0, .int .i64 0] 24 (0, 0)) (by (with_reducible repeat (first | refine blk_drewN ?_ _ | refine blk_drew ?_ | refine blk_alloc ?_ _)); exact BK169.out)) : gb169 ≠ gb196))
             have n10_ := Aside0.mk ((by rw [hg]; exact Nat.ne_of_gt (blk_lt (g := gb169) (o := .cells #[.int .u16 0, .int .u16 0, .int .u8 0, .int .u8 0, .int .i64 0] 24 (0, 0)) (by (with_reducible repeat (first | refine blk_drewN ?_ _ | refine blk_drew ?_ | refine blk_alloc ?_ _)); exact BK169.out)) : gb196 ≠ gb169))
             have n11_ := Aside0.mk ((by rw [hg]; exact Nat.ne_of_lt (blk_lt (g := gb176) (o := .cells #[.int .u16 x177000_15, .int .u8 x177001_15, .bool x177002_15] 34 (0, 0)) (by (with_reducible repeat (first | refine blk_drewN ?_ _ | refine blk_drew ?_ | refine blk_alloc ?_ _)); exact BK176.out)) : gb176 ≠ gb196))
             have n12_ := Aside0.mk ((by rw [hg]; exact Nat.ne_of_gt (blk_lt (g := gb176) (o := .cells #[.int .u16 x177000_15, .int .u8 x177001_15, .bool x177002_15] 34 (0, 0)) (by (with_reducible repeat (first | refine blk_drewN ?_ _ | refine blk_drew ?_ | refine blk_alloc ?_ _)); exact BK176.out)) : gb196 ≠ gb176))
             have n13_ := Aside0.mk ((by rw [hg]; exact Nat.ne_of_lt (IsS60.lt (show IsS60 w0 _ g s0_0 t188 t189 from by repeat (first | (with_reducible first | exact HI0.out | apply IsS60.alloc | apply IsS60.drewN | apply IsS60.drew | apply IsS60.set_1 | apply IsS60.set_2 | refine IsS60.far ?_ NB0_169.out _ | refine IsS60.far ?_ NB0_176.out _) | exact HI0.out))) : g ≠ gb196))
             have n14_ := Aside0.mk ((by rw [hg]; exact Nat.ne_of_gt (IsS60.lt (show IsS60 w0 _ g s0_0 t188 t189 from by repeat (first | (with_reducible first | exact HI0.out | apply IsS60.alloc | apply IsS60.drewN | apply IsS60.drew | apply IsS60.set_1 | apply IsS60.set_2 | refine IsS60.far ?_ NB0_169.out _ | refine IsS60.far ?_ NB0_176.out _) | exact HI0.out))) : gb196 ≠ g))
             clear HO186
             clear BK169
             clear BK176
             clear HI0
             clear HK
             clear HB
             have HO186 := n0_
             have BK169 := n1_
             have BK176 := n2_
             have HI0 := n3_
             have HK := n4_
             have HB := n5_
             have BK196 := n6_
             have GW196 := n7_
             have GE196 := n8_
             have NB169_196 := n9_
             have NB196_169 := n10_
             have NB176_196 := n11_
             have NB196_176 := n12_
             have NB0_196 := n13_
             have NB196_0 := n14_
             clear n0_ n1_ n2_ n3_ n4_ n5_ n6_ n7_ n8_ n9_ n10_ n11_ n12_ n13_ n14_
             clear hb hbox hg
             refine hK.out _ _ ⟨(blk_cell BK176.out 0).trans rfl, (blk_cell BK176.out 1).trans rfl, (blk_cell BK176.out 2).trans rfl⟩ (fun hHeld => ?_)
             clear hK K
             refine norm_ (a' := ?_) ?_ ?_
             rotate_left
             ·show Act.put _ (some 6) _ = _
              simp only [Act.put, List.setIfInBounds_toArray, List.set_cons_zero, List.set_cons_succ, i64_w, i32_w]
              rfl
             exact norm_ (by first | (simp only [putAll, Act.put, List.setIfInBounds_toArray, List.set_cons_zero, List.set_cons_succ]; done) | (simp only [putAll, Act.put, List.setIfInBounds_toArray, List.set_cons_zero, List.set_cons_succ]; rfl)) (hJ5_6_12 (v185, gb196) _ ⟨hHeld, (by (with_reducible repeat (first | apply Kd.R_alloc | apply Kd.R_drewN | apply Kd.R_drew)); exact HO186.out), (by (with_reducible repeat (first | refine blk_drewN ?_ _ | refine blk_drew ?_ | refine blk_alloc ?_ _)); exact BK169.out), (by (with_reducible repeat (first | refine blk_drewN ?_ _ | refine blk_drew ?_ | refine blk_alloc ?_ _)); exact BK176.out), (by (with_reducible repeat (first | refine blk_drewN ?_ _ | refine blk_drew ?_ | refine blk_alloc ?_ _)); exact BK196.out), GW196.out, GE196.out, NB0_196.out, NB196_0.out, NB169_196.out, NB196_169.out, NB176_196.out, NB196_176.out, (by repeat (first | (with_reducible first | exact HI0.out | apply IsS60.alloc | apply IsS60.drewN | apply IsS60.drew | apply IsS60.set_1 | apply IsS60.set_2 | refine IsS60.far ?_ NB0_169.out _ | refine IsS60.far ?_ NB0_176.out _ | refine IsS60.far ?_ NB0_196.out _) | exact HI0.out)), (by repeat (first | (with_reducible first | exact HK.out | apply KeepBut.set_ | apply keep_drewN | apply keep_drew | apply keep_alloc | refine keep_far ?_ GW169.out _ | refine keep_far ?_ GW176.out _ | refine keep_far ?_ GW196.out _) | exact HK.out)), (by repeat (first | (with_reducible first | exact HB.out | apply below_alloc | apply pw_below_drewN | apply below_drew1 | refine below_set ?_ (IsS60.ge HI0.out) | refine below_set ?_ GE169.out | refine below_set ?_ GE176.out | refine below_set ?_ GE196.out) | exact HB.out))⟩)
          ·skip
           rintro ⟨v185, v191, gb196⟩ w35 ⟨hS_, h0_, h1_, h2_, h3_, h4_, h5_, h6_, h7_, h8_, h9_, h10_, h11_, h12_, h13_, h14_, h15_⟩
           have n0_ : Aside0 (Kd.R (Kd.int .i64) 3 w35 w.heap.size (fun k_ => some k_ ≠ (v191 : Value).ownBlock) v185 y184) := ⟨h0_⟩
           have n1_ : Aside0 (Kd.R (Kd.int .i64) 3 w35 w.heap.size (fun k_ => some k_ ≠ (v185 : Value).ownBlock) v191 y190) := ⟨h1_⟩
           have n2_ : Aside0 (w35.heap[gb169]? = some (.cells #[.int .u16 0, .int .u16 0, .int .u8 0, .int .u8 0, .int .i64 0] 24 (0, 0))) := ⟨h2_⟩
           have n3_ : Aside0 (w35.heap[gb176]? = some (.cells #[.int .u16 x177000_15, .int .u8 x177001_15, .bool x177002_15] 34 (0, 0))) := ⟨h3_⟩
           have n4_ : Aside0 (w35.heap[gb196]? = some (.cells #[.int .u16 0, .int .u16 0, .int .u8 0, .int .u8 0, .int .i64 0] 24 (0, 0))) := ⟨h4_⟩
           have n5_ : Aside0 (w.heap.size ≤ gb196) := ⟨h5_⟩
           have n6_ : Aside0 (w0.heap.size ≤ gb196) := ⟨h6_⟩
           have n7_ : Aside0 (g ≠ gb196) := ⟨h7_⟩
           have n8_ : Aside0 (gb196 ≠ g) := ⟨h8_⟩
           have n9_ : Aside0 (gb169 ≠ gb196) := ⟨h9_⟩
           have n10_ : Aside0 (gb196 ≠ gb169) := ⟨h10_⟩
           have n11_ : Aside0 (gb176 ≠ gb196) := ⟨h11_⟩
           have n12_ : Aside0 (gb196 ≠ gb176) := ⟨h12_⟩
           have n13_ : Aside0 (IsS60 w0 w35 g s0_0 x1001_15 x1002_15) := ⟨h13_⟩
           have n14_ : Aside0 (KeepBut w w35 g none) := ⟨h14_⟩
           have n15_ : Aside0 (Below w0.heap.size w0 w35) := ⟨h15_⟩
           clear BK169
           clear BK176
           clear HI0
           clear HK
           clear HB
           clear h0_ h1_ h2_ h3_ h4_ h5_ h6_ h7_ h8_ h9_ h10_ h11_ h12_ h13_ h14_ h15_
           have HO186 := n0_
           have HO192 := n1_
           have BK169 := n2_
           have BK176 := n3_
           have BK196 := n4_
           have GW196 := n5_
           have GE196 := n6_
           have NB0_196 := n7_
           have NB196_0 := n8_
           have NB169_196 := n9_
           have NB196_169 := n10_
           have NB176_196 := n11_
           have NB196_176 := n12_
           have HI0 := n13_
           have HK := n14_
           have HB := n15_
           clear n0_ n1_ n2_ n3_ n4_ n5_ n6_ n7_ n8_ n9_ n10_ n11_ n12_ n13_ n14_ n15_
           have hHeld : w35.cell? ⟨gb176, 0, none⟩ = some (.int .u16 x177000_15) ∧ w35.cell? ⟨gb176, 1, none⟩ = some (.int .u8 x177001_15) ∧ w35.cell? ⟨gb176, 2, none⟩ = some (.bool x177002_15) := hS_
           obtain ⟨Ao36, co36, eo36⟩ := Kd.R_slice HO186.out
           (first | subst eo36 | (injection eo36 with f1_ f2_ f3_; have f4_ := f1_.symm; have f5_ := f3_.symm; clear f1_ f2_ f3_; subst f4_; subst f5_))
           refine norm_ (a' := ?_) ?_ ?_
           rotate_left
           ·simp only [putAll, Act.put, List.setIfInBounds_toArray, List.set_cons_zero, List.set_cons_succ]
            rfl
           refine one_ (i := 6) (N := some 33) #[true, true, true, true, true, true, true, false, true, true, false, false, true, false] rfl rfl (one_of HT_.out (by kernel_rfl)) (by decide) (fun K hK => ?_)
           refine goes_ Try.func35 (by kernel_rfl) rfl #[.pointer (some ⟨g, 0, none⟩), .slice Ao36 y184.length co36] (by rfl) rfl rfl (by (try simp only [List.map_toArray, List.map_cons, List.map_nil]); first | done | rfl | (simp only [List.length_drop, List.length_take]; rfl)) ?_
           with_reducible refine (spec_l01PickInt.calls g s0_0 x1001_15 x1002_15 _ _ y184 t187 t188 t189 w0 _ ?side1 ?side2 ?side3 ?side4 ?side5 A25.out).mono ?_
           (case side1 => repeat (first | (with_reducible first | exact HI0.out | apply IsS60.alloc | apply IsS60.drewN | apply IsS60.drew | apply IsS60.set_1 | apply IsS60.set_2 | refine IsS60.far ?_ NB0_169.out _ | refine IsS60.far ?_ NB0_176.out _ | refine IsS60.far ?_ NB0_196.out _) | exact HI0.out))
           (case side2 => repeat (first | (with_reducible first | exact HB.out | apply below_alloc | apply pw_below_drewN | apply below_drew1 | refine below_set ?_ (IsS60.ge HI0.out) | refine below_set ?_ GE169.out | refine below_set ?_ GE176.out | refine below_set ?_ GE196.out) | exact HB.out))
           (case side3 => repeat (first | exact (Kd.R_reads' HO186.out).2.2 | (with_reducible refine Kd.C_alloc ?_ _) | (with_reducible refine Kd.C_drewN ?_ _) | (with_reducible refine Kd.C_drew ?_)))
           (case side4 => exact (Kd.R_reads' HO186.out).2.1)
           (case side5 => exact far_slice (IsS60.own_ne HI0.out HO186.out (by decide)))
           rintro e w37 ⟨rfl, hi, hb, hk⟩
           refine ⟨_, rfl, ?_⟩
           have n0_ := Aside0.mk (KeepBut.blk hk (g' := gb169) (o := .cells #[.int .u16 0, .int .u16 0, .int .u8 0, .int .u8 0, .int .i64 0] 24 (0, 0)) (by (with_reducible repeat (first | refine blk_drewN ?_ _ | refine blk_drew ?_ | refine blk_alloc ?_ _)); exact BK169.out) NB169_0.out (by simp))
           have n1_ := Aside0.mk (KeepBut.blk hk (g' := gb176) (o := .cells #[.int .u16 x177000_15, .int .u8 x177001_15, .bool x177002_15] 34 (0, 0)) (by (with_reducible repeat (first | refine blk_drewN ?_ _ | refine blk_drew ?_ | refine blk_alloc ?_ _)); exact BK176.out) NB176_0.out (by simp))
           have n2_ := Aside0.mk (Kd.R_mono (Kd.R_keep (IsS60.apart (show IsS60 w0 _ g s0_0 x1001_15 x1002_15 from by repeat (first | (with_reducible first | exact HI0.out | apply IsS60.alloc | apply IsS60.drewN | apply IsS60.drew | apply IsS60.set_1 | apply IsS60.set_2 | refine IsS60.far ?_ NB0_169.out _ | refine IsS60.far ?_ NB0_176.out _ | refine IsS60.far ?_ NB0_196.out _) | exact HI0.out)) (by (with_reducible repeat (first | apply Kd.R_alloc | apply Kd.R_drewN | apply Kd.R_drew)); exact HO186.out) (by decide)) hk (fun _ h => h.2)) (fun _ h => h.1))
           have n3_ := Aside0.mk (Kd.R_mono (Kd.R_keep (IsS60.apart (show IsS60 w0 _ g s0_0 x1001_15 x1002_15 from by repeat (first | (with_reducible first | exact HI0.out | apply IsS60.alloc | apply IsS60.drewN | apply IsS60.drew | apply IsS60.set_1 | apply IsS60.set_2 | refine IsS60.far ?_ NB0_169.out _ | refine IsS60.far ?_ NB0_176.out _ | refine IsS60.far ?_ NB0_196.out _) | exact HI0.out)) (by (with_reducible repeat (first | apply Kd.R_alloc | apply Kd.R_drewN | apply Kd.R_drew)); exact HO192.out) (by decide)) hk (fun _ h => h.2)) (fun _ h => h.1))
           have n4_ := Aside0.mk (KeepBut.blk hk (g' := gb196) (o := .cells #[.int .u16 0, .int .u16 0, .int .u8 0, .int .u8 0, .int .i64 0] 24 (0, 0)) (by (with_reducible repeat (first | refine blk_drewN ?_ _ | refine blk_drew ?_ | refine blk_alloc ?_ _)); exact BK196.out) NB196_0.out (by simp))
           have n5_ := Aside0.mk (KeepBut.trans (by repeat (first | (with_reducible first | exact HK.out | apply KeepBut.set_ | apply keep_drewN | apply keep_drew | apply keep_alloc | refine keep_far ?_ GW169.out _ | refine keep_far ?_ GW176.out _ | refine keep_far ?_ GW196.out _) | exact HK.out)) hk (.inl rfl))
           have n6_ := Aside0.mk (hb)
           have n7_ := Aside0.mk (hi)
           clear BK169
           clear BK176
           clear HO186
           clear HO192
           clear BK196
           clear HK
           clear HB
           clear HI0
           have BK169 := n0_
           have BK176 := n1_
           have HO186 := n2_
           have HO192 := n3_
           have BK196 := n4_
           have HK := n5_
           have HB := n6_
           have HI0 := n7_
           clear n0_ n1_ n2_ n3_ n4_ n5_ n6_ n7_
           (try clear hb)
           (try clear hb2)
           (try clear hk)
           (try clear hi)
           refine hK.out _ _ ⟨(blk_cell BK176.out 0).trans rfl, (blk_cell BK176.out 1).trans rfl, (blk_cell BK176.out 2).trans rfl⟩ (fun hHeld => ?_)
           clear hK K
           refine norm_ (a' := ?_) ?_ ?_
           rotate_left
           ·show Act.put _ (some 33) _ = _
            simp only [Act.put, List.setIfInBounds_toArray, List.set_cons_zero, List.set_cons_succ, i64_w, i32_w]
            rfl
           refine pure_ (i := 7) (N := some 34) (v := ?_) (a' := ?_) #[true, true, true, true, true, true, true, true, true, true, false, false, true, false] rfl rfl (any_of HT_.out (by kernel_rfl)) (fun _ _ _ h => h) (Or.inl ⟨by rfl, ?_⟩) ?_ ?_
           rotate_left
           ·intro w'
            go_simp
            with_reducible rfl
           rotate_left
           ·simp only [Act.put, List.setIfInBounds_toArray, List.set_cons_zero, List.set_cons_succ, i64_w, i32_w]
            rfl
           exact norm_ (by first | (simp only [putAll, Act.put, List.setIfInBounds_toArray, List.set_cons_zero, List.set_cons_succ]; done) | (simp only [putAll, Act.put, List.setIfInBounds_toArray, List.set_cons_zero, List.set_cons_succ]; rfl)) (hJ5_6_9_12 (.slice Ao36 y184.length co36, v191, gb196) _ ⟨hHeld, (by (with_reducible repeat (first | apply Kd.R_alloc | apply Kd.R_drewN | apply Kd.R_drew)); exact HO186.out), (by (with_reducible repeat (first | apply Kd.R_alloc | apply Kd.R_drewN | apply Kd.R_drew)); exact HO192.out), (by (with_reducible repeat (first | refine blk_drewN ?_ _ | refine blk_drew ?_ | refine blk_alloc ?_ _)); exact BK169.out), (by (with_reducible repeat (first | refine blk_drewN ?_ _ | refine blk_drew ?_ | refine blk_alloc ?_ _)); exact BK176.out), (by (with_reducible repeat (first | refine blk_drewN ?_ _ | refine blk_drew ?_ | refine blk_alloc ?_ _)); exact BK196.out), GW196.out, GE196.out, NB0_196.out, NB196_0.out, NB169_196.out, NB196_169.out, NB176_196.out, NB196_176.out, (by repeat (first | (with_reducible first | exact HI0.out | apply IsS60.alloc | apply IsS60.drewN | apply IsS60.drew | apply IsS60.set_1 | apply IsS60.set_2 | refine IsS60.far ?_ NB0_169.out _ | refine IsS60.far ?_ NB0_176.out _ | refine IsS60.far ?_ NB0_196.out _) | exact HI0.out)), (by repeat (first | (with_reducible first | exact HK.out | apply KeepBut.set_ | apply keep_drewN | apply keep_drew | apply keep_alloc | refine keep_far ?_ GW169.out _ | refine keep_far ?_ GW176.out _ | refine keep_far ?_ GW196.out _) | exact HK.out)), (by repeat (first | (with_reducible first | exact HB.out | apply below_alloc | apply pw_below_drewN | apply below_drew1 | refine below_set ?_ (IsS60.ge HI0.out) | refine below_set ?_ GE169.out | refine below_set ?_ GE176.out | refine below_set ?_ GE196.out) | exact HB.out))⟩)
         ·skip
          rintro ⟨v185, gb196⟩ w35 ⟨hS_, h0_, h1_, h2_, h3_, h4_, h5_, h6_, h7_, h8_, h9_, h10_, h11_, h12_, h13_, h14_⟩
          have n0_ : Aside0 (Kd.R (Kd.int .i64) 3 w35 w.heap.size (fun _ => True) v185 y184) := ⟨h0_⟩
          have n1_ : Aside0 (w35.heap[gb169]? = some (.cells #[.int .u16 0, .int .u16 0, .int .u8 0, .int .u8 0, .int .i64 0] 24 (0, 0))) := ⟨h1_⟩
          have n2_ : Aside0 (w35.heap[gb176]? = some (.cells #[.int .u16 x177000_15, .int .u8 x177001_15, .bool x177002_15] 34 (0, 0))) := ⟨h2_⟩
          have n3_ : Aside0 (w35.heap[gb196]? = some (.cells #[.int .u16 0, .int .u16 0, .int .u8 0, .int .u8 0, .int .i64 0] 24 (0, 0))) := ⟨h3_⟩
          have n4_ : Aside0 (w.heap.size ≤ gb196) := ⟨h4_⟩
          have n5_ : Aside0 (w0.heap.size ≤ gb196) := ⟨h5_⟩
          have n6_ : Aside0 (g ≠ gb196) := ⟨h6_⟩
          have n7_ : Aside0 (gb196 ≠ g) := ⟨h7_⟩
          have n8_ : Aside0 (gb169 ≠ gb196) := ⟨h8_⟩
          have n9_ : Aside0 (gb196 ≠ gb169) := ⟨h9_⟩
          have n10_ : Aside0 (gb176 ≠ gb196) := ⟨h10_⟩
          have n11_ : Aside0 (gb196 ≠ gb176) := ⟨h11_⟩
          have n12_ : Aside0 (IsS60 w0 w35 g s0_0 t188 t189) := ⟨h12_⟩
          have n13_ : Aside0 (KeepBut w w35 g none) := ⟨h13_⟩
          have n14_ : Aside0 (Below w0.heap.size w0 w35) := ⟨h14_⟩
          clear BK169
          clear BK176
          clear HI0
          clear HK
          clear HB
          clear h0_ h1_ h2_ h3_ h4_ h5_ h6_ h7_ h8_ h9_ h10_ h11_ h12_ h13_ h14_
          have HO186 := n0_
          have BK169 := n1_
          have BK176 := n2_
          have BK196 := n3_
          have GW196 := n4_
          have GE196 := n5_
          have NB0_196 := n6_
          have NB196_0 := n7_
          have NB169_196 := n8_
          have NB196_169 := n9_
          have NB176_196 := n10_
          have NB196_176 := n11_
          have HI0 := n12_
          have HK := n13_
          have HB := n14_
          clear n0_ n1_ n2_ n3_ n4_ n5_ n6_ n7_ n8_ n9_ n10_ n11_ n12_ n13_ n14_
          have hHeld : w35.cell? ⟨gb176, 0, none⟩ = some (.int .u16 x177000_15) ∧ w35.cell? ⟨gb176, 1, none⟩ = some (.int .u8 x177001_15) ∧ w35.cell? ⟨gb176, 2, none⟩ = some (.bool x177002_15) := hS_
          refine norm_ (a' := ?_) ?_ ?_
          rotate_left
          ·simp only [putAll, Act.put, List.setIfInBounds_toArray, List.set_cons_zero, List.set_cons_succ]
           rfl
          refine one_ (i := 9) (N := some 36) #[true, true, true, true, true, true, true, true, true, true, false, false, true, false] rfl rfl (one_of HT_.out (by kernel_rfl)) (by decide) (fun K hK => ?_)
          refine Kd.R_lit_step (Kd.int .i64) _ 3 ?hg (N := 36) ?hd (xs := ([0, 1, 2, 2] : List Int)) (inner := [.int .i64 0, .int .i64 1, .int .i64 2, .int .i64 2]) (ok := fun _ => True) (okp := fun _ => True) ?hr ?hp (fun _ hk => hk) trivial (Below.refl _ _) (Nat.le_refl _) (by simp) ?_; (case hd => rfl); (case hg => rfl); (case hr => first | (go_simp; done) | (go_simp; rfl)); (case hp => exact (Reps.one (show Kd.M (Kd.int .i64) _ _ _ 0 [.int .i64 0] from rfl) (Reps.one (show Kd.M (Kd.int .i64) _ _ _ 1 [.int .i64 1] from rfl) (Reps.one (show Kd.M (Kd.int .i64) _ _ _ 2 [.int .i64 2] from rfl) (Reps.one (show Kd.M (Kd.int .i64) _ _ _ 2 [.int .i64 2] from rfl) (Reps.none _ _))))))
          intro v191 w36 ho37 hb hg_ hnew_
          clear hg_ hnew_
          (first | rw [← Ny190.out] at ho37 | (simp only [Int.reduceToNat] at ho37; rw [← Ny190.out] at ho37))
          have n0_ := Aside0.mk (Kd.R_elder' (by (with_reducible repeat (first | apply Kd.R_alloc | apply Kd.R_drewN | apply Kd.R_drew)); exact HO186.out) (Kd.R_base ho37) hb)
          have n1_ := Aside0.mk (Kd.R_lower (Kd.R_new' ho37 (Kd.R_lt (by (with_reducible repeat (first | apply Kd.R_alloc | apply Kd.R_drewN | apply Kd.R_drew)); exact HO186.out))) (keep_size (w := w) (g := g) (row := none) (by repeat (first | (with_reducible first | exact HK.out | apply KeepBut.set_ | apply keep_drewN | apply keep_drew | apply keep_alloc | refine keep_far ?_ GW169.out _ | refine keep_far ?_ GW176.out _ | refine keep_far ?_ GW196.out _) | exact HK.out))))
          have n2_ := Aside0.mk (blk_below (g := gb169) (o := .cells #[.int .u16 0, .int .u16 0, .int .u8 0, .int .u8 0, .int .i64 0] 24 (0, 0)) (by (with_reducible repeat (first | refine blk_drewN ?_ _ | refine blk_drew ?_ | refine blk_alloc ?_ _)); exact BK169.out) hb)
          have n3_ := Aside0.mk (blk_below (g := gb176) (o := .cells #[.int .u16 x177000_15, .int .u8 x177001_15, .bool x177002_15] 34 (0, 0)) (by (with_reducible repeat (first | refine blk_drewN ?_ _ | refine blk_drew ?_ | refine blk_alloc ?_ _)); exact BK176.out) hb)
          have n4_ := Aside0.mk (IsS60.below (by repeat (first | (with_reducible first | exact HI0.out | apply IsS60.alloc | apply IsS60.drewN | apply IsS60.drew | apply IsS60.set_1 | apply IsS60.set_2 | refine IsS60.far ?_ NB0_169.out _ | refine IsS60.far ?_ NB0_176.out _ | refine IsS60.far ?_ NB0_196.out _) | exact HI0.out)) hb)
          have n5_ := Aside0.mk (blk_below (g := gb196) (o := .cells #[.int .u16 0, .int .u16 0, .int .u8 0, .int .u8 0, .int .i64 0] 24 (0, 0)) (by (with_reducible repeat (first | refine blk_drewN ?_ _ | refine blk_drew ?_ | refine blk_alloc ?_ _)); exact BK196.out) hb)
          have n6_ := Aside0.mk (KeepBut.trans (by repeat (first | (with_reducible first | exact HK.out | apply KeepBut.set_ | apply keep_drewN | apply keep_drew | apply keep_alloc | refine keep_far ?_ GW169.out _ | refine keep_far ?_ GW176.out _ | refine keep_far ?_ GW196.out _) | exact HK.out)) (KeepBut.of_below hb g none) (.inl rfl))
          have n7_ := Aside0.mk (below_step (by repeat (first | (with_reducible first | exact HB.out | apply below_alloc | apply pw_below_drewN | apply below_drew1 | refine below_set ?_ (IsS60.ge HI0.out) | refine below_set ?_ GE169.out | refine below_set ?_ GE176.out | refine below_set ?_ GE196.out) | exact HB.out)) hb)
          clear HO186
          clear BK169
          clear BK176
          clear HI0
          clear BK196
          clear HK
          clear HB
          have HO186 := n0_
          have HO192 := n1_
          have BK169 := n2_
          have BK176 := n3_
          have HI0 := n4_
          have BK196 := n5_
          have HK := n6_
          have HB := n7_
          clear n0_ n1_ n2_ n3_ n4_ n5_ n6_ n7_
          clear hb ho37
          refine hK.out _ _ ⟨(blk_cell BK176.out 0).trans rfl, (blk_cell BK176.out 1).trans rfl, (blk_cell BK176.out 2).trans rfl⟩ (fun hHeld => ?_)
          clear hK K
          refine norm_ (a' := ?_) ?_ ?_
          rotate_left
          ·show Act.put _ (some 36) _ = _
           simp only [Act.put, List.setIfInBounds_toArray, List.set_cons_zero, List.set_cons_succ, i64_w, i32_w]
           rfl
          exact norm_ (by first | (simp only [putAll, Act.put, List.setIfInBounds_toArray, List.set_cons_zero, List.set_cons_succ]; done) | (simp only [putAll, Act.put, List.setIfInBounds_toArray, List.set_cons_zero, List.set_cons_succ]; rfl)) (hJ5_6_9_12 (v185, v191, gb196) _ ⟨hHeld, (by (with_reducible repeat (first | apply Kd.R_alloc | apply Kd.R_drewN | apply Kd.R_drew)); exact Kd.R_mono HO186.out (fun _ hk => hk.2)), (by (with_reducible repeat (first | apply Kd.R_alloc | apply Kd.R_drewN | apply Kd.R_drew)); exact Kd.R_mono HO192.out (fun _ hk => hk.2)), (by (with_reducible repeat (first | refine blk_drewN ?_ _ | refine blk_drew ?_ | refine blk_alloc ?_ _)); exact BK169.out), (by (with_reducible repeat (first | refine blk_drewN ?_ _ | refine blk_drew ?_ | refine blk_alloc ?_ _)); exact BK176.out), (by (with_reducible repeat (first | refine blk_drewN ?_ _ | refine blk_drew ?_ | refine blk_alloc ?_ _)); exact BK196.out), GW196.out, GE196.out, NB0_196.out, NB196_0.out, NB169_196.out, NB196_169.out, NB176_196.out, NB196_176.out, (by repeat (first | (with_reducible first | exact HI0.out | apply IsS60.alloc | apply IsS60.drewN | apply IsS60.drew | apply IsS60.set_1 | apply IsS60.set_2 | refine IsS60.far ?_ NB0_169.out _ | refine IsS60.far ?_ NB0_176.out _ | refine IsS60.far ?_ NB0_196.out _) | exact HI0.out)), (by repeat (first | (with_reducible first | exact HK.out | apply KeepBut.set_ | apply keep_drewN | apply keep_drew | apply keep_alloc | refine keep_far ?_ GW169.out _ | refine keep_far ?_ GW176.out _ | refine keep_far ?_ GW196.out _) | exact HK.out)), (by repeat (first | (with_reducible first | exact HB.out | apply below_alloc | apply pw_below_drewN | apply below_drew1 | refine below_set ?_ (IsS60.ge HI0.out) | refine below_set ?_ GE169.out | refine below_set ?_ GE176.out | refine below_set ?_ GE196.out) | exact HB.out))⟩)
        ·skip
         rintro ⟨v185, v191⟩ w36 ⟨hS_, h0_, h1_, h2_, h3_, h4_, h5_, h6_⟩
         have n0_ : Aside0 (Kd.R (Kd.int .i64) 3 w36 w.heap.size (fun k_ => some k_ ≠ (v191 : Value).ownBlock) v185 y184) := ⟨h0_⟩
         have n1_ : Aside0 (Kd.R (Kd.int .i64) 3 w36 w.heap.size (fun k_ => some k_ ≠ (v185 : Value).ownBlock) v191 y190) := ⟨h1_⟩
         have n2_ : Aside0 (w36.heap[gb169]? = some (.cells #[.int .u16 0, .int .u16 0, .int .u8 0, .int .u8 0, .int .i64 0] 24 (0, 0))) := ⟨h2_⟩
         have n3_ : Aside0 (w36.heap[gb176]? = some (.cells #[.int .u16 x177000_15, .int .u8 x177001_15, .bool x177002_15] 34 (0, 0))) := ⟨h3_⟩
         have n4_ : Aside0 (IsS60 w0 w36 g s0_0 t188 t189) := ⟨h4_⟩
         have n5_ : Aside0 (KeepBut w w36 g none) := ⟨h5_⟩
         have n6_ : Aside0 (Below w0.heap.size w0 w36) := ⟨h6_⟩
         clear BK169
         clear BK176
         clear HI0
         clear HK
         clear HB
         clear h0_ h1_ h2_ h3_ h4_ h5_ h6_
         have HO186 := n0_
         have HO192 := n1_
         have BK169 := n2_
         have BK176 := n3_
         have HI0 := n4_
         have HK := n5_
         have HB := n6_
         clear n0_ n1_ n2_ n3_ n4_ n5_ n6_
         have hHeld : w36.cell? ⟨gb176, 0, none⟩ = some (.int .u16 x177000_15) ∧ w36.cell? ⟨gb176, 1, none⟩ = some (.int .u8 x177001_15) ∧ w36.cell? ⟨gb176, 2, none⟩ = some (.bool x177002_15) := hS_
         obtain ⟨Ao37, co37, eo37⟩ := Kd.R_slice HO192.out
         (first | subst eo37 | (injection eo37 with f1_ f2_ f3_; have f4_ := f1_.symm; have f5_ := f3_.symm; clear f1_ f2_ f3_; subst f4_; subst f5_))
         refine norm_ (a' := ?_) ?_ ?_
         rotate_left
         ·simp only [putAll, Act.put, List.setIfInBounds_toArray, List.set_cons_zero, List.set_cons_succ]
          rfl
         refine two_ (i := 10) (j := 12) (Ni := some 37) (Nj := some 6) #[true, true, true, true, true, true, true, true, true, true, true, false, false, false] #[true, true, true, true, true, true, true, true, true, true, false, false, true, false] rfl rfl rfl rfl (two_of HT_.out (by kernel_rfl)) (by decide) (by decide) (fun K hK => ?_) (fun K hK => ?_)
         ·skip
          refine goes_ Try.func35 (by kernel_rfl) rfl #[.pointer (some ⟨g, 0, none⟩), .slice Ao37 y190.length co37] (by rfl) rfl rfl (by (try simp only [List.map_toArray, List.map_cons, List.map_nil]); first | done | rfl | (simp only [List.length_drop, List.length_take]; rfl)) ?_
          with_reducible refine (spec_l01PickInt.calls g s0_0 t188 t189 _ _ y190 t193 t194 t195 w0 _ ?side1 ?side2 ?side3 ?side4 ?side5 A26.out).mono ?_
          (case side1 => repeat (first | (with_reducible first | exact HI0.out | apply IsS60.alloc | apply IsS60.drewN | apply IsS60.drew | apply IsS60.set_1 | apply IsS60.set_2 | refine IsS60.far ?_ NB0_169.out _ | refine IsS60.far ?_ NB0_176.out _) | exact HI0.out))
          (case side2 => repeat (first | (with_reducible first | exact HB.out | apply below_alloc | apply pw_below_drewN | apply below_drew1 | refine below_set ?_ (IsS60.ge HI0.out) | refine below_set ?_ GE169.out | refine below_set ?_ GE176.out) | exact HB.out))
          (case side3 => repeat (first | exact (Kd.R_reads' HO192.out).2.2 | (with_reducible refine Kd.C_alloc ?_ _) | (with_reducible refine Kd.C_drewN ?_ _) | (with_reducible refine Kd.C_drew ?_)))
          (case side4 => exact (Kd.R_reads' HO192.out).2.1)
          (case side5 => exact far_slice (IsS60.own_ne HI0.out HO192.out (by decide)))
          rintro e w38 ⟨rfl, hi, hb, hk⟩
          refine ⟨_, rfl, ?_⟩
          have n0_ := Aside0.mk (KeepBut.blk hk (g' := gb169) (o := .cells #[.int .u16 0, .int .u16 0, .int .u8 0, .int .u8 0, .int .i64 0] 24 (0, 0)) (by (with_reducible repeat (first | refine blk_drewN ?_ _ | refine blk_drew ?_ | refine blk_alloc ?_ _)); exact BK169.out) NB169_0.out (by simp))
          have n1_ := Aside0.mk (KeepBut.blk hk (g' := gb176) (o := .cells #[.int .u16 x177000_15, .int .u8 x177001_15, .bool x177002_15] 34 (0, 0)) (by (with_reducible repeat (first | refine blk_drewN ?_ _ | refine blk_drew ?_ | refine blk_alloc ?_ _)); exact BK176.out) NB176_0.out (by simp))
          have n2_ := Aside0.mk (Kd.R_mono (Kd.R_keep (IsS60.apart (show IsS60 w0 _ g s0_0 t188 t189 from by repeat (first | (with_reducible first | exact HI0.out | apply IsS60.alloc | apply IsS60.drewN | apply IsS60.drew | apply IsS60.set_1 | apply IsS60.set_2 | refine IsS60.far ?_ NB0_169.out _ | refine IsS60.far ?_ NB0_176.out _) | exact HI0.out)) (by (with_reducible repeat (first | apply Kd.R_alloc | apply Kd.R_drewN | apply Kd.R_drew)); exact HO186.out) (by decide)) hk (fun _ h => h.2)) (fun _ h => h.1))
          have n3_ := Aside0.mk (Kd.R_mono (Kd.R_keep (IsS60.apart (show IsS60 w0 _ g s0_0 t188 t189 from by repeat (first | (with_reducible first | exact HI0.out | apply IsS60.alloc | apply IsS60.drewN | apply IsS60.drew | apply IsS60.set_1 | apply IsS60.set_2 | refine IsS60.far ?_ NB0_169.out _ | refine IsS60.far ?_ NB0_176.out _) | exact HI0.out)) (by (with_reducible repeat (first | apply Kd.R_alloc | apply Kd.R_drewN | apply Kd.R_drew)); exact HO192.out) (by decide)) hk (fun _ h => h.2)) (fun _ h => h.1))
          have n4_ := Aside0.mk (KeepBut.trans (by repeat (first | (with_reducible first | exact HK.out | apply KeepBut.set_ | apply keep_drewN | apply keep_drew | apply keep_alloc | refine keep_far ?_ GW169.out _ | refine keep_far ?_ GW176.out _) | exact HK.out)) hk (.inl rfl))
          have n5_ := Aside0.mk (hb)
          have n6_ := Aside0.mk (hi)
          clear BK169
          clear BK176
          clear HO186
          clear HO192
          clear HK
          clear HB
          clear HI0
          have BK169 := n0_
          have BK176 := n1_
          have HO186 := n2_
          have HO192 := n3_
          have HK := n4_
          have HB := n5_
          have HI0 := n6_
          clear n0_ n1_ n2_ n3_ n4_ n5_ n6_
          (try clear hb)
          (try clear hb2)
          (try clear hk)
          (try clear hi)
          refine hK.out _ _ ⟨(blk_cell BK176.out 0).trans rfl, (blk_cell BK176.out 1).trans rfl, (blk_cell BK176.out 2).trans rfl⟩ (fun hHeld => ?_)
          clear hK K
          refine norm_ (a' := ?_) ?_ ?_
          rotate_left
          ·show Act.put _ (some 37) _ = _
           simp only [Act.put, List.setIfInBounds_toArray, List.set_cons_zero, List.set_cons_succ, i64_w, i32_w]
           rfl
          refine pure_ (i := 11) (N := some 38) (v := ?_) (a' := ?_) #[true, true, true, true, true, true, true, true, true, true, true, true, false, false] rfl rfl (any_of HT_.out (by kernel_rfl)) (fun _ _ _ h => h) (Or.inl ⟨by rfl, ?_⟩) ?_ ?_
          rotate_left
          ·intro w'
           go_simp
           with_reducible rfl
          rotate_left
          ·simp only [Act.put, List.setIfInBounds_toArray, List.set_cons_zero, List.set_cons_succ, i64_w, i32_w]
           rfl
          exact norm_ (by first | (simp only [putAll, Act.put, List.setIfInBounds_toArray, List.set_cons_zero, List.set_cons_succ]; done) | (simp only [putAll, Act.put, List.setIfInBounds_toArray, List.set_cons_zero, List.set_cons_succ]; rfl)) (hJ5_6_9_10 (v185, .slice Ao37 y190.length co37) _ ⟨hHeld, (by (with_reducible repeat (first | apply Kd.R_alloc | apply Kd.R_drewN | apply Kd.R_drew)); exact HO186.out), (by (with_reducible repeat (first | apply Kd.R_alloc | apply Kd.R_drewN | apply Kd.R_drew)); exact HO192.out), (by (with_reducible repeat (first | refine blk_drewN ?_ _ | refine blk_drew ?_ | refine blk_alloc ?_ _)); exact BK169.out), (by (with_reducible repeat (first | refine blk_drewN ?_ _ | refine blk_drew ?_ | refine blk_alloc ?_ _)); exact BK176.out), (by repeat (first | (with_reducible first | exact HI0.out | apply IsS60.alloc | apply IsS60.drewN | apply IsS60.drew | apply IsS60.set_1 | apply IsS60.set_2 | refine IsS60.far ?_ NB0_169.out _ | refine IsS60.far ?_ NB0_176.out _) | exact HI0.out)), (by repeat (first | (with_reducible first | exact HK.out | apply KeepBut.set_ | apply keep_drewN | apply keep_drew | apply keep_alloc | refine keep_far ?_ GW169.out _ | refine keep_far ?_ GW176.out _) | exact HK.out)), (by repeat (first | (with_reducible first | exact HB.out | apply below_alloc | apply pw_below_drewN | apply below_drew1 | refine below_set ?_ (IsS60.ge HI0.out) | refine below_set ?_ GE169.out | refine below_set ?_ GE176.out) | exact HB.out))⟩)
         ·skip
          refine box_step ?hg (N := 6) ?hd (cs := #[.int .u16 0, .int .u16 0, .int .u8 0, .int .u8 0, .int .i64 0]) (t := 24) ?hr ?_; (case hd => rfl); (case hg => rfl); (case hr => first | (go_simp; done) | (go_simp; rfl))
          intro gb196 hg w37 hbox hb
          have n0_ := Aside0.mk (Kd.R_below (by (with_reducible repeat (first | apply Kd.R_alloc | apply Kd.R_drewN | apply Kd.R_drew)); exact HO186.out) hb)
          have n1_ := Aside0.mk (Kd.R_below (by (with_reducible repeat (first | apply Kd.R_alloc | apply Kd.R_drewN | apply Kd.R_drew)); exact HO192.out) hb)
          have n2_ := Aside0.mk (blk_below (g := gb169) (o := .cells #[.int .u16 0, .int .u16 0, .int .u8 0, .int .u8 0, .int .i64 0] 24 (0, 0)) (by (with_reducible repeat (first | refine blk_drewN ?_ _ | refine blk_drew ?_ | refine blk_alloc ?_ _)); exact BK169.out) hb)
          have n3_ := Aside0.mk (blk_below (g := gb176) (o := .cells #[.int .u16 x177000_15, .int .u8 x177001_15, .bool x177002_15] 34 (0, 0)) (by (with_reducible repeat (first | refine blk_drewN ?_ _ | refine blk_drew ?_ | refine blk_alloc ?_ _)); exact BK176.out) hb)
          have n4_ := Aside0.mk (IsS60.below (by repeat (first | (with_reducible first | exact HI0.out | apply IsS60.alloc | apply IsS60.drewN | apply IsS60.drew | apply IsS60.set_1 | apply IsS60.set_2 | refine IsS60.far ?_ NB0_169.out _ | refine IsS60.far ?_ NB0_176.out _) | exact HI0.out)) hb)
          have n5_ := Aside0.mk (KeepBut.trans (by repeat (first | (with_reducible first | exact HK.out | apply KeepBut.set_ | apply keep_drewN | apply keep_drew | apply keep_alloc | refine keep_far ?_ GW169.out _ | refine keep_far ?_ GW176.out _) | exact HK.out)) (KeepBut.of_below hb g none) (.inl rfl))
          have n6_ := Aside0.mk (below_step (by repeat (first | (with_reducible first | exact HB.out | apply below_alloc | apply pw_below_drewN | apply below_drew1 | refine below_set ?_ (IsS60.ge HI0.out) | refine below_set ?_ GE169.out | refine below_set ?_ GE176.out) | exact HB.out)) hb)
          have n7_ := Aside0.mk (hbox)
          have n8_ := Aside0.mk ((by rw [hg]; exact (keep_size (w := w) (g := g) (row := none) (by repeat (first | (with_reducible first | exact HK.out | apply KeepBut.set_ | apply keep_drewN | apply keep_drew | apply keep_alloc | refine keep_far ?_ GW169.out _ | refine keep_far ?_ GW176.out _) | exact HK.out))) : w.heap.size ≤ gb196))
          have n9_ := Aside0.mk ((Nat.le_trans HW0.out (by rw [hg]; exact (keep_size (w := w) (g := g) (row := none) (by repeat (first | (with_reducible first | exact HK.out | apply KeepBut.set_ | apply keep_drewN | apply keep_drew | apply keep_alloc | refine keep_far ?_ GW169.out _ | refine keep_far ?_ GW176.out _) | exact HK.out))) : w.heap.size ≤ gb196) : w0.heap.size ≤ gb196))
          have n10_ := Aside0.mk ((by rw [hg]; exact Nat.ne_of_lt (blk_lt (g := gb169) (o := .cells #[.int .u16 0, .int .u16 0, .int .u8 0, .int .u8 0, .int .i64 0] 24 (0, 0)) (by (with_reducible repeat (first | refine blk_drewN ?_ _ | refine blk_drew ?_ | refine blk_alloc ?_ _)); exact BK169.out)) : gb169 ≠ gb196))
          have n11_ := Aside0.mk ((by rw [hg]; exact Nat.ne_of_gt (blk_lt (g := gb169) (o := .cells #[.int .u16 0, .int .u16 0, .int .u8 0, .int .u8 0, .int .i64 0] 24 (0, 0)) (by (with_reducible repeat (first | refine blk_drewN ?_ _ | refine blk_drew ?_ | refine blk_alloc ?_ _)); exact BK169.out)) : gb196 ≠ gb169))
          have n12_ := Aside0.mk ((by rw [hg]; exact Nat.ne_of_lt (blk_lt (g := gb176) (o := .cells #[.int .u16 x177000_15, .int .u8 x177001_15, .bool x177002_15] 34 (0, 0)) (by (with_reducible repeat (first | refine blk_drewN ?_ _ | refine blk_drew ?_ | refine blk_alloc ?_ _)); exact BK176.out)) : gb176 ≠ gb196))
          have n13_ := Aside0.mk ((by rw [hg]; exact Nat.ne_of_gt (blk_lt (g := gb176) (o := .cells #[.int .u16 x177000_15, .int .u8 x177001_15, .bool x177002_15] 34 (0, 0)) (by (with_reducible repeat (first | refine blk_drewN ?_ _ | refine blk_drew ?_ | refine blk_alloc ?_ _)); exact BK176.out)) : gb196 ≠ gb176))
          have n14_ := Aside0.mk ((by rw [hg]; exact Nat.ne_of_lt (IsS60.lt (show IsS60 w0 _ g s0_0 t188 t189 from by repeat (first | (with_reducible first | exact HI0.out | apply IsS60.alloc | apply IsS60.drewN | apply IsS60.drew | apply IsS60.set_1 | apply IsS60.set_2 | refine IsS60.far ?_ NB0_169.out _ | refine IsS60.far ?_ NB0_176.out _) | exact HI0.out))) : g ≠ gb196))
          have n15_ := Aside0.mk ((by rw [hg]; exact Nat.ne_of_gt (IsS60.lt (show IsS60 w0 _ g s0_0 t188 t189 from by repeat (first | (with_reducible first | exact HI0.out | apply IsS60.alloc | apply IsS60.drewN | apply IsS60.drew | apply IsS60.set_1 | apply IsS60.set_2 | refine IsS60.far ?_ NB0_169.out _ | refine IsS60.far ?_ NB0_176.out _) | exact HI0.out))) : gb196 ≠ g))
          clear HO186
          clear HO192
          clear BK169
          clear BK176
          clear HI0
          clear HK
          clear HB
          have HO186 := n0_
          have HO192 := n1_
          have BK169 := n2_
          have BK176 := n3_
          have HI0 := n4_
          have HK := n5_
          have HB := n6_
          have BK196 := n7_
          have GW196 := n8_
          have GE196 := n9_
          have NB169_196 := n10_
          have NB196_169 := n11_
          have NB176_196 := n12_
          have NB196_176 := n13_
          have NB0_196 := n14_
          have NB196_0 := n15_
          clear n0_ n1_ n2_ n3_ n4_ n5_ n6_ n7_ n8_ n9_ n10_ n11_ n12_ n13_ n14_ n15_
          clear hb hbox hg
          refine hK.out _ _ ⟨(blk_cell BK176.out 0).trans rfl, (blk_cell BK176.out 1).trans rfl, (blk_cell BK176.out 2).trans rfl⟩ (fun hHeld => ?_)
          clear hK K
          refine norm_ (a' := ?_) ?_ ?_
          rotate_left
          ·show Act.put _ (some 6) _ = _
           simp only [Act.put, List.setIfInBounds_toArray, List.set_cons_zero, List.set_cons_succ, i64_w, i32_w]
           rfl
          exact norm_ (by first | (simp only [putAll, Act.put, List.setIfInBounds_toArray, List.set_cons_zero, List.set_cons_succ]; done) | (simp only [putAll, Act.put, List.setIfInBounds_toArray, List.set_cons_zero, List.set_cons_succ]; rfl)) (hJ5_6_9_12 (v185, (.slice Ao37 y190.length co37), gb196) _ ⟨hHeld, (by (with_reducible repeat (first | apply Kd.R_alloc | apply Kd.R_drewN | apply Kd.R_drew)); exact HO186.out), (by (with_reducible repeat (first | apply Kd.R_alloc | apply Kd.R_drewN | apply Kd.R_drew)); exact HO192.out), (by (with_reducible repeat (first | refine blk_drewN ?_ _ | refine blk_drew ?_ | refine blk_alloc ?_ _)); exact BK169.out), (by (with_reducible repeat (first | refine blk_drewN ?_ _ | refine blk_drew ?_ | refine blk_alloc ?_ _)); exact BK176.out), (by (with_reducible repeat (first | refine blk_drewN ?_ _ | refine blk_drew ?_ | refine blk_alloc ?_ _)); exact BK196.out), GW196.out, GE196.out, NB0_196.out, NB196_0.out, NB169_196.out, NB196_169.out, NB176_196.out, NB196_176.out, (by repeat (first | (with_reducible first | exact HI0.out | apply IsS60.alloc | apply IsS60.drewN | apply IsS60.drew | apply IsS60.set_1 | apply IsS60.set_2 | refine IsS60.far ?_ NB0_169.out _ | refine IsS60.far ?_ NB0_176.out _ | refine IsS60.far ?_ NB0_196.out _) | exact HI0.out)), (by repeat (first | (with_reducible first | exact HK.out | apply KeepBut.set_ | apply keep_drewN | apply keep_drew | apply keep_alloc | refine keep_far ?_ GW169.out _ | refine keep_far ?_ GW176.out _ | refine keep_far ?_ GW196.out _) | exact HK.out)), (by repeat (first | (with_reducible first | exact HB.out | apply below_alloc | apply pw_below_drewN | apply below_drew1 | refine below_set ?_ (IsS60.ge HI0.out) | refine below_set ?_ GE169.out | refine below_set ?_ GE176.out | refine below_set ?_ GE196.out) | exact HB.out))⟩)
       ·skip
        rintro ⟨v185, v191, gb196⟩ w37 ⟨hS_, h0_, h1_, h2_, h3_, h4_, h5_, h6_, h7_, h8_, h9_, h10_, h11_, h12_, h13_, h14_, h15_⟩
        have n0_ : Aside0 (Kd.R (Kd.int .i64) 3 w37 w.heap.size (fun k_ => some k_ ≠ (v191 : Value).ownBlock) v185 y184) := ⟨h0_⟩
        have n1_ : Aside0 (Kd.R (Kd.int .i64) 3 w37 w.heap.size (fun k_ => some k_ ≠ (v185 : Value).ownBlock) v191 y190) := ⟨h1_⟩
        have n2_ : Aside0 (w37.heap[gb169]? = some (.cells #[.int .u16 0, .int .u16 0, .int .u8 0, .int .u8 0, .int .i64 0] 24 (0, 0))) := ⟨h2_⟩
        have n3_ : Aside0 (w37.heap[gb176]? = some (.cells #[.int .u16 x177000_15, .int .u8 x177001_15, .bool x177002_15] 34 (0, 0))) := ⟨h3_⟩
        have n4_ : Aside0 (w37.heap[gb196]? = some (.cells #[.int .u16 0, .int .u16 0, .int .u8 0, .int .u8 0, .int .i64 0] 24 (0, 0))) := ⟨h4_⟩
        have n5_ : Aside0 (w.heap.size ≤ gb196) := ⟨h5_⟩
        have n6_ : Aside0 (w0.heap.size ≤ gb196) := ⟨h6_⟩
        have n7_ : Aside0 (g ≠ gb196) := ⟨h7_⟩
        have n8_ : Aside0 (gb196 ≠ g) := ⟨h8_⟩
        have n9_ : Aside0 (gb169 ≠ gb196) := ⟨h9_⟩
        have n10_ : Aside0 (gb196 ≠ gb169) := ⟨h10_⟩
        have n11_ : Aside0 (gb176 ≠ gb196) := ⟨h11_⟩
        have n12_ : Aside0 (gb196 ≠ gb176) := ⟨h12_⟩
        have n13_ : Aside0 (IsS60 w0 w37 g s0_0 t188 t189) := ⟨h13_⟩
        have n14_ : Aside0 (KeepBut w w37 g none) := ⟨h14_⟩
        have n15_ : Aside0 (Below w0.heap.size w0 w37) := ⟨h15_⟩
        clear BK169
        clear BK176
        clear HI0
        clear HK
        clear HB
        clear h0_ h1_ h2_ h3_ h4_ h5_ h6_ h7_ h8_ h9_ h10_ h11_ h12_ h13_ h14_ h15_
        have HO186 := n0_
        have HO192 := n1_
        have BK169 := n2_
        have BK176 := n3_
        have BK196 := n4_
        have GW196 := n5_
        have GE196 := n6_
        have NB0_196 := n7_
        have NB196_0 := n8_
        have NB169_196 := n9_
        have NB196_169 := n10_
        have NB176_196 := n11_
        have NB196_176 := n12_
        have HI0 := n13_
        have HK := n14_
        have HB := n15_
        clear n0_ n1_ n2_ n3_ n4_ n5_ n6_ n7_ n8_ n9_ n10_ n11_ n12_ n13_ n14_ n15_
        have hHeld : w37.cell? ⟨gb176, 0, none⟩ = some (.int .u16 x177000_15) ∧ w37.cell? ⟨gb176, 1, none⟩ = some (.int .u8 x177001_15) ∧ w37.cell? ⟨gb176, 2, none⟩ = some (.bool x177002_15) := hS_
        obtain ⟨Ao38, co38, eo38⟩ := Kd.R_slice HO192.out
        (first | subst eo38 | (injection eo38 with f1_ f2_ f3_; have f4_ := f1_.symm; have f5_ := f3_.symm; clear f1_ f2_ f3_; subst f4_; subst f5_))
        refine norm_ (a' := ?_) ?_ ?_
        rotate_left
        ·simp only [putAll, Act.put, List.setIfInBounds_toArray, List.set_cons_zero, List.set_cons_succ]
         rfl
        refine one_ (i := 10) (N := some 37) #[true, true, true, true, true, true, true, true, true, true, true, false, true, false] rfl rfl (one_of HT_.out (by kernel_rfl)) (by decide) (fun K hK => ?_)
        refine goes_ Try.func35 (by kernel_rfl) rfl #[.pointer (some ⟨g, 0, none⟩), .slice Ao38 y190.length co38] (by rfl) rfl rfl (by (try simp only [List.map_toArray, List.map_cons, List.map_nil]); first | done | rfl | (simp only [List.length_drop, List.length_take]; rfl)) ?_
        with_reducible refine (spec_l01PickInt.calls g s0_0 t188 t189 _ _ y190 t193 t194 t195 w0 _ ?side1 ?side2 ?side3 ?side4 ?side5 A26.out).mono ?_
        (case side1 => repeat (first | (with_reducible first | exact HI0.out | apply IsS60.alloc | apply IsS60.drewN | apply IsS60.drew | apply IsS60.set_1 | apply IsS60.set_2 | refine IsS60.far ?_ NB0_169.out _ | refine IsS60.far ?_ NB0_176.out _ | refine IsS60.far ?_ NB0_196.out _) | exact HI0.out))
        (case side2 => repeat (first | (with_reducible first | exact HB.out | apply below_alloc | apply pw_below_drewN | apply below_drew1 | refine below_set ?_ (IsS60.ge HI0.out) | refine below_set ?_ GE169.out | refine below_set ?_ GE176.out | refine below_set ?_ GE196.out) | exact HB.out))
        (case side3 => repeat (first | exact (Kd.R_reads' HO192.out).2.2 | (with_reducible refine Kd.C_alloc ?_ _) | (with_reducible refine Kd.C_drewN ?_ _) | (with_reducible refine Kd.C_drew ?_)))
        (case side4 => exact (Kd.R_reads' HO192.out).2.1)
        (case side5 => exact far_slice (IsS60.own_ne HI0.out HO192.out (by decide)))
        rintro e w39 ⟨rfl, hi, hb, hk⟩
        refine ⟨_, rfl, ?_⟩
        have n0_ := Aside0.mk (KeepBut.blk hk (g' := gb169) (o := .cells #[.int .u16 0, .int .u16 0, .int .u8 0, .int .u8 0, .int .i64 0] 24 (0, 0)) (by (with_reducible repeat (first | refine blk_drewN ?_ _ | refine blk_drew ?_ | refine blk_alloc ?_ _)); exact BK169.out) NB169_0.out (by simp))
        have n1_ := Aside0.mk (KeepBut.blk hk (g' := gb176) (o := .cells #[.int .u16 x177000_15, .int .u8 x177001_15, .bool x177002_15] 34 (0, 0)) (by (with_reducible repeat (first | refine blk_drewN ?_ _ | refine blk_drew ?_ | refine blk_alloc ?_ _)); exact BK176.out) NB176_0.out (by simp))
        have n2_ := Aside0.mk (Kd.R_mono (Kd.R_keep (IsS60.apart (show IsS60 w0 _ g s0_0 t188 t189 from by repeat (first | (with_reducible first | exact HI0.out | apply IsS60.alloc | apply IsS60.drewN | apply IsS60.drew | apply IsS60.set_1 | apply IsS60.set_2 | refine IsS60.far ?_ NB0_169.out _ | refine IsS60.far ?_ NB0_176.out _ | refine IsS60.far ?_ NB0_196.out _) | exact HI0.out)) (by (with_reducible repeat (first | apply Kd.R_alloc | apply Kd.R_drewN | apply Kd.R_drew)); exact HO186.out) (by decide)) hk (fun _ h => h.2)) (fun _ h => h.1))
        have n3_ := Aside0.mk (Kd.R_mono (Kd.R_keep (IsS60.apart (show IsS60 w0 _ g s0_0 t188 t189 from by repeat (first | (with_reducible first | exact HI0.out | apply IsS60.alloc | apply IsS60.drewN | apply IsS60.drew | apply IsS60.set_1 | apply IsS60.set_2 | refine IsS60.far ?_ NB0_169.out _ | refine IsS60.far ?_ NB0_176.out _ | refine IsS60.far ?_ NB0_196.out _) | exact HI0.out)) (by (with_reducible repeat (first | apply Kd.R_alloc | apply Kd.R_drewN | apply Kd.R_drew)); exact HO192.out) (by decide)) hk (fun _ h => h.2)) (fun _ h => h.1))
        have n4_ := Aside0.mk (KeepBut.blk hk (g' := gb196) (o := .cells #[.int .u16 0, .int .u16 0, .int .u8 0, .int .u8 0, .int .i64 0] 24 (0, 0)) (by (with_reducible repeat (first | refine blk_drewN ?_ _ | refine blk_drew ?_ | refine blk_alloc ?_ _)); exact BK196.out) NB196_0.out (by simp))
        have n5_ := Aside0.mk (KeepBut.trans (by repeat (first | (with_reducible first | exact HK.out | apply KeepBut.set_ | apply keep_drewN | apply keep_drew | apply keep_alloc | refine keep_far ?_ GW169.out _ | refine keep_far ?_ GW176.out _ | refine keep_far ?_ GW196.out _) | exact HK.out)) hk (.inl rfl))
        have n6_ := Aside0.mk (hb)
        have n7_ := Aside0.mk (hi)
        clear BK169
        clear BK176
        clear HO186
        clear HO192
        clear BK196
        clear HK
        clear HB
        clear HI0
        have BK169 := n0_
        have BK176 := n1_
        have HO186 := n2_
        have HO192 := n3_
        have BK196 := n4_
        have HK := n5_
        have HB := n6_
        have HI0 := n7_
        clear n0_ n1_ n2_ n3_ n4_ n5_ n6_ n7_
        (try clear hb)
        (try clear hb2)
        (try clear hk)
        (try clear hi)
        refine hK.out _ _ ⟨(blk_cell BK176.out 0).trans rfl, (blk_cell BK176.out 1).trans rfl, (blk_cell BK176.out 2).trans rfl⟩ (fun hHeld => ?_)
        clear hK K
        refine norm_ (a' := ?_) ?_ ?_
        rotate_left
        ·show Act.put _ (some 37) _ = _
         simp only [Act.put, List.setIfInBounds_toArray, List.set_cons_zero, List.set_cons_succ, i64_w, i32_w]
         rfl
        refine pure_ (i := 11) (N := some 38) (v := ?_) (a' := ?_) #[true, true, true, true, true, true, true, true, true, true, true, true, true, false] rfl rfl (any_of HT_.out (by kernel_rfl)) (fun _ _ _ h => h) (Or.inl ⟨by rfl, ?_⟩) ?_ ?_
        rotate_left
        ·intro w'
         go_simp
         with_reducible rfl
        rotate_left
        ·simp only [Act.put, List.setIfInBounds_toArray, List.set_cons_zero, List.set_cons_succ, i64_w, i32_w]
         rfl
        exact norm_ (by first | (simp only [putAll, Act.put, List.setIfInBounds_toArray, List.set_cons_zero, List.set_cons_succ]; done) | (simp only [putAll, Act.put, List.setIfInBounds_toArray, List.set_cons_zero, List.set_cons_succ]; rfl)) (hJ5_6_9_10_12 (v185, .slice Ao38 y190.length co38, gb196) _ ⟨hHeld, (by (with_reducible repeat (first | apply Kd.R_alloc | apply Kd.R_drewN | apply Kd.R_drew)); exact HO186.out), (by (with_reducible repeat (first | apply Kd.R_alloc | apply Kd.R_drewN | apply Kd.R_drew)); exact HO192.out), (by (with_reducible repeat (first | refine blk_drewN ?_ _ | refine blk_drew ?_ | refine blk_alloc ?_ _)); exact BK169.out), (by (with_reducible repeat (first | refine blk_drewN ?_ _ | refine blk_drew ?_ | refine blk_alloc ?_ _)); exact BK176.out), (by (with_reducible repeat (first | refine blk_drewN ?_ _ | refine blk_drew ?_ | refine blk_alloc ?_ _)); exact BK196.out), GW196.out, GE196.out, NB0_196.out, NB196_0.out, NB169_196.out, NB196_169.out, NB176_196.out, NB196_176.out, (by repeat (first | (with_reducible first | exact HI0.out | apply IsS60.alloc | apply IsS60.drewN | apply IsS60.drew | apply IsS60.set_1 | apply IsS60.set_2 | refine IsS60.far ?_ NB0_169.out _ | refine IsS60.far ?_ NB0_176.out _ | refine IsS60.far ?_ NB0_196.out _) | exact HI0.out)), (by repeat (first | (with_reducible first | exact HK.out | apply KeepBut.set_ | apply keep_drewN | apply keep_drew | apply keep_alloc | refine keep_far ?_ GW169.out _ | refine keep_far ?_ GW176.out _ | refine keep_far ?_ GW196.out _) | exact HK.out)), (by repeat (first | (with_reducible first | exact HB.out | apply below_alloc | apply pw_below_drewN | apply below_drew1 | refine below_set ?_ (IsS60.ge HI0.out) | refine below_set ?_ GE169.out | refine below_set ?_ GE176.out | refine below_set ?_ GE196.out) | exact HB.out))⟩)
      ·skip
       rintro ⟨v185, v191⟩ w38 ⟨hS_, h0_, h1_, h2_, h3_, h4_, h5_, h6_⟩
       have n0_ : Aside0 (Kd.R (Kd.int .i64) 3 w38 w.heap.size (fun k_ => some k_ ≠ (v191 : Value).ownBlock) v185 y184) := ⟨h0_⟩
       have n1_ : Aside0 (Kd.R (Kd.int .i64) 3 w38 w.heap.size (fun k_ => some k_ ≠ (v185 : Value).ownBlock) v191 y190) := ⟨h1_⟩
       have n2_ : Aside0 (w38.heap[gb169]? = some (.cells #[.int .u16 0, .int .u16 0, .int .u8 0, .int .u8 0, .int .i64 0] 24 (0, 0))) := ⟨h2_⟩
       have n3_ : Aside0 (w38.heap[gb176]? = some (.cells #[.int .u16 x177000_15, .int .u8 x177001_15, .bool x177002_15] 34 (0, 0))) := ⟨h3_⟩
       have n4_ : Aside0 (IsS60 w0 w38 g s0_0 t194 t195) := ⟨h4_⟩
       have n5_ : Aside0 (KeepBut w w38 g none) := ⟨h5_⟩
       have n6_ : Aside0 (Below w0.heap.size w0 w38) := ⟨h6_⟩
       clear BK169
       clear BK176
       clear HI0
       clear HK
       clear HB
       clear h0_ h1_ h2_ h3_ h4_ h5_ h6_
       have HO186 := n0_
       have HO192 := n1_
       have BK169 := n2_
       have BK176 := n3_
       have HI0 := n4_
       have HK := n5_
       have HB := n6_
       clear n0_ n1_ n2_ n3_ n4_ n5_ n6_
       have hHeld : w38.cell? ⟨gb176, 0, none⟩ = some (.int .u16 x177000_15) ∧ w38.cell? ⟨gb176, 1, none⟩ = some (.int .u8 x177001_15) ∧ w38.cell? ⟨gb176, 2, none⟩ = some (.bool x177002_15) := hS_
       refine norm_ (a' := ?_) ?_ ?_
       rotate_left
       ·simp only [putAll, Act.put, List.setIfInBounds_toArray, List.set_cons_zero, List.set_cons_succ]
        rfl
       refine one_ (i := 12) (N := some 6) #[true, true, true, true, true, true, true, true, true, true, true, true, true, false] rfl rfl (one_of HT_.out (by kernel_rfl)) (by decide) (fun K hK => ?_)
       refine box_step ?hg (N := 6) ?hd (cs := #[.int .u16 0, .int .u16 0, .int .u8 0, .int .u8 0, .int .i64 0]) (t := 24) ?hr ?_; (case hd => rfl); (case hg => rfl); (case hr => first | (go_simp; done) | (go_simp; rfl))
       intro gb196 hg w39 hbox hb
       have n0_ := Aside0.mk (Kd.R_below (by (with_reducible repeat (first | apply Kd.R_alloc | apply Kd.R_drewN | apply Kd.R_drew)); exact HO186.out) hb)
       have n1_ := Aside0.mk (Kd.R_below (by (with_reducible repeat (first | apply Kd.R_alloc | apply Kd.R_drewN | apply Kd.R_drew)); exact HO192.out) hb)
       have n2_ := Aside0.mk (blk_below (g := gb169) (o := .cells #[.int .u16 0, .int .u16 0, .int .u8 0, .int .u8 0, .int .i64 0] 24 (0, 0)) (by (with_reducible repeat (first | refine blk_drewN ?_ _ | refine blk_drew ?_ | refine blk_alloc ?_ _)); exact BK169.out) hb)
       have n3_ := Aside0.mk (blk_below (g := gb176) (o := .cells #[.int .u16 x177000_15, .int .u8 x177001_15, .bool x177002_15] 34 (0, 0)) (by (with_reducible repeat (first | refine blk_drewN ?_ _ | refine blk_drew ?_ | refine blk_alloc ?_ _)); exact BK176.out) hb)
       have n4_ := Aside0.mk (IsS60.below (by repeat (first | (with_reducible first | exact HI0.out | apply IsS60.alloc | apply IsS60.drewN | apply IsS60.drew | apply IsS60.set_1 | apply IsS60.set_2 | refine IsS60.far ?_ NB0_169.out _ | refine IsS60.far ?_ NB0_176.out _) | exact HI0.out)) hb)
       have n5_ := Aside0.mk (KeepBut.trans (by repeat (first | (with_reducible first | exact HK.out | apply KeepBut.set_ | apply keep_drewN | apply keep_drew | apply keep_alloc | refine keep_far ?_ GW169.out _ | refine keep_far ?_ GW176.out _) | exact HK.out)) (KeepBut.of_below hb g none) (.inl rfl))
       have n6_ := Aside0.mk (below_step (by repeat (first | (with_reducible first | exact HB.out | apply below_alloc | apply pw_below_drewN | apply below_drew1 | refine below_set ?_ (IsS60.ge HI0.out) | refine below_set ?_ GE169.out | refine below_set ?_ GE176.out) | exact HB.out)) hb)
       have n7_ := Aside0.mk (hbox)
       have n8_ := Aside0.mk ((by rw [hg]; exact (keep_size (w := w) (g := g) (row := none) (by repeat (first | (with_reducible first | exact HK.out | apply KeepBut.set_ | apply keep_drewN | apply keep_drew | apply keep_alloc | refine keep_far ?_ GW169.out _ | refine keep_far ?_ GW176.out _) | exact HK.out))) : w.heap.size ≤ gb196))
       have n9_ := Aside0.mk ((Nat.le_trans HW0.out (by rw [hg]; exact (keep_size (w := w) (g := g) (row := none) (by repeat (first | (with_reducible first | exact HK.out | apply KeepBut.set_ | apply keep_drewN | apply keep_drew | apply keep_alloc | refine keep_far ?_ GW169.out _ | refine keep_far ?_ GW176.out _) | exact HK.out))) : w.heap.size ≤ gb196) : w0.heap.size ≤ gb196))
       have n10_ := Aside0.mk ((by rw [hg]; exact Nat.ne_of_lt (blk_lt (g := gb169) (o := .cells #[.int .u16 0, .int .u16 0, .int .u8 0, .int .u8 0, .int .i64 0] 24 (0, 0)) (by (with_reducible repeat (first | refine blk_drewN ?_ _ | refine blk_drew ?_ | refine blk_alloc ?_ _)); exact BK169.out)) : gb169 ≠ gb196))
       have n11_ := Aside0.mk ((by rw [hg]; exact Nat.ne_of_gt (blk_lt (g := gb169) (o := .cells #[.int .u16 0, .int .u16 0, .int .u8 0, .int .u8 0, .int .i64 0] 24 (0, 0)) (by (with_reducible repeat (first | refine blk_drewN ?_ _ | refine blk_drew ?_ | refine blk_alloc ?_ _)); exact BK169.out)) : gb196 ≠ gb169))
       have n12_ := Aside0.mk ((by rw [hg]; exact Nat.ne_of_lt (blk_lt (g := gb176) (o := .cells #[.int .u16 x177000_15, .int .u8 x177001_15, .bool x177002_15] 34 (0, 0)) (by (with_reducible repeat (first | refine blk_drewN ?_ _ | refine blk_drew ?_ | refine blk_alloc ?_ _)); exact BK176.out)) : gb176 ≠ gb196))
       have n13_ := Aside0.mk ((by rw [hg]; exact Nat.ne_of_gt (blk_lt (g := gb176) (o := .cells #[.int .u16 x177000_15, .int .u8 x177001_15, .bool x177002_15] 34 (0, 0)) (by (with_reducible repeat (first | refine blk_drewN ?_ _ | refine blk_drew ?_ | refine blk_alloc ?_ _)); exact BK176.out)) : gb196 ≠ gb176))
       have n14_ := Aside0.mk ((by rw [hg]; exact Nat.ne_of_lt (IsS60.lt (show IsS60 w0 _ g s0_0 t194 t195 from by repeat (first | (with_reducible first | exact HI0.out | apply IsS60.alloc | apply IsS60.drewN | apply IsS60.drew | apply IsS60.set_1 | apply IsS60.set_2 | refine IsS60.far ?_ NB0_169.out _ | refine IsS60.far ?_ NB0_176.out _) | exact HI0.out))) : g ≠ gb196))
       have n15_ := Aside0.mk ((by rw [hg]; exact Nat.ne_of_gt (IsS60.lt (show IsS60 w0 _ g s0_0 t194 t195 from by repeat (first | (with_reducible first | exact HI0.out | apply IsS60.alloc | apply IsS60.drewN | apply IsS60.drew | apply IsS60.set_1 | apply IsS60.set_2 | refine IsS60.far ?_ NB0_169.out _ | refine IsS60.far ?_ NB0_176.out _) | exact HI0.out))) : gb196 ≠ g))
       clear HO186
       clear HO192
       clear BK169
       clear BK176
       clear HI0
       clear HK
       clear HB
       have HO186 := n0_
       have HO192 := n1_
       have BK169 := n2_
       have BK176 := n3_
       have HI0 := n4_
       have HK := n5_
       have HB := n6_
       have BK196 := n7_
       have GW196 := n8_
       have GE196 := n9_
       have NB169_196 := n10_
       have NB196_169 := n11_
       have NB176_196 := n12_
       have NB196_176 := n13_
       have NB0_196 := n14_
       have NB196_0 := n15_
       clear n0_ n1_ n2_ n3_ n4_ n5_ n6_ n7_ n8_ n9_ n10_ n11_ n12_ n13_ n14_ n15_
       clear hb hbox hg
       refine hK.out _ _ ⟨(blk_cell BK176.out 0).trans rfl, (blk_cell BK176.out 1).trans rfl, (blk_cell BK176.out 2).trans rfl⟩ (fun hHeld => ?_)
       clear hK K
       refine norm_ (a' := ?_) ?_ ?_
       rotate_left
       ·show Act.put _ (some 6) _ = _
        simp only [Act.put, List.setIfInBounds_toArray, List.set_cons_zero, List.set_cons_succ, i64_w, i32_w]
        rfl
       exact norm_ (by first | (simp only [putAll, Act.put, List.setIfInBounds_toArray, List.set_cons_zero, List.set_cons_succ]; done) | (simp only [putAll, Act.put, List.setIfInBounds_toArray, List.set_cons_zero, List.set_cons_succ]; rfl)) (hJ5_6_9_10_12 (v185, v191, gb196) _ ⟨hHeld, (by (with_reducible repeat (first | apply Kd.R_alloc | apply Kd.R_drewN | apply Kd.R_drew)); exact HO186.out), (by (with_reducible repeat (first | apply Kd.R_alloc | apply Kd.R_drewN | apply Kd.R_drew)); exact HO192.out), (by (with_reducible repeat (first | refine blk_drewN ?_ _ | refine blk_drew ?_ | refine blk_alloc ?_ _)); exact BK169.out), (by (with_reducible repeat (first | refine blk_drewN ?_ _ | refine blk_drew ?_ | refine blk_alloc ?_ _)); exact BK176.out), (by (with_reducible repeat (first | refine blk_drewN ?_ _ | refine blk_drew ?_ | refine blk_alloc ?_ _)); exact BK196.out), GW196.out, GE196.out, NB0_196.out, NB196_0.out, NB169_196.out, NB196_169.out, NB176_196.out, NB196_176.out, (by repeat (first | (with_reducible first | exact HI0.out | apply IsS60.alloc | apply IsS60.drewN | apply IsS60.drew | apply IsS60.set_1 | apply IsS60.set_2 | refine IsS60.far ?_ NB0_169.out _ | refine IsS60.far ?_ NB0_176.out _ | refine IsS60.far ?_ NB0_196.out _) | exact HI0.out)), (by repeat (first | (with_reducible first | exact HK.out | apply KeepBut.set_ | apply keep_drewN | apply keep_drew | apply keep_alloc | refine keep_far ?_ GW169.out _ | refine keep_far ?_ GW176.out _ | refine keep_far ?_ GW196.out _) | exact HK.out)), (by repeat (first | (with_reducible first | exact HB.out | apply below_alloc | apply pw_below_drewN | apply below_drew1 | refine below_set ?_ (IsS60.ge HI0.out) | refine below_set ?_ GE169.out | refine below_set ?_ GE176.out | refine below_set ?_ GE196.out) | exact HB.out))⟩)
     rintro ⟨v185, v191, gb196⟩ w39 ⟨hS_, h0_, h1_, h2_, h3_, h4_, h5_, h6_, h7_, h8_, h9_, h10_, h11_, h12_, h13_, h14_, h15_⟩
     have n0_ : Aside0 (Kd.R (Kd.int .i64) 3 w39 w.heap.size (fun k_ => some k_ ≠ (v191 : Value).ownBlock) v185 y184) := ⟨h0_⟩
     have n1_ : Aside0 (Kd.R (Kd.int .i64) 3 w39 w.heap.size (fun k_ => some k_ ≠ (v185 : Value).ownBlock) v191 y190) := ⟨h1_⟩
     have n2_ : Aside0 (w39.heap[gb169]? = some (.cells #[.int .u16 0, .int .u16 0, .int .u8 0, .int .u8 0, .int .i64 0] 24 (0, 0))) := ⟨h2_⟩
     have n3_ : Aside0 (w39.heap[gb176]? = some (.cells #[.int .u16 x177000_15, .int .u8 x177001_15, .bool x177002_15] 34 (0, 0))) := ⟨h3_⟩
     have n4_ : Aside0 (w39.heap[gb196]? = some (.cells #[.int .u16 0, .int .u16 0, .int .u8 0, .int .u8 0, .int .i64 0] 24 (0, 0))) := ⟨h4_⟩
     have n5_ : Aside0 (w.heap.size ≤ gb196) := ⟨h5_⟩
     have n6_ : Aside0 (w0.heap.size ≤ gb196) := ⟨h6_⟩
     have n7_ : Aside0 (g ≠ gb196) := ⟨h7_⟩
     have n8_ : Aside0 (gb196 ≠ g) := ⟨h8_⟩
     have n9_ : Aside0 (gb169 ≠ gb196) := ⟨h9_⟩
     have n10_ : Aside0 (gb196 ≠ gb169) := ⟨h10_⟩
     have n11_ : Aside0 (gb176 ≠ gb196) := ⟨h11_⟩
     have n12_ : Aside0 (gb196 ≠ gb176) := ⟨h12_⟩
     have n13_ : Aside0 (IsS60 w0 w39 g s0_0 t194 t195) := ⟨h13_⟩
     have n14_ : Aside0 (KeepBut w w39 g none) := ⟨h14_⟩
     have n15_ : Aside0 (Below w0.heap.size w0 w39) := ⟨h15_⟩
     clear BK169
     clear BK176
     clear HI0
     clear HK
     clear HB
     clear h0_ h1_ h2_ h3_ h4_ h5_ h6_ h7_ h8_ h9_ h10_ h11_ h12_ h13_ h14_ h15_
     have HO186 := n0_
     have HO192 := n1_
     have BK169 := n2_
     have BK176 := n3_
     have BK196 := n4_
     have GW196 := n5_
     have GE196 := n6_
     have NB0_196 := n7_
     have NB196_0 := n8_
     have NB169_196 := n9_
     have NB196_169 := n10_
     have NB176_196 := n11_
     have NB196_176 := n12_
     have HI0 := n13_
     have HK := n14_
     have HB := n15_
     clear n0_ n1_ n2_ n3_ n4_ n5_ n6_ n7_ n8_ n9_ n10_ n11_ n12_ n13_ n14_ n15_
     have hHeld : w39.cell? ⟨gb176, 0, none⟩ = some (.int .u16 x177000_15) ∧ w39.cell? ⟨gb176, 1, none⟩ = some (.int .u8 x177001_15) ∧ w39.cell? ⟨gb176, 2, none⟩ = some (.bool x177002_15) := hS_
     refine norm_ (a' := ?_) ?_ ?_
     rotate_left
     ·simp only [putAll, Act.put, List.setIfInBounds_toArray, List.set_cons_zero, List.set_cons_succ]
      rfl
     refine one_ (i := 13) (N := none) #[true, true, true, true, true, true, true, true, true, true, true, true, true, true] rfl rfl (one_of HT_.out (by kernel_rfl)) (by decide) (fun K hK => ?_)
     have hs40 : w39.cell? ⟨gb196, 0, none⟩ = some (.int .u16 0) := (blk_cell BK196.out 0).trans rfl
     have hfs40 := blk_frozen BK196.out 0
     have hns40_0 := NB169_196.out
     have hns40_1 := NB176_196.out
     have hms40_0 := NB196_169.out
     have hms40_1 := NB196_176.out
     have hs41 : w39.cell? ⟨gb196, 1, none⟩ = some (.int .u16 0) := (blk_cell BK196.out 1).trans rfl
     have hfs41 := blk_frozen BK196.out 1
     have hns41_0 := NB169_196.out
     have hns41_1 := NB176_196.out
     have hms41_0 := NB196_169.out
     have hms41_1 := NB196_176.out
     have hs42 : w39.cell? ⟨gb196, 2, none⟩ = some (.int .u8 0) := (blk_cell BK196.out 2).trans rfl
     have hfs42 := blk_frozen BK196.out 2
     have hns42_0 := NB169_196.out
     have hns42_1 := NB176_196.out
     have hms42_0 := NB196_169.out
     have hms42_1 := NB196_176.out
     have hs43 : w39.cell? ⟨gb196, 3, none⟩ = some (.int .u8 0) := (blk_cell BK196.out 3).trans rfl
     have hfs43 := blk_frozen BK196.out 3
     have hns43_0 := NB169_196.out
     have hns43_1 := NB176_196.out
     have hms43_0 := NB196_169.out
     have hms43_1 := NB196_176.out
     have hs44 : w39.cell? ⟨gb196, 4, none⟩ = some (.int .i64 0) := (blk_cell BK196.out 4).trans rfl
     have hfs44 := blk_frozen BK196.out 4
     have hns44_0 := NB169_196.out
     have hns44_1 := NB176_196.out
     have hms44_0 := NB196_169.out
     have hms44_1 := NB196_176.out
     refine skip_ (w1 := ?_) (by rfl) rfl ?_ ?_
     rotate_left
     ·go_simp
      rfl
     refine hK.out _ _ ⟨((cell_far (p := ⟨gb196, _, none⟩) NB176_196.out _).trans (((cell_far (p := ⟨gb196, _, none⟩) NB176_196.out _).trans (((cell_far (p := ⟨gb196, _, none⟩) NB176_196.out _).trans (((cell_far (p := ⟨gb196, _, none⟩) NB176_196.out _).trans (((cell_far (p := ⟨gb196, _, none⟩) NB176_196.out _).trans (hHeld.1)))))))))), ((cell_far (p := ⟨gb196, _, none⟩) NB176_196.out _).trans (((cell_far (p := ⟨gb196, _, none⟩) NB176_196.out _).trans (((cell_far (p := ⟨gb196, _, none⟩) NB176_196.out _).trans (((cell_far (p := ⟨gb196, _, none⟩) NB176_196.out _).trans (((cell_far (p := ⟨gb196, _, none⟩) NB176_196.out _).trans (hHeld.2.1)))))))))), ((cell_far (p := ⟨gb196, _, none⟩) NB176_196.out _).trans (((cell_far (p := ⟨gb196, _, none⟩) NB176_196.out _).trans (((cell_far (p := ⟨gb196, _, none⟩) NB176_196.out _).trans (((cell_far (p := ⟨gb196, _, none⟩) NB176_196.out _).trans (((cell_far (p := ⟨gb196, _, none⟩) NB176_196.out _).trans (hHeld.2.2))))))))))⟩ (fun hHeld => ?_)
     clear hK K
     refine done_ (done_of HT_.out (by kernel_rfl)) ?_
     have hnb45 := NB176_169.out
     have hnc45 := NB169_176.out
     have hnb46 := NB176_196.out
     have hnc46 := NB196_176.out
     have hnb47 := NB176_0.out
     have hnc47 := NB0_176.out
     have hcz48_0 : w39.cell? ⟨gb176, 0, none⟩ = some (.int .u16 x177000_15) := (blk_cell BK176.out 0).trans rfl
     have hcz48_1 : w39.cell? ⟨gb176, 1, none⟩ = some (.int .u8 x177001_15) := (blk_cell BK176.out 1).trans rfl
     have hcz48_2 : w39.cell? ⟨gb176, 2, none⟩ = some (.bool x177002_15) := (blk_cell BK176.out 2).trans rfl
     have hfz48_0 := blk_frozen BK176.out 0
     have hfz48_1 := blk_frozen BK176.out 1
     have hfz48_2 := blk_frozen BK176.out 2
     have hnb49 := NB196_169.out
     have hnc49 := NB169_196.out
     have hnb50 := NB196_0.out
     have hnc50 := NB0_196.out
     have hcz51_0 : w39.cell? ⟨gb196, 0, none⟩ = some (.int .u16 0) := (blk_cell BK196.out 0).trans rfl
     have hcz51_1 : w39.cell? ⟨gb196, 1, none⟩ = some (.int .u16 0) := (blk_cell BK196.out 1).trans rfl
     have hcz51_2 : w39.cell? ⟨gb196, 2, none⟩ = some (.int .u8 0) := (blk_cell BK196.out 2).trans rfl
     have hcz51_3 : w39.cell? ⟨gb196, 3, none⟩ = some (.int .u8 0) := (blk_cell BK196.out 3).trans rfl
     have hcz51_4 : w39.cell? ⟨gb196, 4, none⟩ = some (.int .i64 0) := (blk_cell BK196.out 4).trans rfl
     have hfz51_0 := blk_frozen BK196.out 0
     have hfz51_1 := blk_frozen BK196.out 1
     have hfz51_2 := blk_frozen BK196.out 2
     have hfz51_3 := blk_frozen BK196.out 3
     have hfz51_4 := blk_frozen BK196.out 4
     go_upto_if 46 with (first | ((with_reducible refine gate_callee (f := 24) rfl ?_); refine goesL_ (some 46) rfl rfl Try.func24 (by kernel_rfl) rfl #[.pointer (some ⟨g, 0, none⟩), .int .i64 2] rfl (by (try simp only [List.map_toArray, List.map_cons, List.map_nil]); first | done | rfl | (simp only [List.length_drop, List.length_take]; rfl)) ?_; (with_reducible refine (spec_l01Once.calls g s0_0 t194 t195 2 t197 t198 t199 w0 _ ?side1 ?side2 A27.out).mono ?_); (case side1 => repeat (first | (with_reducible first | exact HI0.out | apply IsS60.alloc | apply IsS60.drewN | apply IsS60.drew | apply IsS60.set_1 | apply IsS60.set_2 | refine IsS60.far ?_ NB0_169.out _ | refine IsS60.far ?_ NB0_176.out _ | refine IsS60.far ?_ NB0_196.out _) | exact HI0.out)); (case side2 => repeat (first | (with_reducible first | exact HB.out | apply below_alloc | apply pw_below_drewN | apply below_drew1 | refine below_set ?_ (IsS60.ge HI0.out) | refine below_set ?_ GE169.out | refine below_set ?_ GE176.out | refine below_set ?_ GE196.out) | exact HB.out)); rintro e w52 ⟨rfl, hi, hb, hk⟩; refine ⟨_, rfl, ?_⟩; have n0_ := Aside0.mk (KeepBut.blk hk (g' := gb169) (o := .cells #[.int .u16 0, .int .u16 0, .int .u8 0, .int .u8 0, .int .i64 0] 24 (0, 0)) (by (with_reducible repeat (first | refine blk_drewN ?_ _ | refine blk_drew ?_ | refine blk_alloc ?_ _)); refine blk_far ?_ NB169_196.out _; (with_reducible repeat (first | refine blk_drewN ?_ _ | refine blk_drew ?_ | refine blk_alloc ?_ _)); refine blk_far ?_ NB169_196.out _; (with_reducible repeat (first | refine blk_drewN ?_ _ | refine blk_drew ?_ | refine blk_alloc ?_ _)); refine blk_far ?_ NB169_196.out _; (with_reducible repeat (first | refine blk_drewN ?_ _ | refine blk_drew ?_ | refine blk_alloc ?_ _)); refine blk_far ?_ NB169_196.out _; (with_reducible repeat (first | refine blk_drewN ?_ _ | refine blk_drew ?_ | refine blk_alloc ?_ _)); refine blk_far ?_ NB169_196.out _; (with_reducible repeat (first | refine blk_drewN ?_ _ | refine blk_drew ?_ | refine blk_alloc ?_ _)); refine blk_far ?_ NB169_196.out _; (with_reducible repeat (first | refine blk_drewN ?_ _ | refine blk_drew ?_ | refine blk_alloc ?_ _)); exact BK169.out) NB169_0.out (by simp)); have n1_ := Aside0.mk (KeepBut.blk hk (g' := gb176) (o := .cells #[.int .u16 x177000_15, .int .u8 x177001_15, .bool x177002_15] 34 (0, 0)) (by (with_reducible repeat (first | refine blk_drewN ?_ _ | refine blk_drew ?_ | refine blk_alloc ?_ _)); refine blk_far ?_ NB176_196.out _; (with_reducible repeat (first | refine blk_drewN ?_ _ | refine blk_drew ?_ | refine blk_alloc ?_ _)); refine blk_far ?_ NB176_196.out _; (with_reducible repeat (first | refine blk_drewN ?_ _ | refine blk_drew ?_ | refine blk_alloc ?_ _)); refine blk_far ?_ NB176_196.out _; (with_reducible repeat (first | refine blk_drewN ?_ _ | refine blk_drew ?_ | refine blk_alloc ?_ _)); refine blk_far ?_ NB176_196.out _; (with_reducible repeat (first | refine blk_drewN ?_ _ | refine blk_drew ?_ | refine blk_alloc ?_ _)); refine blk_far ?_ NB176_196.out _; (with_reducible repeat (first | refine blk_drewN ?_ _ | refine blk_drew ?_ | refine blk_alloc ?_ _)); refine blk_far ?_ NB176_196.out _; (with_reducible repeat (first | refine blk_drewN ?_ _ | refine blk_drew ?_ | refine blk_alloc ?_ _)); exact BK176.out) NB176_0.out (by simp)); have n2_ := Aside0.mk (Kd.R_mono (Kd.R_keep (IsS60.apart (show IsS60 w0 _ g s0_0 t194 t195 from by repeat (first | (with_reducible first | exact HI0.out | apply IsS60.alloc | apply IsS60.drewN | apply IsS60.drew | apply IsS60.set_1 | apply IsS60.set_2 | refine IsS60.far ?_ NB0_169.out _ | refine IsS60.far ?_ NB0_176.out _ | refine IsS60.far ?_ NB0_196.out _) | exact HI0.out)) (by (with_reducible repeat (first | apply Kd.R_alloc | apply Kd.R_drewN | apply Kd.R_drew)); exact (Kd.R_mono (Kd.R_far (p := ⟨gb196, 3, none⟩) (Kd.R_far (p := ⟨gb196, 4, none⟩) (Kd.R_far (p := ⟨gb196, 3, none⟩) (Kd.R_far (p := ⟨gb196, 2, none⟩) (Kd.R_far (p := ⟨gb196, 1, none⟩) (Kd.R_far (p := ⟨gb196, 0, none⟩) (Kd.R_types HO186.out BK196.out (by decide)) (fun _ hk => hk.2) (.int .u16 x177000_15)) (fun _ hk => hk.2) (.int .u16 x177000_15)) (fun _ hk => hk.2) (.int .u8 ((t187) % 256))) (fun _ hk => hk.2) (.int .u8 0)) (fun _ hk => hk.2) (.int .i64 t193)) (fun _ hk => hk.2) (.int .u8 (Go.bits .and .u8 x177001_15 ((t187) % 256)))) (fun _ h_ => h_.1))) (by decide)) hk (fun _ h => h.2)) (fun _ h => h.1)); have n3_ := Aside0.mk (Kd.R_mono (Kd.R_keep (IsS60.apart (show IsS60 w0 _ g s0_0 t194 t195 from by repeat (first | (with_reducible first | exact HI0.out | apply IsS60.alloc | apply IsS60.drewN | apply IsS60.drew | apply IsS60.set_1 | apply IsS60.set_2 | refine IsS60.far ?_ NB0_169.out _ | refine IsS60.far ?_ NB0_176.out _ | refine IsS60.far ?_ NB0_196.out _) | exact HI0.out)) (by (with_reducible repeat (first | apply Kd.R_alloc | apply Kd.R_drewN | apply Kd.R_drew)); exact (Kd.R_mono (Kd.R_far (p := ⟨gb196, 3, none⟩) (Kd.R_far (p := ⟨gb196, 4, none⟩) (Kd.R_far (p := ⟨gb196, 3, none⟩) (Kd.R_far (p := ⟨gb196, 2, none⟩) (Kd.R_far (p := ⟨gb196, 1, none⟩) (Kd.R_far (p := ⟨gb196, 0, none⟩) (Kd.R_types HO192.out BK196.out (by decide)) (fun _ hk => hk.2) (.int .u16 x177000_15)) (fun _ hk => hk.2) (.int .u16 x177000_15)) (fun _ hk => hk.2) (.int .u8 ((t187) % 256))) (fun _ hk => hk.2) (.int .u8 0)) (fun _ hk => hk.2) (.int .i64 t193)) (fun _ hk => hk.2) (.int .u8 (Go.bits .and .u8 x177001_15 ((t187) % 256)))) (fun _ h_ => h_.1))) (by decide)) hk (fun _ h => h.2)) (fun _ h => h.1)); have n4_ := Aside0.mk (KeepBut.blk hk (g' := gb196) (o := .cells #[.int .u16 x177000_15, .int .u16 x177000_15, .int .u8 ((t187) % 256), .int .u8 (Go.bits .and .u8 x177001_15 ((t187) % 256)), .int .i64 t193] 24 (0, 0)) (by (with_reducible repeat (first | refine blk_drewN ?_ _ | refine blk_drew ?_ | refine blk_alloc ?_ _)); refine blk_put (cs := #[.int .u16 x177000_15, .int .u16 x177000_15, .int .u8 ((t187) % 256), .int .u8 0, .int .i64 t193]) ?_ 3 _ rfl; (with_reducible repeat (first | refine blk_drewN ?_ _ | refine blk_drew ?_ | refine blk_alloc ?_ _)); refine blk_put (cs := #[.int .u16 x177000_15, .int .u16 x177000_15, .int .u8 ((t187) % 256), .int .u8 0, .int .i64 0]) ?_ 4 _ rfl; (with_reducible repeat (first | refine blk_drewN ?_ _ | refine blk_drew ?_ | refine blk_alloc ?_ _)); refine blk_put (cs := #[.int .u16 x177000_15, .int .u16 x177000_15, .int .u8 ((t187) % 256), .int .u8 0, .int .i64 0]) ?_ 3 _ rfl; (with_reducible repeat (first | refine blk_drewN ?_ _ | refine blk_drew ?_ | refine blk_alloc ?_ _)); refine blk_put (cs := #[.int .u16 x177000_15, .int .u16 x177000_15, .int .u8 0, .int .u8 0, .int .i64 0]) ?_ 2 _ rfl; (with_reducible repeat (first | refine blk_drewN ?_ _ | refine blk_drew ?_ | refine blk_alloc ?_ _)); refine blk_put (cs := #[.int .u16 x177000_15, .int .u16 0, .int .u8 0, .int .u8 0, .int .i64 0]) ?_ 1 _ rfl; (with_reducible repeat (first | refine blk_drewN ?_ _ | refine blk_drew ?_ | refine blk_alloc ?_ _)); refine blk_put (cs := #[.int .u16 0, .int .u16 0, .int .u8 0, .int .u8 0, .int .i64 0]) ?_ 0 _ rfl; (with_reducible repeat (first | refine blk_drewN ?_ _ | refine blk_drew ?_ | refine blk_alloc ?_ _)); exact BK196.out) NB196_0.out (by simp)); have n5_ := Aside0.mk (KeepBut.trans (by repeat (first | (with_reducible first | exact HK.out | apply KeepBut.set_ | apply keep_drewN | apply keep_drew | apply keep_alloc | refine keep_far ?_ GW169.out _ | refine keep_far ?_ GW176.out _ | refine keep_far ?_ GW196.out _) | exact HK.out)) hk (.inl rfl)); have n6_ := Aside0.mk (hb); have n7_ := Aside0.mk (hi); clear BK169; clear BK176; clear HO186; clear HO192; clear BK196; clear HK; clear HB; clear HI0; have BK169 := n0_; have BK176 := n1_; have HO186 := n2_; have HO192 := n3_; have BK196 := n4_; have HK := n5_; have HB := n6_; have HI0 := n7_; clear n0_ n1_ n2_ n3_ n4_ n5_ n6_ n7_; (try clear hb); (try clear hb2); (try clear hk); (try clear hi)))
     (try simp only [Act.put, List.setIfInBounds_toArray, List.set_cons_zero, List.set_cons_succ])
     go_cut [] (fun wc => ∃ (kq : Nat) (x197000_27 : Int) (x197001_27 : Int), Aside0 (spec_l15Rule.j2 kq s0_0 t198 t199 x177000_15 x177001_15 x177002_15 x197000_27 x197001_27 ((t187) % 256) (Go.bits .and .u8 x177001_15 ((t187) % 256)) t193 = some (r1, r2, r3, r4, r5, r6, r7)) ∧ Aside0 (kq ≤ kj15) ∧ Aside0 (wc.heap[gb169]? = some (.cells #[.int .u16 0, .int .u16 0, .int .u8 0, .int .u8 0, .int .i64 0] 24 (0, 0))) ∧ Aside0 (wc.heap[gb176]? = some (.cells #[.int .u16 x177000_15, .int .u8 x177001_15, .bool x177002_15] 34 (0, 0))) ∧ Aside0 (wc.heap[gb196]? = some (.cells #[.int .u16 x197000_27, .int .u16 x197001_27, .int .u8 ((t187) % 256), .int .u8 (Go.bits .and .u8 x177001_15 ((t187) % 256)), .int .i64 t193] 24 (0, 0))) ∧ Aside0 (IsS60 w0 wc g s0_0 t198 t199) ∧ Aside0 (KeepBut w wc g none) ∧ Aside0 (Below w0.heap.size w0 wc))
     case first =>
      have H := HC28.out
      clear HC28
      by_cases c53 : t197 = true
      ·subst c53
       have H1 : (spec_l15Rule.j2 kj15 s0_0 t198 t199 x177000_15 x177001_15 x177002_15 (IntKind.u16.wrap ((IntKind.u16.wrap (Int.tdiv x177000_15 256)) * 256)) (IntKind.u16.wrap ((IntKind.u16.wrap ((IntKind.u16.wrap (Int.tdiv x177000_15 256)) * 256)) + 255)) ((t187) % 256) (Go.bits .and .u8 x177001_15 ((t187) % 256)) t193) = some (r1, r2, r3, r4, r5, r6, r7) := by rw [if_pos rfl] at H; exact H
       clear H
       have H := H1
       clear H1
       have H' := Aside0.mk H
       clear H
       have hnb54 := NB196_169.out
       have hnc54 := NB169_196.out
       have hnb55 := NB196_176.out
       have hnc55 := NB176_196.out
       have hnb56 := NB196_0.out
       have hnc56 := NB0_196.out
       have hcz57_0 : w52.cell? ⟨gb196, 0, none⟩ = some (.int .u16 x177000_15) := (blk_cell BK196.out 0).trans rfl
       have hcz57_1 : w52.cell? ⟨gb196, 1, none⟩ = some (.int .u16 x177000_15) := (blk_cell BK196.out 1).trans rfl
       have hcz57_2 : w52.cell? ⟨gb196, 2, none⟩ = some (.int .u8 ((t187) % 256)) := (blk_cell BK196.out 2).trans rfl
       have hcz57_3 : w52.cell? ⟨gb196, 3, none⟩ = some (.int .u8 (Go.bits .and .u8 x177001_15 ((t187) % 256))) := (blk_cell BK196.out 3).trans rfl
       have hcz57_4 : w52.cell? ⟨gb196, 4, none⟩ = some (.int .i64 t193) := (blk_cell BK196.out 4).trans rfl
       have hfz57_0 := blk_frozen BK196.out 0
       have hfz57_1 := blk_frozen BK196.out 1
       have hfz57_2 := blk_frozen BK196.out 2
       have hfz57_3 := blk_frozen BK196.out 3
       have hfz57_4 := blk_frozen BK196.out 4
       go_wp2
       go_meet
       case rel => exact ⟨_, (IntKind.u16.wrap ((IntKind.u16.wrap (Int.tdiv x177000_15 256)) * 256)), (IntKind.u16.wrap ((IntKind.u16.wrap ((IntKind.u16.wrap (Int.tdiv x177000_15 256)) * 256)) + 255)), H', ⟨by have := HJ4.out; have := HJ15.out; first | omega | exact Nat.le_refl _⟩, ⟨by (with_reducible repeat (first | refine blk_drewN ?_ _ | refine blk_drew ?_ | refine blk_alloc ?_ _)); refine blk_far ?_ NB169_196.out _; (with_reducible repeat (first | refine blk_drewN ?_ _ | refine blk_drew ?_ | refine blk_alloc ?_ _)); refine blk_far ?_ NB169_196.out _; (with_reducible repeat (first | refine blk_drewN ?_ _ | refine blk_drew ?_ | refine blk_alloc ?_ _)); exact BK169.out⟩, ⟨by (with_reducible repeat (first | refine blk_drewN ?_ _ | refine blk_drew ?_ | refine blk_alloc ?_ _)); refine blk_far ?_ NB176_196.out _; (with_reducible repeat (first | refine blk_drewN ?_ _ | refine blk_drew ?_ | refine blk_alloc ?_ _)); refine blk_far ?_ NB176_196.out _; (with_reducible repeat (first | refine blk_drewN ?_ _ | refine blk_drew ?_ | refine blk_alloc ?_ _)); exact BK176.out⟩, ⟨by (with_reducible repeat (first | refine blk_drewN ?_ _ | refine blk_drew ?_ | refine blk_alloc ?_ _)); refine blk_put (cs := #[.int .u16 (IntKind.u16.wrap ((IntKind.u16.wrap (Int.tdiv x177000_15 256)) * 256)), .int .u16 x177000_15, .int .u8 ((t187) % 256), .int .u8 (Go.bits .and .u8 x177001_15 ((t187) % 256)), .int .i64 t193]) ?_ 1 _ rfl; (with_reducible repeat (first | refine blk_drewN ?_ _ | refine blk_drew ?_ | refine blk_alloc ?_ _)); refine blk_put (cs := #[.int .u16 x177000_15, .int .u16 x177000_15, .int .u8 ((t187) % 256), .int .u8 (Go.bits .and .u8 x177001_15 ((t187) % 256)), .int .i64 t193]) ?_ 0 _ rfl; (with_reducible repeat (first | refine blk_drewN ?_ _ | refine blk_drew ?_ | refine blk_alloc ?_ _)); exact BK196.out⟩, ⟨by repeat (first | (with_reducible first | exact HI0.out | apply IsS60.alloc | apply IsS60.drewN | apply IsS60.drew | apply IsS60.set_1 | apply IsS60.set_2 | refine IsS60.far ?_ NB0_169.out _ | refine IsS60.far ?_ NB0_176.out _ | refine IsS60.far ?_ NB0_196.out _) | exact HI0.out)⟩, ⟨by repeat (first | (with_reducible first | exact HK.out | apply KeepBut.set_ | apply keep_drewN | apply keep_drew | apply keep_alloc | refine keep_far ?_ GW169.out _ | refine keep_far ?_ GW176.out _ | refine keep_far ?_ GW196.out _) | exact HK.out)⟩, ⟨by repeat (first | (with_reducible first | exact HB.out | apply below_alloc | apply pw_below_drewN | apply below_drew1 | refine below_set ?_ (IsS60.ge HI0.out) | refine below_set ?_ GE169.out | refine below_set ?_ GE176.out | refine below_set ?_ GE196.out) | exact HB.out)⟩⟩
      ·replace c53 := Bool.eq_false_iff.mpr c53
       subst c53
       have H1 : (spec_l15Rule.j2 kj15 s0_0 t198 t199 x177000_15 x177001_15 x177002_15 x177000_15 x177000_15 ((t187) % 256) (Go.bits .and .u8 x177001_15 ((t187) % 256)) t193) = some (r1, r2, r3, r4, r5, r6, r7) := by rw [if_neg (show ¬ (false = true) by decide)] at H; exact H
       clear H
       have H := H1
       clear H1
       have H' := Aside0.mk H
       clear H
       go_wp2
       go_meet
       case rel => exact ⟨_, (x177000_15), (x177000_15), H', ⟨by have := HJ4.out; have := HJ15.out; first | omega | exact Nat.le_refl _⟩, ⟨by (with_reducible repeat (first | refine blk_drewN ?_ _ | refine blk_drew ?_ | refine blk_alloc ?_ _)); exact BK169.out⟩, ⟨by (with_reducible repeat (first | refine blk_drewN ?_ _ | refine blk_drew ?_ | refine blk_alloc ?_ _)); exact BK176.out⟩, ⟨by (with_reducible repeat (first | refine blk_drewN ?_ _ | refine blk_drew ?_ | refine blk_alloc ?_ _)); exact BK196.out⟩, ⟨by repeat (first | (with_reducible first | exact HI0.out | apply IsS60.alloc | apply IsS60.drewN | apply IsS60.drew | apply IsS60.set_1 | apply IsS60.set_2 | refine IsS60.far ?_ NB0_169.out _ | refine IsS60.far ?_ NB0_176.out _ | refine IsS60.far ?_ NB0_196.out _) | exact HI0.out)⟩, ⟨by repeat (first | (with_reducible first | exact HK.out | apply KeepBut.set_ | apply keep_drewN | apply keep_drew | apply keep_alloc | refine keep_far ?_ GW169.out _ | refine keep_far ?_ GW176.out _ | refine keep_far ?_ GW196.out _) | exact HK.out)⟩, ⟨by repeat (first | (with_reducible first | exact HB.out | apply below_alloc | apply pw_below_drewN | apply below_drew1 | refine below_set ?_ (IsS60.ge HI0.out) | refine below_set ?_ GE169.out | refine below_set ?_ GE176.out | refine below_set ?_ GE196.out) | exact HB.out)⟩⟩
     case rest =>
      clear HC28
      try clear c2
      try clear p2
      try clear c3
      try clear c4
      try clear c5
      try clear c24
      try clear c35
      try clear c45
      try clear c46
      try clear c47
      try clear c49
      try clear c50
      try clear c53
      try clear c54
      try clear c55
      try clear c56
      try clear hcz48_0
      try clear hcz48_1
      try clear hcz48_2
      try clear hcz51_0
      try clear hcz51_1
      try clear hcz51_2
      try clear hcz51_3
      try clear hcz51_4
      try clear hcz57_0
      try clear hcz57_1
      try clear hcz57_2
      try clear hcz57_3
      try clear hcz57_4
      try clear hfz48_0
      try clear hfz48_1
      try clear hfz48_2
      try clear hfz51_0
      try clear hfz51_1
      try clear hfz51_2
      try clear hfz51_3
      try clear hfz51_4
      try clear hfz57_0
      try clear hfz57_1
      try clear hfz57_2
      try clear hfz57_3
      try clear hfz57_4
      obtain ⟨kq, x197000_27, x197001_27, HA, HJ27, BK169, BK176, BK196, HI0, HK, HB⟩ := hcut
      cases kq with
      | zero => exact absurd HA.out (by simp [spec_l15Rule.j2])
      | succ kj27 =>
       have H := HA.out
       clear HA
       simp only [spec_l15Rule.j2] at H
       by_cases c58 : x177002_15 = true
       ·subst c58
        have H1 : ((spec_l01Once.f s0_0 t198 t199 2).bind fun bt200 => (if bt200.1 = true then (some (x197000_27, x197001_27, ((t187) % 256), (Go.bits .and .u8 x177001_15 ((t187) % 256)), 1, bt200.2.1, bt200.2.2)) else (some (x197000_27, x197001_27, ((t187) % 256), (Go.bits .and .u8 x177001_15 ((t187) % 256)), t193, bt200.2.1, bt200.2.2)))) = some (r1, r2, r3, r4, r5, r6, r7) := by rw [if_pos rfl] at H; exact H
        clear H
        have H := H1
        clear H1
        replace H := Option.bind_eq_some_iff.mp H
        obtain ⟨⟨t200, t201, t202⟩, A590, H⟩ := H
        replace H : (if t200 = true then (some (x197000_27, x197001_27, ((t187) % 256), (Go.bits .and .u8 x177001_15 ((t187) % 256)), 1, t201, t202)) else (some (x197000_27, x197001_27, ((t187) % 256), (Go.bits .and .u8 x177001_15 ((t187) % 256)), t193, t201, t202))) = some (r1, r2, r3, r4, r5, r6, r7) := H
        have A59 := Aside0.mk A590
        clear A590
        by_cases c60 : t200 = true
        ·subst c60
         have H1 : (some (x197000_27, x197001_27, ((t187) % 256), (Go.bits .and .u8 x177001_15 ((t187) % 256)), 1, t201, t202)) = some (r1, r2, r3, r4, r5, r6, r7) := by rw [if_pos rfl] at H; exact H
         clear H
         have H := H1
         clear H1
         simp only [Option.some.injEq, Prod.mk.injEq] at H
         obtain ⟨rfl, rfl, rfl, rfl, rfl, rfl, rfl⟩ := H
         have hnb61 := NB176_169.out
         have hnc61 := NB169_176.out
         have hnb62 := NB176_196.out
         have hnc62 := NB196_176.out
         have hnb63 := NB176_0.out
         have hnc63 := NB0_176.out
         have hcz64_0 : wc.cell? ⟨gb176, 0, none⟩ = some (.int .u16 x177000_15) := (blk_cell BK176.out 0).trans rfl
         have hcz64_1 : wc.cell? ⟨gb176, 1, none⟩ = some (.int .u8 x177001_15) := (blk_cell BK176.out 1).trans rfl
         have hcz64_2 : wc.cell? ⟨gb176, 2, none⟩ = some (.bool true) := (blk_cell BK176.out 2).trans rfl
         have hfz64_0 := blk_frozen BK176.out 0
         have hfz64_1 := blk_frozen BK176.out 1
         have hfz64_2 := blk_frozen BK176.out 2
         go_wp2_with (first | (go_at_call 24; (with_reducible refine (spec_l01Once.calls g s0_0 t198 t199 2 true t201 t202 w0 _ ?side1 ?side2 A59.out).mono ?_); (case side1 => repeat (first | (with_reducible first | exact HI0.out | apply IsS60.alloc | apply IsS60.drewN | apply IsS60.drew | apply IsS60.set_1 | apply IsS60.set_2 | refine IsS60.far ?_ NB0_169.out _ | refine IsS60.far ?_ NB0_176.out _ | refine IsS60.far ?_ NB0_196.out _) | exact HI0.out)); (case side2 => repeat (first | (with_reducible first | exact HB.out | apply below_alloc | apply pw_below_drewN | apply below_drew1 | refine below_set ?_ (IsS60.ge HI0.out) | refine below_set ?_ GE169.out | refine below_set ?_ GE176.out | refine below_set ?_ GE196.out) | exact HB.out)); rintro e w65 ⟨rfl, hi, hb, hk⟩; have n0_ := Aside0.mk (KeepBut.blk hk (g' := gb169) (o := .cells #[.int .u16 0, .int .u16 0, .int .u8 0, .int .u8 0, .int .i64 0] 24 (0, 0)) (by (with_reducible repeat (first | refine blk_drewN ?_ _ | refine blk_drew ?_ | refine blk_alloc ?_ _)); exact BK169.out) NB169_0.out (by simp)); have n1_ := Aside0.mk (KeepBut.blk hk (g' := gb176) (o := .cells #[.int .u16 x177000_15, .int .u8 x177001_15, .bool true] 34 (0, 0)) (by (with_reducible repeat (first | refine blk_drewN ?_ _ | refine blk_drew ?_ | refine blk_alloc ?_ _)); exact BK176.out) NB176_0.out (by simp)); have n2_ := Aside0.mk (KeepBut.blk hk (g' := gb196) (o := .cells #[.int .u16 x197000_27, .int .u16 x197001_27, .int .u8 ((t187) % 256), .int .u8 (Go.bits .and .u8 x177001_15 ((t187) % 256)), .int .i64 t193] 24 (0, 0)) (by (with_reducible repeat (first | refine blk_drewN ?_ _ | refine blk_drew ?_ | refine blk_alloc ?_ _)); exact BK196.out) NB196_0.out (by simp)); have n3_ := Aside0.mk (KeepBut.trans (by repeat (first | (with_reducible first | exact HK.out | apply KeepBut.set_ | apply keep_drewN | apply keep_drew | apply keep_alloc | refine keep_far ?_ GW169.out _ | refine keep_far ?_ GW176.out _ | refine keep_far ?_ GW196.out _) | exact HK.out)) hk (.inl rfl)); have n4_ := Aside0.mk (hb); have n5_ := Aside0.mk (hi); clear BK169; clear BK176; clear BK196; clear HK; clear HB; clear HI0; have BK169 := n0_; have BK176 := n1_; have BK196 := n2_; have HK := n3_; have HB := n4_; have HI0 := n5_; clear n0_ n1_ n2_ n3_ n4_ n5_; (try clear hb); (try clear hb2); (try clear hk); (try clear hi); have hnb66 := NB196_169.out; have hnc66 := NB169_196.out; have hnb67 := NB196_0.out; have hnc67 := NB0_196.out; have hcz68_0 : w65.cell? ⟨gb196, 0, none⟩ = some (.int .u16 x197000_27) := (blk_cell BK196.out 0).trans rfl; have hcz68_1 : w65.cell? ⟨gb196, 1, none⟩ = some (.int .u16 x197001_27) := (blk_cell BK196.out 1).trans rfl; have hcz68_2 : w65.cell? ⟨gb196, 2, none⟩ = some (.int .u8 ((t187) % 256)) := (blk_cell BK196.out 2).trans rfl; have hcz68_3 : w65.cell? ⟨gb196, 3, none⟩ = some (.int .u8 (Go.bits .and .u8 x177001_15 ((t187) % 256))) := (blk_cell BK196.out 3).trans rfl; have hcz68_4 : w65.cell? ⟨gb196, 4, none⟩ = some (.int .i64 t193) := (blk_cell BK196.out 4).trans rfl; have hfz68_0 := blk_frozen BK196.out 0; have hfz68_1 := blk_frozen BK196.out 1; have hfz68_2 := blk_frozen BK196.out 2; have hfz68_3 := blk_frozen BK196.out 3; have hfz68_4 := blk_frozen BK196.out 4; have hnb69 := NB169_0.out; have hnc69 := NB0_169.out; have hcz70_0 : w65.cell? ⟨gb169, 0, none⟩ = some (.int .u16 0) := (blk_cell BK169.out 0).trans rfl; have hcz70_1 : w65.cell? ⟨gb169, 1, none⟩ = some (.int .u16 0) := (blk_cell BK169.out 1).trans rfl; have hcz70_2 : w65.cell? ⟨gb169, 2, none⟩ = some (.int .u8 0) := (blk_cell BK169.out 2).trans rfl; have hcz70_3 : w65.cell? ⟨gb169, 3, none⟩ = some (.int .u8 0) := (blk_cell BK169.out 3).trans rfl; have hcz70_4 : w65.cell? ⟨gb169, 4, none⟩ = some (.int .i64 0) := (blk_cell BK169.out 4).trans rfl; have hfz70_0 := blk_frozen BK169.out 0; have hfz70_1 := blk_frozen BK169.out 1; have hfz70_2 := blk_frozen BK169.out 2; have hfz70_3 := blk_frozen BK169.out 3; have hfz70_4 := blk_frozen BK169.out 4))
         refine bodyPost_ret (results_cell_row rfl _ _ gb169 24 #[.int .u16 x197000_27, .int .u16 x197001_27, .int .u8 ((t187) % 256), .int .u8 (Go.bits .and .u8 x177001_15 ((t187) % 256)), .int .i64 1] (0, 0) _ rfl (by (with_reducible repeat (first | refine blk_drewN ?_ _ | refine blk_drew ?_ | refine blk_alloc ?_ _)); refine blk_put (cs := #[.int .u16 x197000_27, .int .u16 x197001_27, .int .u8 ((t187) % 256), .int .u8 (Go.bits .and .u8 x177001_15 ((t187) % 256)), .int .i64 0]) ?_ 4 _ rfl; (with_reducible repeat (first | refine blk_drewN ?_ _ | refine blk_drew ?_ | refine blk_alloc ?_ _)); refine blk_put (cs := #[.int .u16 x197000_27, .int .u16 x197001_27, .int .u8 ((t187) % 256), .int .u8 0, .int .i64 0]) ?_ 3 _ rfl; (with_reducible repeat (first | refine blk_drewN ?_ _ | refine blk_drew ?_ | refine blk_alloc ?_ _)); refine blk_put (cs := #[.int .u16 x197000_27, .int .u16 x197001_27, .int .u8 0, .int .u8 0, .int .i64 0]) ?_ 2 _ rfl; (with_reducible repeat (first | refine blk_drewN ?_ _ | refine blk_drew ?_ | refine blk_alloc ?_ _)); refine blk_put (cs := #[.int .u16 x197000_27, .int .u16 0, .int .u8 0, .int .u8 0, .int .i64 0]) ?_ 1 _ rfl; (with_reducible repeat (first | refine blk_drewN ?_ _ | refine blk_drew ?_ | refine blk_alloc ?_ _)); refine blk_put (cs := #[.int .u16 0, .int .u16 0, .int .u8 0, .int .u8 0, .int .i64 0]) ?_ 0 _ rfl; (with_reducible repeat (first | refine blk_drewN ?_ _ | refine blk_drew ?_ | refine blk_alloc ?_ _)); refine blk_far ?_ NB169_196.out _; (with_reducible repeat (first | refine blk_drewN ?_ _ | refine blk_drew ?_ | refine blk_alloc ?_ _)); exact BK169.out) Try.underlying24 rfl (by kernel_rfl)) rfl ?_
         exact ⟨by first | rfl | (simp [errW_none, errW_some] <;> rfl) | (simp [*, errW_none, errW_some] <;> rfl), by repeat (first | (with_reducible first | exact HI0.out | apply IsS60.alloc | apply IsS60.drewN | apply IsS60.drew | apply IsS60.set_1 | apply IsS60.set_2 | refine IsS60.far ?_ NB0_169.out _ | refine IsS60.far ?_ NB0_176.out _ | refine IsS60.far ?_ NB0_196.out _) | exact HI0.out), by repeat (first | (with_reducible first | exact HB.out | apply below_alloc | apply pw_below_drewN | apply below_drew1 | refine below_set ?_ (IsS60.ge HI0.out) | refine below_set ?_ GE169.out | refine below_set ?_ GE176.out | refine below_set ?_ GE196.out) | exact HB.out), by repeat (first | (with_reducible first | exact HK.out | apply KeepBut.set_ | apply keep_drewN | apply keep_drew | apply keep_alloc | refine keep_far ?_ GW169.out _ | refine keep_far ?_ GW176.out _ | refine keep_far ?_ GW196.out _) | exact HK.out)⟩
        ·replace c60 := Bool.eq_false_iff.mpr c60
         subst c60
         have H1 : (some (x197000_27, x197001_27, ((t187) % 256), (Go.bits .and .u8 x177001_15 ((t187) % 256)), t193, t201, t202)) = some (r1, r2, r3, r4, r5, r6, r7) := by rw [if_neg (show ¬ (false = true) by decide)] at H; exact H
         clear H
         have H := H1
         clear H1
         simp only [Option.some.injEq, Prod.mk.injEq] at H
         obtain ⟨rfl, rfl, rfl, rfl, rfl, rfl, rfl⟩ := H
         have hnb71 := NB176_169.out
         have hnc71 := NB169_176.out
         have hnb72 := NB176_196.out
         have hnc72 := NB196_176.out
         have hnb73 := NB176_0.out
         have hnc73 := NB0_176.out
         have hcz74_0 : wc.cell? ⟨gb176, 0, none⟩ = some (.int .u16 x177000_15) := (blk_cell BK176.out 0).trans rfl
         have hcz74_1 : wc.cell? ⟨gb176, 1, none⟩ = some (.int .u8 x177001_15) := (blk_cell BK176.out 1).trans rfl
         have hcz74_2 : wc.cell? ⟨gb176, 2, none⟩ = some (.bool true) := (blk_cell BK176.out 2).trans rfl
         have hfz74_0 := blk_frozen BK176.out 0
         have hfz74_1 := blk_frozen BK176.out 1
         have hfz74_2 := blk_frozen BK176.out 2
         go_wp2_with (first | (go_at_call 24; (with_reducible refine (spec_l01Once.calls g s0_0 t198 t199 2 false t201 t202 w0 _ ?side1 ?side2 A59.out).mono ?_); (case side1 => repeat (first | (with_reducible first | exact HI0.out | apply IsS60.alloc | apply IsS60.drewN | apply IsS60.drew | apply IsS60.set_1 | apply IsS60.set_2 | refine IsS60.far ?_ NB0_169.out _ | refine IsS60.far ?_ NB0_176.out _ | refine IsS60.far ?_ NB0_196.out _) | exact HI0.out)); (case side2 => repeat (first | (with_reducible first | exact HB.out | apply below_alloc | apply pw_below_drewN | apply below_drew1 | refine below_set ?_ (IsS60.ge HI0.out) | refine below_set ?_ GE169.out | refine below_set ?_ GE176.out | refine below_set ?_ GE196.out) | exact HB.out)); rintro e w75 ⟨rfl, hi, hb, hk⟩; have n0_ := Aside0.mk (KeepBut.blk hk (g' := gb169) (o := .cells #[.int .u16 0, .int .u16 0, .int .u8 0, .int .u8 0, .int .i64 0] 24 (0, 0)) (by (with_reducible repeat (first | refine blk_drewN ?_ _ | refine blk_drew ?_ | refine blk_alloc ?_ _)); exact BK169.out) NB169_0.out (by simp)); have n1_ := Aside0.mk (KeepBut.blk hk (g' := gb176) (o := .cells #[.int .u16 x177000_15, .int .u8 x177001_15, .bool true] 34 (0, 0)) (by (with_reducible repeat (first | refine blk_drewN ?_ _ | refine blk_drew ?_ | refine blk_alloc ?_ _)); exact BK176.out) NB176_0.out (by simp)); have n2_ := Aside0.mk (KeepBut.blk hk (g' := gb196) (o := .cells #[.int .u16 x197000_27, .int .u16 x197001_27, .int .u8 ((t187) % 256), .int .u8 (Go.bits .and .u8 x177001_15 ((t187) % 256)), .int .i64 t193] 24 (0, 0)) (by (with_reducible repeat (first | refine blk_drewN ?_ _ | refine blk_drew ?_ | refine blk_alloc ?_ _)); exact BK196.out) NB196_0.out (by simp)); have n3_ := Aside0.mk (KeepBut.trans (by repeat (first | (with_reducible first | exact HK.out | apply KeepBut.set_ | apply keep_drewN | apply keep_drew | apply keep_alloc | refine keep_far ?_ GW169.out _ | refine keep_far ?_ GW176.out _ | refine keep_far ?_ GW196.out _) | exact HK.out)) hk (.inl rfl)); have n4_ := Aside0.mk (hb); have n5_ := Aside0.mk (hi); clear BK169; clear BK176; clear BK196; clear HK; clear HB; clear HI0; have BK169 := n0_; have BK176 := n1_; have BK196 := n2_; have HK := n3_; have HB := n4_; have HI0 := n5_; clear n0_ n1_ n2_ n3_ n4_ n5_; (try clear hb); (try clear hb2); (try clear hk); (try clear hi); have hnb76 := NB196_169.out; have hnc76 := NB169_196.out; have hnb77 := NB196_0.out; have hnc77 := NB0_196.out; have hcz78_0 : w75.cell? ⟨gb196, 0, none⟩ = some (.int .u16 x197000_27) := (blk_cell BK196.out 0).trans rfl; have hcz78_1 : w75.cell? ⟨gb196, 1, none⟩ = some (.int .u16 x197001_27) := (blk_cell BK196.out 1).trans rfl; have hcz78_2 : w75.cell? ⟨gb196, 2, none⟩ = some (.int .u8 ((t187) % 256)) := (blk_cell BK196.out 2).trans rfl; have hcz78_3 : w75.cell? ⟨gb196, 3, none⟩ = some (.int .u8 (Go.bits .and .u8 x177001_15 ((t187) % 256))) := (blk_cell BK196.out 3).trans rfl; have hcz78_4 : w75.cell? ⟨gb196, 4, none⟩ = some (.int .i64 t193) := (blk_cell BK196.out 4).trans rfl; have hfz78_0 := blk_frozen BK196.out 0; have hfz78_1 := blk_frozen BK196.out 1; have hfz78_2 := blk_frozen BK196.out 2; have hfz78_3 := blk_frozen BK196.out 3; have hfz78_4 := blk_frozen BK196.out 4; have hnb79 := NB169_0.out; have hnc79 := NB0_169.out; have hcz80_0 : w75.cell? ⟨gb169, 0, none⟩ = some (.int .u16 0) := (blk_cell BK169.out 0).trans rfl; have hcz80_1 : w75.cell? ⟨gb169, 1, none⟩ = some (.int .u16 0) := (blk_cell BK169.out 1).trans rfl; have hcz80_2 : w75.cell? ⟨gb169, 2, none⟩ = some (.int .u8 0) := (blk_cell BK169.out 2).trans rfl; have hcz80_3 : w75.cell? ⟨gb169, 3, none⟩ = some (.int .u8 0) := (blk_cell BK169.out 3).trans rfl; have hcz80_4 : w75.cell? ⟨gb169, 4, none⟩ = some (.int .i64 0) := (blk_cell BK169.out 4).trans rfl; have hfz80_0 := blk_frozen BK169.out 0; have hfz80_1 := blk_frozen BK169.out 1; have hfz80_2 := blk_frozen BK169.out 2; have hfz80_3 := blk_frozen BK169.out 3; have hfz80_4 := blk_frozen BK169.out 4))
         refine bodyPost_ret (results_cell_row rfl _ _ gb169 24 #[.int .u16 x197000_27, .int .u16 x197001_27, .int .u8 ((t187) % 256), .int .u8 (Go.bits .and .u8 x177001_15 ((t187) % 256)), .int .i64 t193] (0, 0) _ rfl (by (with_reducible repeat (first | refine blk_drewN ?_ _ | refine blk_drew ?_ | refine blk_alloc ?_ _)); refine blk_put (cs := #[.int .u16 x197000_27, .int .u16 x197001_27, .int .u8 ((t187) % 256), .int .u8 (Go.bits .and .u8 x177001_15 ((t187) % 256)), .int .i64 0]) ?_ 4 _ rfl; (with_reducible repeat (first | refine blk_drewN ?_ _ | refine blk_drew ?_ | refine blk_alloc ?_ _)); refine blk_put (cs := #[.int .u16 x197000_27, .int .u16 x197001_27, .int .u8 ((t187) % 256), .int .u8 0, .int .i64 0]) ?_ 3 _ rfl; (with_reducible repeat (first | refine blk_drewN ?_ _ | refine blk_drew ?_ | refine blk_alloc ?_ _)); refine blk_put (cs := #[.int .u16 x197000_27, .int .u16 x197001_27, .int .u8 0, .int .u8 0, .int .i64 0]) ?_ 2 _ rfl; (with_reducible repeat (first | refine blk_drewN ?_ _ | refine blk_drew ?_ | refine blk_alloc ?_ _)); refine blk_put (cs := #[.int .u16 x197000_27, .int .u16 0, .int .u8 0, .int .u8 0, .int .i64 0]) ?_ 1 _ rfl; (with_reducible repeat (first | refine blk_drewN ?_ _ | refine blk_drew ?_ | refine blk_alloc ?_ _)); refine blk_put (cs := #[.int .u16 0, .int .u16 0, .int .u8 0, .int .u8 0, .int .i64 0]) ?_ 0 _ rfl; (with_reducible repeat (first | refine blk_drewN ?_ _ | refine blk_drew ?_ | refine blk_alloc ?_ _)); exact BK169.out) Try.underlying24 rfl (by kernel_rfl)) rfl ?_
         exact ⟨by first | rfl | (simp [errW_none, errW_some] <;> rfl) | (simp [*, errW_none, errW_some] <;> rfl), by repeat (first | (with_reducible first | exact HI0.out | apply IsS60.alloc | apply IsS60.drewN | apply IsS60.drew | apply IsS60.set_1 | apply IsS60.set_2 | refine IsS60.far ?_ NB0_169.out _ | refine IsS60.far ?_ NB0_176.out _ | refine IsS60.far ?_ NB0_196.out _) | exact HI0.out), by repeat (first | (with_reducible first | exact HB.out | apply below_alloc | apply pw_below_drewN | apply below_drew1 | refine below_set ?_ (IsS60.ge HI0.out) | refine below_set ?_ GE169.out | refine below_set ?_ GE176.out | refine below_set ?_ GE196.out) | exact HB.out), by repeat (first | (with_reducible first | exact HK.out | apply KeepBut.set_ | apply keep_drewN | apply keep_drew | apply keep_alloc | refine keep_far ?_ GW169.out _ | refine keep_far ?_ GW176.out _ | refine keep_far ?_ GW196.out _) | exact HK.out)⟩
       ·replace c58 := Bool.eq_false_iff.mpr c58
        subst c58
        have H1 : (some (x197000_27, x197001_27, ((t187) % 256), (Go.bits .and .u8 x177001_15 ((t187) % 256)), t193, t198, t199)) = some (r1, r2, r3, r4, r5, r6, r7) := by rw [if_neg (show ¬ (false = true) by decide)] at H; exact H
        clear H
        have H := H1
        clear H1
        simp only [Option.some.injEq, Prod.mk.injEq] at H
        obtain ⟨rfl, rfl, rfl, rfl, rfl, rfl, rfl⟩ := H
        have hnb81 := NB176_169.out
        have hnc81 := NB169_176.out
        have hnb82 := NB176_196.out
        have hnc82 := NB196_176.out
        have hnb83 := NB176_0.out
        have hnc83 := NB0_176.out
        have hcz84_0 : wc.cell? ⟨gb176, 0, none⟩ = some (.int .u16 x177000_15) := (blk_cell BK176.out 0).trans rfl
        have hcz84_1 : wc.cell? ⟨gb176, 1, none⟩ = some (.int .u8 x177001_15) := (blk_cell BK176.out 1).trans rfl
        have hcz84_2 : wc.cell? ⟨gb176, 2, none⟩ = some (.bool false) := (blk_cell BK176.out 2).trans rfl
        have hfz84_0 := blk_frozen BK176.out 0
        have hfz84_1 := blk_frozen BK176.out 1
        have hfz84_2 := blk_frozen BK176.out 2
        have hnb85 := NB196_169.out
        have hnc85 := NB169_196.out
        have hnb86 := NB196_0.out
        have hnc86 := NB0_196.out
        have hcz87_0 : wc.cell? ⟨gb196, 0, none⟩ = some (.int .u16 x197000_27) := (blk_cell BK196.out 0).trans rfl
        have hcz87_1 : wc.cell? ⟨gb196, 1, none⟩ = some (.int .u16 x197001_27) := (blk_cell BK196.out 1).trans rfl
        have hcz87_2 : wc.cell? ⟨gb196, 2, none⟩ = some (.int .u8 ((t187) % 256)) := (blk_cell BK196.out 2).trans rfl
        have hcz87_3 : wc.cell? ⟨gb196, 3, none⟩ = some (.int .u8 (Go.bits .and .u8 x177001_15 ((t187) % 256))) := (blk_cell BK196.out 3).trans rfl
        have hcz87_4 : wc.cell? ⟨gb196, 4, none⟩ = some (.int .i64 t193) := (blk_cell BK196.out 4).trans rfl
        have hfz87_0 := blk_frozen BK196.out 0
        have hfz87_1 := blk_frozen BK196.out 1
        have hfz87_2 := blk_frozen BK196.out 2
        have hfz87_3 := blk_frozen BK196.out 3
        have hfz87_4 := blk_frozen BK196.out 4
        have hnb88 := NB169_0.out
        have hnc88 := NB0_169.out
        have hcz89_0 : wc.cell? ⟨gb169, 0, none⟩ = some (.int .u16 0) := (blk_cell BK169.out 0).trans rfl
        have hcz89_1 : wc.cell? ⟨gb169, 1, none⟩ = some (.int .u16 0) := (blk_cell BK169.out 1).trans rfl
        have hcz89_2 : wc.cell? ⟨gb169, 2, none⟩ = some (.int .u8 0) := (blk_cell BK169.out 2).trans rfl
        have hcz89_3 : wc.cell? ⟨gb169, 3, none⟩ = some (.int .u8 0) := (blk_cell BK169.out 3).trans rfl
        have hcz89_4 : wc.cell? ⟨gb169, 4, none⟩ = some (.int .i64 0) := (blk_cell BK169.out 4).trans rfl
        have hfz89_0 := blk_frozen BK169.out 0
        have hfz89_1 := blk_frozen BK169.out 1
        have hfz89_2 := blk_frozen BK169.out 2
        have hfz89_3 := blk_frozen BK169.out 3
        have hfz89_4 := blk_frozen BK169.out 4
        go_wp2
        refine bodyPost_ret (results_cell_row rfl _ _ gb169 24 #[.int .u16 x197000_27, .int .u16 x197001_27, .int .u8 ((t187) % 256), .int .u8 (Go.bits .and .u8 x177001_15 ((t187) % 256)), .int .i64 t193] (0, 0) _ rfl (by (with_reducible repeat (first | refine blk_drewN ?_ _ | refine blk_drew ?_ | refine blk_alloc ?_ _)); refine blk_put (cs := #[.int .u16 x197000_27, .int .u16 x197001_27, .int .u8 ((t187) % 256), .int .u8 (Go.bits .and .u8 x177001_15 ((t187) % 256)), .int .i64 0]) ?_ 4 _ rfl; (with_reducible repeat (first | refine blk_drewN ?_ _ | refine blk_drew ?_ | refine blk_alloc ?_ _)); refine blk_put (cs := #[.int .u16 x197000_27, .int .u16 x197001_27, .int .u8 ((t187) % 256), .int .u8 0, .int .i64 0]) ?_ 3 _ rfl; (with_reducible repeat (first | refine blk_drewN ?_ _ | refine blk_drew ?_ | refine blk_alloc ?_ _)); refine blk_put (cs := #[.int .u16 x197000_27, .int .u16 x197001_27, .int .u8 0, .int .u8 0, .int .i64 0]) ?_ 2 _ rfl; (with_reducible repeat (first | refine blk_drewN ?_ _ | refine blk_drew ?_ | refine blk_alloc ?_ _)); refine blk_put (cs := #[.int .u16 x197000_27, .int .u16 0, .int .u8 0, .int .u8 0, .int .i64 0]) ?_ 1 _ rfl; (with_reducible repeat (first | refine blk_drewN ?_ _ | refine blk_drew ?_ | refine blk_alloc ?_ _)); refine blk_put (cs := #[.int .u16 0, .int .u16 0, .int .u8 0, .int .u8 0, .int .i64 0]) ?_ 0 _ rfl; (with_reducible repeat (first | refine blk_drewN ?_ _ | refine blk_drew ?_ | refine blk_alloc ?_ _)); exact BK169.out) Try.underlying24 rfl (by kernel_rfl)) rfl ?_
        exact ⟨by first | rfl | (simp [errW_none, errW_some] <;> rfl) | (simp [*, errW_none, errW_some] <;> rfl), by repeat (first | (with_reducible first | exact HI0.out | apply IsS60.alloc | apply IsS60.drewN | apply IsS60.drew | apply IsS60.set_1 | apply IsS60.set_2 | refine IsS60.far ?_ NB0_169.out _ | refine IsS60.far ?_ NB0_176.out _ | refine IsS60.far ?_ NB0_196.out _) | exact HI0.out), by repeat (first | (with_reducible first | exact HB.out | apply below_alloc | apply pw_below_drewN | apply below_drew1 | refine below_set ?_ (IsS60.ge HI0.out) | refine below_set ?_ GE169.out | refine below_set ?_ GE176.out | refine below_set ?_ GE196.out) | exact HB.out), by repeat (first | (with_reducible first | exact HK.out | apply KeepBut.set_ | apply keep_drewN | apply keep_drew | apply keep_alloc | refine keep_far ?_ GW169.out _ | refine keep_far ?_ GW176.out _ | refine keep_far ?_ GW196.out _) | exact HK.out)⟩

end Go.Proofs.Ytkngnnfjdmndeaa.MQ
