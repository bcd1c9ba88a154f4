-- Written by this session's own program (wip/myprint.py) over the kit's print of the translation. Lean checks it.
import Derived.Test.YtaclekdigolhkaaDoorMCx0
namespace Go.Proofs.YtaclekdigolhkaaDoor.MC
open Go.RowKit Go.Proofs.YtaclekdigolhkaaDoorW.PrintWords Go.Proofs.YtaclekdigolhkaaDoorW.PrintLast Go.Proofs.YtaclekdigolhkaaDoorW.PrintMore
attribute [local go_sem] max2_int min2_int max_two min_two max_three min_three max_four min_four   -- for this text's walks alone
set_option linter.unusedVariables false
set_option linter.unusedSimpArgs false

/-! ### impl_changed: function 32 -/
def impl_changed.f (k : Nat) (a0 : ByteArray) (a1 : Int) : Option (ByteArray) := if a0.toList = ([76, 68, 65] : List UInt8) then some (⟨#[65, 78, 90]⟩ : ByteArray) else if a0.toList = ([79, 82, 65] : List UInt8) then some (⟨#[65, 78, 90]⟩ : ByteArray) else if a0.toList = ([65, 78, 68] : List UInt8) then some (⟨#[65, 78, 90]⟩ : ByteArray) else if a0.toList = ([69, 79, 82] : List UInt8) then some (⟨#[65, 78, 90]⟩ : ByteArray) else if a0.toList = ([80, 76, 65] : List UInt8) then some (⟨#[65, 83, 78, 90]⟩ : ByteArray) else if a0.toList = ([76, 68, 88] : List UInt8) then some (⟨#[88, 78, 90]⟩ : ByteArray) else if a0.toList = ([73, 78, 88] : List UInt8) then some (⟨#[88, 78, 90]⟩ : ByteArray) else if a0.toList = ([68, 69, 88] : List UInt8) then some (⟨#[88, 78, 90]⟩ : ByteArray) else if a0.toList = ([84, 65, 88] : List UInt8) then some (⟨#[88, 78, 90]⟩ : ByteArray) else if a0.toList = ([84, 83, 88] : List UInt8) then some (⟨#[88, 78, 90]⟩ : ByteArray) else if a0.toList = ([76, 68, 89] : List UInt8) then some (⟨#[89, 78, 90]⟩ : ByteArray) else if a0.toList = ([73, 78, 89] : List UInt8) then some (⟨#[89, 78, 90]⟩ : ByteArray) else if a0.toList = ([68, 69, 89] : List UInt8) then some (⟨#[89, 78, 90]⟩ : ByteArray) else if a0.toList = ([84, 65, 89] : List UInt8) then some (⟨#[89, 78, 90]⟩ : ByteArray) else if a0.toList = ([84, 88, 65] : List UInt8) then some (⟨#[65, 78, 90]⟩ : ByteArray) else if a0.toList = ([84, 89, 65] : List UInt8) then some (⟨#[65, 78, 90]⟩ : ByteArray) else if a0.toList = ([65, 68, 67] : List UInt8) then some (⟨#[65, 78, 86, 90, 67]⟩ : ByteArray) else if a0.toList = ([83, 66, 67] : List UInt8) then some (⟨#[65, 78, 86, 90, 67]⟩ : ByteArray) else if a0.toList = ([67, 77, 80] : List UInt8) then some (⟨#[78, 90, 67]⟩ : ByteArray) else if a0.toList = ([67, 80, 88] : List UInt8) then some (⟨#[78, 90, 67]⟩ : ByteArray) else if a0.toList = ([67, 80, 89] : List UInt8) then some (⟨#[78, 90, 67]⟩ : ByteArray) else if a0.toList = ([66, 73, 84] : List UInt8) then some (⟨#[78, 86, 90]⟩ : ByteArray) else if a0.toList = ([73, 78, 67] : List UInt8) then some (⟨#[78, 90]⟩ : ByteArray) else if a0.toList = ([68, 69, 67] : List UInt8) then some (⟨#[78, 90]⟩ : ByteArray) else if a0.toList = ([65, 83, 76] : List UInt8) then (if a1 = 1 then some (⟨#[65, 78, 90, 67]⟩ : ByteArray) else some (⟨#[78, 90, 67]⟩ : ByteArray)) else if a0.toList = ([76, 83, 82] : List UInt8) then (if a1 = 1 then some (⟨#[65, 78, 90, 67]⟩ : ByteArray) else some (⟨#[78, 90, 67]⟩ : ByteArray)) else if a0.toList = ([82, 79, 76] : List UInt8) then (if a1 = 1 then some (⟨#[65, 78, 90, 67]⟩ : ByteArray) else some (⟨#[78, 90, 67]⟩ : ByteArray)) else if a0.toList = ([82, 79, 82] : List UInt8) then (if a1 = 1 then some (⟨#[65, 78, 90, 67]⟩ : ByteArray) else some (⟨#[78, 90, 67]⟩ : ByteArray)) else if a0.toList = ([84, 88, 83] : List UInt8) then some (⟨#[83]⟩ : ByteArray) else if a0.toList = ([74, 83, 82] : List UInt8) then some (⟨#[83]⟩ : ByteArray) else if a0.toList = ([82, 84, 83] : List UInt8) then some (⟨#[83]⟩ : ByteArray) else if a0.toList = ([80, 72, 65] : List UInt8) then some (⟨#[83]⟩ : ByteArray) else if a0.toList = ([80, 72, 80] : List UInt8) then some (⟨#[83]⟩ : ByteArray) else if a0.toList = ([66, 82, 75] : List UInt8) then some (⟨#[83, 73]⟩ : ByteArray) else if a0.toList = ([67, 76, 67] : List UInt8) then some (⟨#[67]⟩ : ByteArray) else if a0.toList = ([83, 69, 67] : List UInt8) then some (⟨#[67]⟩ : ByteArray) else if a0.toList = ([67, 76, 73] : List UInt8) then some (⟨#[73]⟩ : ByteArray) else if a0.toList = ([83, 69, 73] : List UInt8) then some (⟨#[73]⟩ : ByteArray) else if a0.toList = ([67, 76, 68] : List UInt8) then some (⟨#[68]⟩ : ByteArray) else if a0.toList = ([83, 69, 68] : List UInt8) then some (⟨#[68]⟩ : ByteArray) else if a0.toList = ([67, 76, 86] : List UInt8) then some (⟨#[86]⟩ : ByteArray) else if a0.toList = ([80, 76, 80] : List UInt8) then some (⟨#[83, 78, 86, 68, 73, 90, 67]⟩ : ByteArray) else if a0.toList = ([82, 84, 73] : List UInt8) then some (⟨#[83, 78, 86, 68, 73, 90, 67]⟩ : ByteArray) else some (⟨#[]⟩ : ByteArray)
theorem impl_changed.mono : ∀ a0 a1 k, LeO (impl_changed.f k a0 a1) (impl_changed.f (k + 1) a0 a1) := fun _ _ _ => LeO.refl _
set_option maxHeartbeats 16000000 in
set_option maxRecDepth 100000 in
theorem impl_changed.calls (k : Nat) (a0 : ByteArray) (a1 : Int) (r : ByteArray) (w : World) (h : impl_changed.f k a0 a1 = some r) :
    Calls Tryd.prog 32 #[.string a0, .int .i64 a1] w fun e w' => e = .returned (.string r) ∧ Below w.heap.size w w' := by
  unfold impl_changed.f at h
  have HB := Aside0.mk (Below.refl w.heap.size w)
  have H := Aside0.mk h
  clear h
  go_enter Tryd.func32, Tryd.ntmps32
  go_upto_if 6 with (fail)
  by_cases c0 : a0.toList = ([76, 68, 65] : List UInt8)
  · have h := H.out
    rw [if_pos c0] at h
    have b0 : (a0.toList == ([76, 68, 65] : List UInt8)) = true := beq_iff_eq.mpr c0
    clear H c0
    (try rw [b0])
    obtain rfl := Option.some.inj h
    go_wp2
    go_ret
    exact ⟨rfl, (by repeat (first | (with_reducible exact HB.out) | apply below_alloc | apply pw_below_drewN | apply below_drew1))⟩
  have h0_ := H.out
  rw [if_neg c0] at h0_
  clear H
  have H := Aside0.mk h0_
  clear h0_
  have b0 : (a0.toList == ([76, 68, 65] : List UInt8)) = false := beq_eq_false_iff_ne.mpr c0
  clear c0
  (try rw [b0])
  by_cases c1 : a0.toList = ([79, 82, 65] : List UInt8)
  · have h := H.out
    rw [if_pos c1] at h
    have b1 : (a0.toList == ([79, 82, 65] : List UInt8)) = true := beq_iff_eq.mpr c1
    clear H c1
    (try rw [b1])
    obtain rfl := Option.some.inj h
    go_wp2
    go_ret
    exact ⟨rfl, (by repeat (first | (with_reducible exact HB.out) | apply below_alloc | apply pw_below_drewN | apply below_drew1))⟩
  have h1_ := H.out
  rw [if_neg c1] at h1_
  clear H
  have H := Aside0.mk h1_
  clear h1_
  have b1 : (a0.toList == ([79, 82, 65] : List UInt8)) = false := beq_eq_false_iff_ne.mpr c1
  clear c1
  by_cases c2 : a0.toList = ([65, 78, 68] : List UInt8)
  · have h := H.out
    rw [if_pos c2] at h
    have b2 : (a0.toList == ([65, 78, 68] : List UInt8)) = true := beq_iff_eq.mpr c2
    clear H c2
    (try rw [b2])
    obtain rfl := Option.some.inj h
    go_wp2
    go_ret
    exact ⟨rfl, (by repeat (first | (with_reducible exact HB.out) | apply below_alloc | apply pw_below_drewN | apply below_drew1))⟩
  have h2_ := H.out
  rw [if_neg c2] at h2_
  clear H
  have H := Aside0.mk h2_
  clear h2_
  have b2 : (a0.toList == ([65, 78, 68] : List UInt8)) = false := beq_eq_false_iff_ne.mpr c2
  clear c2
  by_cases c3 : a0.toList = ([69, 79, 82] : List UInt8)
  · have h := H.out
    rw [if_pos c3] at h
    have b3 : (a0.toList == ([69, 79, 82] : List UInt8)) = true := beq_iff_eq.mpr c3
    clear H c3
    (try rw [b3])
    obtain rfl := Option.some.inj h
    go_wp2
    go_ret
    exact ⟨rfl, (by repeat (first | (with_reducible exact HB.out) | apply below_alloc | apply pw_below_drewN | apply below_drew1))⟩
  have h3_ := H.out
  rw [if_neg c3] at h3_
  clear H
  have H := Aside0.mk h3_
  clear h3_
  have b3 : (a0.toList == ([69, 79, 82] : List UInt8)) = false := beq_eq_false_iff_ne.mpr c3
  clear c3
  by_cases c4 : a0.toList = ([80, 76, 65] : List UInt8)
  · have h := H.out
    rw [if_pos c4] at h
    have b4 : (a0.toList == ([80, 76, 65] : List UInt8)) = true := beq_iff_eq.mpr c4
    clear H c4
    (try rw [b4])
    obtain rfl := Option.some.inj h
    go_wp2
    go_ret
    exact ⟨rfl, (by repeat (first | (with_reducible exact HB.out) | apply below_alloc | apply pw_below_drewN | apply below_drew1))⟩
  have h4_ := H.out
  rw [if_neg c4] at h4_
  clear H
  have H := Aside0.mk h4_
  clear h4_
  have b4 : (a0.toList == ([80, 76, 65] : List UInt8)) = false := beq_eq_false_iff_ne.mpr c4
  clear c4
  by_cases c5 : a0.toList = ([76, 68, 88] : List UInt8)
  · have h := H.out
    rw [if_pos c5] at h
    have b5 : (a0.toList == ([76, 68, 88] : List UInt8)) = true := beq_iff_eq.mpr c5
    clear H c5
    (try rw [b5])
    obtain rfl := Option.some.inj h
    go_wp2
    go_ret
    exact ⟨rfl, (by repeat (first | (with_reducible exact HB.out) | apply below_alloc | apply pw_below_drewN | apply below_drew1))⟩
  have h5_ := H.out
  rw [if_neg c5] at h5_
  clear H
  have H := Aside0.mk h5_
  clear h5_
  have b5 : (a0.toList == ([76, 68, 88] : List UInt8)) = false := beq_eq_false_iff_ne.mpr c5
  clear c5
  by_cases c6 : a0.toList = ([73, 78, 88] : List UInt8)
  · have h := H.out
    rw [if_pos c6] at h
    have b6 : (a0.toList == ([73, 78, 88] : List UInt8)) = true := beq_iff_eq.mpr c6
    clear H c6
    (try rw [b6])
    obtain rfl := Option.some.inj h
    go_wp2
    go_ret
    exact ⟨rfl, (by repeat (first | (with_reducible exact HB.out) | apply below_alloc | apply pw_below_drewN | apply below_drew1))⟩
  have h6_ := H.out
  rw [if_neg c6] at h6_
  clear H
  have H := Aside0.mk h6_
  clear h6_
  have b6 : (a0.toList == ([73, 78, 88] : List UInt8)) = false := beq_eq_false_iff_ne.mpr c6
  clear c6
  by_cases c7 : a0.toList = ([68, 69, 88] : List UInt8)
  · have h := H.out
    rw [if_pos c7] at h
    have b7 : (a0.toList == ([68, 69, 88] : List UInt8)) = true := beq_iff_eq.mpr c7
    clear H c7
    (try rw [b7])
    obtain rfl := Option.some.inj h
    go_wp2
    go_ret
    exact ⟨rfl, (by repeat (first | (with_reducible exact HB.out) | apply below_alloc | apply pw_below_drewN | apply below_drew1))⟩
  have h7_ := H.out
  rw [if_neg c7] at h7_
  clear H
  have H := Aside0.mk h7_
  clear h7_
  have b7 : (a0.toList == ([68, 69, 88] : List UInt8)) = false := beq_eq_false_iff_ne.mpr c7
  clear c7
  by_cases c8 : a0.toList = ([84, 65, 88] : List UInt8)
  · have h := H.out
    rw [if_pos c8] at h
    have b8 : (a0.toList == ([84, 65, 88] : List UInt8)) = true := beq_iff_eq.mpr c8
    clear H c8
    (try rw [b8])
    obtain rfl := Option.some.inj h
    go_wp2
    go_ret
    exact ⟨rfl, (by repeat (first | (with_reducible exact HB.out) | apply below_alloc | apply pw_below_drewN | apply below_drew1))⟩
  have h8_ := H.out
  rw [if_neg c8] at h8_
  clear H
  have H := Aside0.mk h8_
  clear h8_
  have b8 : (a0.toList == ([84, 65, 88] : List UInt8)) = false := beq_eq_false_iff_ne.mpr c8
  clear c8
  by_cases c9 : a0.toList = ([84, 83, 88] : List UInt8)
  · have h := H.out
    rw [if_pos c9] at h
    have b9 : (a0.toList == ([84, 83, 88] : List UInt8)) = true := beq_iff_eq.mpr c9
    clear H c9
    (try rw [b9])
    obtain rfl := Option.some.inj h
    go_wp2
    go_ret
    exact ⟨rfl, (by repeat (first | (with_reducible exact HB.out) | apply below_alloc | apply pw_below_drewN | apply below_drew1))⟩
  have h9_ := H.out
  rw [if_neg c9] at h9_
  clear H
  have H := Aside0.mk h9_
  clear h9_
  have b9 : (a0.toList == ([84, 83, 88] : List UInt8)) = false := beq_eq_false_iff_ne.mpr c9
  clear c9
  by_cases c10 : a0.toList = ([76, 68, 89] : List UInt8)
  · have h := H.out
    rw [if_pos c10] at h
    have b10 : (a0.toList == ([76, 68, 89] : List UInt8)) = true := beq_iff_eq.mpr c10
    clear H c10
    (try rw [b10])
    obtain rfl := Option.some.inj h
    go_wp2
    go_ret
    exact ⟨rfl, (by repeat (first | (with_reducible exact HB.out) | apply below_alloc | apply pw_below_drewN | apply below_drew1))⟩
  have h10_ := H.out
  rw [if_neg c10] at h10_
  clear H
  have H := Aside0.mk h10_
  clear h10_
  have b10 : (a0.toList == ([76, 68, 89] : List UInt8)) = false := beq_eq_false_iff_ne.mpr c10
  clear c10
  by_cases c11 : a0.toList = ([73, 78, 89] : List UInt8)
  · have h := H.out
    rw [if_pos c11] at h
    have b11 : (a0.toList == ([73, 78, 89] : List UInt8)) = true := beq_iff_eq.mpr c11
    clear H c11
    (try rw [b11])
    obtain rfl := Option.some.inj h
    go_wp2
    go_ret
    exact ⟨rfl, (by repeat (first | (with_reducible exact HB.out) | apply below_alloc | apply pw_below_drewN | apply below_drew1))⟩
  have h11_ := H.out
  rw [if_neg c11] at h11_
  clear H
  have H := Aside0.mk h11_
  clear h11_
  have b11 : (a0.toList == ([73, 78, 89] : List UInt8)) = false := beq_eq_false_iff_ne.mpr c11
  clear c11
  by_cases c12 : a0.toList = ([68, 69, 89] : List UInt8)
  · have h := H.out
    rw [if_pos c12] at h
    have b12 : (a0.toList == ([68, 69, 89] : List UInt8)) = true := beq_iff_eq.mpr c12
    clear H c12
    (try rw [b12])
    obtain rfl := Option.some.inj h
    go_wp2
    go_ret
    exact ⟨rfl, (by repeat (first | (with_reducible exact HB.out) | apply below_alloc | apply pw_below_drewN | apply below_drew1))⟩
  have h12_ := H.out
  rw [if_neg c12] at h12_
  clear H
  have H := Aside0.mk h12_
  clear h12_
  have b12 : (a0.toList == ([68, 69, 89] : List UInt8)) = false := beq_eq_false_iff_ne.mpr c12
  clear c12
  by_cases c13 : a0.toList = ([84, 65, 89] : List UInt8)
  · have h := H.out
    rw [if_pos c13] at h
    have b13 : (a0.toList == ([84, 65, 89] : List UInt8)) = true := beq_iff_eq.mpr c13
    clear H c13
    (try rw [b13])
    obtain rfl := Option.some.inj h
    go_wp2
    go_ret
    exact ⟨rfl, (by repeat (first | (with_reducible exact HB.out) | apply below_alloc | apply pw_below_drewN | apply below_drew1))⟩
  have h13_ := H.out
  rw [if_neg c13] at h13_
  clear H
  have H := Aside0.mk h13_
  clear h13_
  have b13 : (a0.toList == ([84, 65, 89] : List UInt8)) = false := beq_eq_false_iff_ne.mpr c13
  clear c13
  by_cases c14 : a0.toList = ([84, 88, 65] : List UInt8)
  · have h := H.out
    rw [if_pos c14] at h
    have b14 : (a0.toList == ([84, 88, 65] : List UInt8)) = true := beq_iff_eq.mpr c14
    clear H c14
    (try rw [b14])
    obtain rfl := Option.some.inj h
    go_wp2
    go_ret
    exact ⟨rfl, (by repeat (first | (with_reducible exact HB.out) | apply below_alloc | apply pw_below_drewN | apply below_drew1))⟩
  have h14_ := H.out
  rw [if_neg c14] at h14_
  clear H
  have H := Aside0.mk h14_
  clear h14_
  have b14 : (a0.toList == ([84, 88, 65] : List UInt8)) = false := beq_eq_false_iff_ne.mpr c14
  clear c14
  by_cases c15 : a0.toList = ([84, 89, 65] : List UInt8)
  · have h := H.out
    rw [if_pos c15] at h
    have b15 : (a0.toList == ([84, 89, 65] : List UInt8)) = true := beq_iff_eq.mpr c15
    clear H c15
    (try rw [b15])
    obtain rfl := Option.some.inj h
    go_wp2
    go_ret
    exact ⟨rfl, (by repeat (first | (with_reducible exact HB.out) | apply below_alloc | apply pw_below_drewN | apply below_drew1))⟩
  have h15_ := H.out
  rw [if_neg c15] at h15_
  clear H
  have H := Aside0.mk h15_
  clear h15_
  have b15 : (a0.toList == ([84, 89, 65] : List UInt8)) = false := beq_eq_false_iff_ne.mpr c15
  clear c15
  by_cases c16 : a0.toList = ([65, 68, 67] : List UInt8)
  · have h := H.out
    rw [if_pos c16] at h
    have b16 : (a0.toList == ([65, 68, 67] : List UInt8)) = true := beq_iff_eq.mpr c16
    clear H c16
    (try rw [b16])
    obtain rfl := Option.some.inj h
    go_wp2
    go_ret
    exact ⟨rfl, (by repeat (first | (with_reducible exact HB.out) | apply below_alloc | apply pw_below_drewN | apply below_drew1))⟩
  have h16_ := H.out
  rw [if_neg c16] at h16_
  clear H
  have H := Aside0.mk h16_
  clear h16_
  have b16 : (a0.toList == ([65, 68, 67] : List UInt8)) = false := beq_eq_false_iff_ne.mpr c16
  clear c16
  by_cases c17 : a0.toList = ([83, 66, 67] : List UInt8)
  · have h := H.out
    rw [if_pos c17] at h
    have b17 : (a0.toList == ([83, 66, 67] : List UInt8)) = true := beq_iff_eq.mpr c17
    clear H c17
    (try rw [b17])
    obtain rfl := Option.some.inj h
    go_wp2
    go_ret
    exact ⟨rfl, (by repeat (first | (with_reducible exact HB.out) | apply below_alloc | apply pw_below_drewN | apply below_drew1))⟩
  have h17_ := H.out
  rw [if_neg c17] at h17_
  clear H
  have H := Aside0.mk h17_
  clear h17_
  have b17 : (a0.toList == ([83, 66, 67] : List UInt8)) = false := beq_eq_false_iff_ne.mpr c17
  clear c17
  by_cases c18 : a0.toList = ([67, 77, 80] : List UInt8)
  · have h := H.out
    rw [if_pos c18] at h
    have b18 : (a0.toList == ([67, 77, 80] : List UInt8)) = true := beq_iff_eq.mpr c18
    clear H c18
    (try rw [b18])
    obtain rfl := Option.some.inj h
    go_wp2
    go_ret
    exact ⟨rfl, (by repeat (first | (with_reducible exact HB.out) | apply below_alloc | apply pw_below_drewN | apply below_drew1))⟩
  have h18_ := H.out
  rw [if_neg c18] at h18_
  clear H
  have H := Aside0.mk h18_
  clear h18_
  have b18 : (a0.toList == ([67, 77, 80] : List UInt8)) = false := beq_eq_false_iff_ne.mpr c18
  clear c18
  by_cases c19 : a0.toList = ([67, 80, 88] : List UInt8)
  · have h := H.out
    rw [if_pos c19] at h
    have b19 : (a0.toList == ([67, 80, 88] : List UInt8)) = true := beq_iff_eq.mpr c19
    clear H c19
    (try rw [b19])
    obtain rfl := Option.some.inj h
    go_wp2
    go_ret
    exact ⟨rfl, (by repeat (first | (with_reducible exact HB.out) | apply below_alloc | apply pw_below_drewN | apply below_drew1))⟩
  have h19_ := H.out
  rw [if_neg c19] at h19_
  clear H
  have H := Aside0.mk h19_
  clear h19_
  have b19 : (a0.toList == ([67, 80, 88] : List UInt8)) = false := beq_eq_false_iff_ne.mpr c19
  clear c19
  by_cases c20 : a0.toList = ([67, 80, 89] : List UInt8)
  · have h := H.out
    rw [if_pos c20] at h
    have b20 : (a0.toList == ([67, 80, 89] : List UInt8)) = true := beq_iff_eq.mpr c20
    clear H c20
    (try rw [b20])
    obtain rfl := Option.some.inj h
    go_wp2
    go_ret
    exact ⟨rfl, (by repeat (first | (with_reducible exact HB.out) | apply below_alloc | apply pw_below_drewN | apply below_drew1))⟩
  have h20_ := H.out
  rw [if_neg c20] at h20_
  clear H
  have H := Aside0.mk h20_
  clear h20_
  have b20 : (a0.toList == ([67, 80, 89] : List UInt8)) = false := beq_eq_false_iff_ne.mpr c20
  clear c20
  by_cases c21 : a0.toList = ([66, 73, 84] : List UInt8)
  · have h := H.out
    rw [if_pos c21] at h
    have b21 : (a0.toList == ([66, 73, 84] : List UInt8)) = true := beq_iff_eq.mpr c21
    clear H c21
    (try rw [b21])
    obtain rfl := Option.some.inj h
    go_wp2
    go_ret
    exact ⟨rfl, (by repeat (first | (with_reducible exact HB.out) | apply below_alloc | apply pw_below_drewN | apply below_drew1))⟩
  have h21_ := H.out
  rw [if_neg c21] at h21_
  clear H
  have H := Aside0.mk h21_
  clear h21_
  have b21 : (a0.toList == ([66, 73, 84] : List UInt8)) = false := beq_eq_false_iff_ne.mpr c21
  clear c21
  by_cases c22 : a0.toList = ([73, 78, 67] : List UInt8)
  · have h := H.out
    rw [if_pos c22] at h
    have b22 : (a0.toList == ([73, 78, 67] : List UInt8)) = true := beq_iff_eq.mpr c22
    clear H c22
    (try rw [b22])
    obtain rfl := Option.some.inj h
    go_wp2
    go_ret
    exact ⟨rfl, (by repeat (first | (with_reducible exact HB.out) | apply below_alloc | apply pw_below_drewN | apply below_drew1))⟩
  have h22_ := H.out
  rw [if_neg c22] at h22_
  clear H
  have H := Aside0.mk h22_
  clear h22_
  have b22 : (a0.toList == ([73, 78, 67] : List UInt8)) = false := beq_eq_false_iff_ne.mpr c22
  clear c22
  by_cases c23 : a0.toList = ([68, 69, 67] : List UInt8)
  · have h := H.out
    rw [if_pos c23] at h
    have b23 : (a0.toList == ([68, 69, 67] : List UInt8)) = true := beq_iff_eq.mpr c23
    clear H c23
    (try rw [b23])
    obtain rfl := Option.some.inj h
    go_wp2
    go_ret
    exact ⟨rfl, (by repeat (first | (with_reducible exact HB.out) | apply below_alloc | apply pw_below_drewN | apply below_drew1))⟩
  have h23_ := H.out
  rw [if_neg c23] at h23_
  clear H
  have H := Aside0.mk h23_
  clear h23_
  have b23 : (a0.toList == ([68, 69, 67] : List UInt8)) = false := beq_eq_false_iff_ne.mpr c23
  clear c23
  by_cases c24 : a0.toList = ([65, 83, 76] : List UInt8)
  · have h := H.out
    rw [if_pos c24] at h
    have b24 : (a0.toList == ([65, 83, 76] : List UInt8)) = true := beq_iff_eq.mpr c24
    clear H c24
    (try rw [b24])
    by_cases cm : a1 = 1
    · rw [if_pos cm] at h
      obtain rfl := Option.some.inj h
      have bm : (a1 == 1) = true := beq_iff_eq.mpr cm
      clear cm
      go_wp2
      go_ret
      exact ⟨rfl, (by repeat (first | (with_reducible exact HB.out) | apply below_alloc | apply pw_below_drewN | apply below_drew1))⟩
    · rw [if_neg cm] at h
      obtain rfl := Option.some.inj h
      have bm : (a1 == 1) = false := beq_eq_false_iff_ne.mpr cm
      clear cm
      go_wp2
      go_ret
      exact ⟨rfl, (by repeat (first | (with_reducible exact HB.out) | apply below_alloc | apply pw_below_drewN | apply below_drew1))⟩
  have h24_ := H.out
  rw [if_neg c24] at h24_
  clear H
  have H := Aside0.mk h24_
  clear h24_
  have b24 : (a0.toList == ([65, 83, 76] : List UInt8)) = false := beq_eq_false_iff_ne.mpr c24
  clear c24
  by_cases c25 : a0.toList = ([76, 83, 82] : List UInt8)
  · have h := H.out
    rw [if_pos c25] at h
    have b25 : (a0.toList == ([76, 83, 82] : List UInt8)) = true := beq_iff_eq.mpr c25
    clear H c25
    (try rw [b25])
    by_cases cm : a1 = 1
    · rw [if_pos cm] at h
      obtain rfl := Option.some.inj h
      have bm : (a1 == 1) = true := beq_iff_eq.mpr cm
      clear cm
      go_wp2
      go_ret
      exact ⟨rfl, (by repeat (first | (with_reducible exact HB.out) | apply below_alloc | apply pw_below_drewN | apply below_drew1))⟩
    · rw [if_neg cm] at h
      obtain rfl := Option.some.inj h
      have bm : (a1 == 1) = false := beq_eq_false_iff_ne.mpr cm
      clear cm
      go_wp2
      go_ret
      exact ⟨rfl, (by repeat (first | (with_reducible exact HB.out) | apply below_alloc | apply pw_below_drewN | apply below_drew1))⟩
  have h25_ := H.out
  rw [if_neg c25] at h25_
  clear H
  have H := Aside0.mk h25_
  clear h25_
  have b25 : (a0.toList == ([76, 83, 82] : List UInt8)) = false := beq_eq_false_iff_ne.mpr c25
  clear c25
  by_cases c26 : a0.toList = ([82, 79, 76] : List UInt8)
  · have h := H.out
    rw [if_pos c26] at h
    have b26 : (a0.toList == ([82, 79, 76] : List UInt8)) = true := beq_iff_eq.mpr c26
    clear H c26
    (try rw [b26])
    by_cases cm : a1 = 1
    · rw [if_pos cm] at h
      obtain rfl := Option.some.inj h
      have bm : (a1 == 1) = true := beq_iff_eq.mpr cm
      clear cm
      go_wp2
      go_ret
      exact ⟨rfl, (by repeat (first | (with_reducible exact HB.out) | apply below_alloc | apply pw_below_drewN | apply below_drew1))⟩
    · rw [if_neg cm] at h
      obtain rfl := Option.some.inj h
      have bm : (a1 == 1) = false := beq_eq_false_iff_ne.mpr cm
      clear cm
      go_wp2
      go_ret
      exact ⟨rfl, (by repeat (first | (with_reducible exact HB.out) | apply below_alloc | apply pw_below_drewN | apply below_drew1))⟩
  have h26_ := H.out
  rw [if_neg c26] at h26_
  clear H
  have H := Aside0.mk h26_
  clear h26_
  have b26 : (a0.toList == ([82, 79, 76] : List UInt8)) = false := beq_eq_false_iff_ne.mpr c26
  clear c26
  by_cases c27 : a0.toList = ([82, 79, 82] : List UInt8)
  · have h := H.out
    rw [if_pos c27] at h
    have b27 : (a0.toList == ([82, 79, 82] : List UInt8)) = true := beq_iff_eq.mpr c27
    clear H c27
    (try rw [b27])
    by_cases cm : a1 = 1
    · rw [if_pos cm] at h
      obtain rfl := Option.some.inj h
      have bm : (a1 == 1) = true := beq_iff_eq.mpr cm
      clear cm
      go_wp2
      go_ret
      exact ⟨rfl, (by repeat (first | (with_reducible exact HB.out) | apply below_alloc | apply pw_below_drewN | apply below_drew1))⟩
    · rw [if_neg cm] at h
      obtain rfl := Option.some.inj h
      have bm : (a1 == 1) = false := beq_eq_false_iff_ne.mpr cm
      clear cm
      go_wp2
      go_ret
      exact ⟨rfl, (by repeat (first | (with_reducible exact HB.out) | apply below_alloc | apply pw_below_drewN | apply below_drew1))⟩
  have h27_ := H.out
  rw [if_neg c27] at h27_
  clear H
  have H := Aside0.mk h27_
  clear h27_
  have b27 : (a0.toList == ([82, 79, 82] : List UInt8)) = false := beq_eq_false_iff_ne.mpr c27
  clear c27
  by_cases c28 : a0.toList = ([84, 88, 83] : List UInt8)
  · have h := H.out
    rw [if_pos c28] at h
    have b28 : (a0.toList == ([84, 88, 83] : List UInt8)) = true := beq_iff_eq.mpr c28
    clear H c28
    (try rw [b28])
    obtain rfl := Option.some.inj h
    go_wp2
    go_ret
    exact ⟨rfl, (by repeat (first | (with_reducible exact HB.out) | apply below_alloc | apply pw_below_drewN | apply below_drew1))⟩
  have h28_ := H.out
  rw [if_neg c28] at h28_
  clear H
  have H := Aside0.mk h28_
  clear h28_
  have b28 : (a0.toList == ([84, 88, 83] : List UInt8)) = false := beq_eq_false_iff_ne.mpr c28
  clear c28
  by_cases c29 : a0.toList = ([74, 83, 82] : List UInt8)
  · have h := H.out
    rw [if_pos c29] at h
    have b29 : (a0.toList == ([74, 83, 82] : List UInt8)) = true := beq_iff_eq.mpr c29
    clear H c29
    (try rw [b29])
    obtain rfl := Option.some.inj h
    go_wp2
    go_ret
    exact ⟨rfl, (by repeat (first | (with_reducible exact HB.out) | apply below_alloc | apply pw_below_drewN | apply below_drew1))⟩
  have h29_ := H.out
  rw [if_neg c29] at h29_
  clear H
  have H := Aside0.mk h29_
  clear h29_
  have b29 : (a0.toList == ([74, 83, 82] : List UInt8)) = false := beq_eq_false_iff_ne.mpr c29
  clear c29
  by_cases c30 : a0.toList = ([82, 84, 83] : List UInt8)
  · have h := H.out
    rw [if_pos c30] at h
    have b30 : (a0.toList == ([82, 84, 83] : List UInt8)) = true := beq_iff_eq.mpr c30
    clear H c30
    (try rw [b30])
    obtain rfl := Option.some.inj h
    go_wp2
    go_ret
    exact ⟨rfl, (by repeat (first | (with_reducible exact HB.out) | apply below_alloc | apply pw_below_drewN | apply below_drew1))⟩
  have h30_ := H.out
  rw [if_neg c30] at h30_
  clear H
  have H := Aside0.mk h30_
  clear h30_
  have b30 : (a0.toList == ([82, 84, 83] : List UInt8)) = false := beq_eq_false_iff_ne.mpr c30
  clear c30
  by_cases c31 : a0.toList = ([80, 72, 65] : List UInt8)
  · have h := H.out
    rw [if_pos c31] at h
    have b31 : (a0.toList == ([80, 72, 65] : List UInt8)) = true := beq_iff_eq.mpr c31
    clear H c31
    (try rw [b31])
    obtain rfl := Option.some.inj h
    go_wp2
    go_ret
    exact ⟨rfl, (by repeat (first | (with_reducible exact HB.out) | apply below_alloc | apply pw_below_drewN | apply below_drew1))⟩
  have h31_ := H.out
  rw [if_neg c31] at h31_
  clear H
  have H := Aside0.mk h31_
  clear h31_
  have b31 : (a0.toList == ([80, 72, 65] : List UInt8)) = false := beq_eq_false_iff_ne.mpr c31
  clear c31
  by_cases c32 : a0.toList = ([80, 72, 80] : List UInt8)
  · have h := H.out
    rw [if_pos c32] at h
    have b32 : (a0.toList == ([80, 72, 80] : List UInt8)) = true := beq_iff_eq.mpr c32
    clear H c32
    (try rw [b32])
    obtain rfl := Option.some.inj h
    go_wp2
    go_ret
    exact ⟨rfl, (by repeat (first | (with_reducible exact HB.out) | apply below_alloc | apply pw_below_drewN | apply below_drew1))⟩
  have h32_ := H.out
  rw [if_neg c32] at h32_
  clear H
  have H := Aside0.mk h32_
  clear h32_
  have b32 : (a0.toList == ([80, 72, 80] : List UInt8)) = false := beq_eq_false_iff_ne.mpr c32
  clear c32
  by_cases c33 : a0.toList = ([66, 82, 75] : List UInt8)
  · have h := H.out
    rw [if_pos c33] at h
    have b33 : (a0.toList == ([66, 82, 75] : List UInt8)) = true := beq_iff_eq.mpr c33
    clear H c33
    (try rw [b33])
    obtain rfl := Option.some.inj h
    go_wp2
    go_ret
    exact ⟨rfl, (by repeat (first | (with_reducible exact HB.out) | apply below_alloc | apply pw_below_drewN | apply below_drew1))⟩
  have h33_ := H.out
  rw [if_neg c33] at h33_
  clear H
  have H := Aside0.mk h33_
  clear h33_
  have b33 : (a0.toList == ([66, 82, 75] : List UInt8)) = false := beq_eq_false_iff_ne.mpr c33
  clear c33
  by_cases c34 : a0.toList = ([67, 76, 67] : List UInt8)
  · have h := H.out
    rw [if_pos c34] at h
    have b34 : (a0.toList == ([67, 76, 67] : List UInt8)) = true := beq_iff_eq.mpr c34
    clear H c34
    (try rw [b34])
    obtain rfl := Option.some.inj h
    go_wp2
    go_ret
    exact ⟨rfl, (by repeat (first | (with_reducible exact HB.out) | apply below_alloc | apply pw_below_drewN | apply below_drew1))⟩
  have h34_ := H.out
  rw [if_neg c34] at h34_
  clear H
  have H := Aside0.mk h34_
  clear h34_
  have b34 : (a0.toList == ([67, 76, 67] : List UInt8)) = false := beq_eq_false_iff_ne.mpr c34
  clear c34
  by_cases c35 : a0.toList = ([83, 69, 67] : List UInt8)
  · have h := H.out
    rw [if_pos c35] at h
    have b35 : (a0.toList == ([83, 69, 67] : List UInt8)) = true := beq_iff_eq.mpr c35
    clear H c35
    (try rw [b35])
    obtain rfl := Option.some.inj h
    go_wp2
    go_ret
    exact ⟨rfl, (by repeat (first | (with_reducible exact HB.out) | apply below_alloc | apply pw_below_drewN | apply below_drew1))⟩
  have h35_ := H.out
  rw [if_neg c35] at h35_
  clear H
  have H := Aside0.mk h35_
  clear h35_
  have b35 : (a0.toList == ([83, 69, 67] : List UInt8)) = false := beq_eq_false_iff_ne.mpr c35
  clear c35
  by_cases c36 : a0.toList = ([67, 76, 73] : List UInt8)
  · have h := H.out
    rw [if_pos c36] at h
    have b36 : (a0.toList == ([67, 76, 73] : List UInt8)) = true := beq_iff_eq.mpr c36
    clear H c36
    (try rw [b36])
    obtain rfl := Option.some.inj h
    go_wp2
    go_ret
    exact ⟨rfl, (by repeat (first | (with_reducible exact HB.out) | apply below_alloc | apply pw_below_drewN | apply below_drew1))⟩
  have h36_ := H.out
  rw [if_neg c36] at h36_
  clear H
  have H := Aside0.mk h36_
  clear h36_
  have b36 : (a0.toList == ([67, 76, 73] : List UInt8)) = false := beq_eq_false_iff_ne.mpr c36
  clear c36
  by_cases c37 : a0.toList = ([83, 69, 73] : List UInt8)
  · have h := H.out
    rw [if_pos c37] at h
    have b37 : (a0.toList == ([83, 69, 73] : List UInt8)) = true := beq_iff_eq.mpr c37
    clear H c37
    (try rw [b37])
    obtain rfl := Option.some.inj h
    go_wp2
    go_ret
    exact ⟨rfl, (by repeat (first | (with_reducible exact HB.out) | apply below_alloc | apply pw_below_drewN | apply below_drew1))⟩
  have h37_ := H.out
  rw [if_neg c37] at h37_
  clear H
  have H := Aside0.mk h37_
  clear h37_
  have b37 : (a0.toList == ([83, 69, 73] : List UInt8)) = false := beq_eq_false_iff_ne.mpr c37
  clear c37
  by_cases c38 : a0.toList = ([67, 76, 68] : List UInt8)
  · have h := H.out
    rw [if_pos c38] at h
    have b38 : (a0.toList == ([67, 76, 68] : List UInt8)) = true := beq_iff_eq.mpr c38
    clear H c38
    (try rw [b38])
    obtain rfl := Option.some.inj h
    go_wp2
    go_ret
    exact ⟨rfl, (by repeat (first | (with_reducible exact HB.out) | apply below_alloc | apply pw_below_drewN | apply below_drew1))⟩
  have h38_ := H.out
  rw [if_neg c38] at h38_
  clear H
  have H := Aside0.mk h38_
  clear h38_
  have b38 : (a0.toList == ([67, 76, 68] : List UInt8)) = false := beq_eq_false_iff_ne.mpr c38
  clear c38
  by_cases c39 : a0.toList = ([83, 69, 68] : List UInt8)
  · have h := H.out
    rw [if_pos c39] at h
    have b39 : (a0.toList == ([83, 69, 68] : List UInt8)) = true := beq_iff_eq.mpr c39
    clear H c39
    (try rw [b39])
    obtain rfl := Option.some.inj h
    go_wp2
    go_ret
    exact ⟨rfl, (by repeat (first | (with_reducible exact HB.out) | apply below_alloc | apply pw_below_drewN | apply below_drew1))⟩
  have h39_ := H.out
  rw [if_neg c39] at h39_
  clear H
  have H := Aside0.mk h39_
  clear h39_
  have b39 : (a0.toList == ([83, 69, 68] : List UInt8)) = false := beq_eq_false_iff_ne.mpr c39
  clear c39
  by_cases c40 : a0.toList = ([67, 76, 86] : List UInt8)
  · have h := H.out
    rw [if_pos c40] at h
    have b40 : (a0.toList == ([67, 76, 86] : List UInt8)) = true := beq_iff_eq.mpr c40
    clear H c40
    (try rw [b40])
    obtain rfl := Option.some.inj h
    go_wp2
    go_ret
    exact ⟨rfl, (by repeat (first | (with_reducible exact HB.out) | apply below_alloc | apply pw_below_drewN | apply below_drew1))⟩
  have h40_ := H.out
  rw [if_neg c40] at h40_
  clear H
  have H := Aside0.mk h40_
  clear h40_
  have b40 : (a0.toList == ([67, 76, 86] : List UInt8)) = false := beq_eq_false_iff_ne.mpr c40
  clear c40
  by_cases c41 : a0.toList = ([80, 76, 80] : List UInt8)
  · have h := H.out
    rw [if_pos c41] at h
    have b41 : (a0.toList == ([80, 76, 80] : List UInt8)) = true := beq_iff_eq.mpr c41
    clear H c41
    (try rw [b41])
    obtain rfl := Option.some.inj h
    go_wp2
    go_ret
    exact ⟨rfl, (by repeat (first | (with_reducible exact HB.out) | apply below_alloc | apply pw_below_drewN | apply below_drew1))⟩
  have h41_ := H.out
  rw [if_neg c41] at h41_
  clear H
  have H := Aside0.mk h41_
  clear h41_
  have b41 : (a0.toList == ([80, 76, 80] : List UInt8)) = false := beq_eq_false_iff_ne.mpr c41
  clear c41
  by_cases c42 : a0.toList = ([82, 84, 73] : List UInt8)
  · have h := H.out
    rw [if_pos c42] at h
    have b42 : (a0.toList == ([82, 84, 73] : List UInt8)) = true := beq_iff_eq.mpr c42
    clear H c42
    (try rw [b42])
    obtain rfl := Option.some.inj h
    go_wp2
    go_ret
    exact ⟨rfl, (by repeat (first | (with_reducible exact HB.out) | apply below_alloc | apply pw_below_drewN | apply below_drew1))⟩
  have h42_ := H.out
  rw [if_neg c42] at h42_
  clear H
  have H := Aside0.mk h42_
  clear h42_
  have b42 : (a0.toList == ([82, 84, 73] : List UInt8)) = false := beq_eq_false_iff_ne.mpr c42
  clear c42
  obtain rfl := Option.some.inj H.out
  clear H
  go_wp2
  go_ret
  exact ⟨rfl, (by repeat (first | (with_reducible exact HB.out) | apply below_alloc | apply pw_below_drewN | apply below_drew1))⟩

/-! ### strings_Fields: function 42 -/
def strings_Fields.f (a0 : ByteArray) : Option (List ByteArray) := Giv.fields a0
theorem strings_Fields.calls (a0 : ByteArray) (r : List ByteArray) (w : World) (h : strings_Fields.f a0 = some r) (HT : Aside0 (Giv.TabW w)) :
    Calls Tryd.prog 42 #[.string a0] w fun e w' => ∃ v0_ : Value, e = .returned (v0_) ∧ Kd.R Kd.string 9 w' w.heap.size (fun _ => True) v0_ r ∧ Below w.heap.size w w' :=
  Giv.fields_calls a0 r w h HT

/-! ### impl_word: function 39 -/
def impl_word.f (a0 : ByteArray) (a1 : Int) : Option (ByteArray) := (strings_Fields.f a0).bind fun t258 => (if 0 ≤ a1 then (if a1 < (t258.length : Int) then (if (rdOf ByteArray.empty t258 a1).toList = ([46] : List UInt8) then (some (⟨#[]⟩ : ByteArray)) else (some (rdOf ByteArray.empty t258 a1))) else (none)) else (none))
set_option maxHeartbeats 8000000 in
set_option maxRecDepth 100000 in
theorem impl_word.calls (a0 : ByteArray) (a1 : Int) (r : ByteArray) (w : World) (h : impl_word.f a0 a1 = some r) (HT : Aside0 (Giv.TabW w)) :
  Calls Tryd.prog 39 #[.string a0, .int .i64 a1] w fun e w' => e = .returned (.string r) ∧ Below w.heap.size w w' := by
 have HB := Aside0.mk (Below.refl w.heap.size w)
 have H : ((strings_Fields.f a0).bind fun t258 => (if 0 ≤ a1 then (if a1 < (t258.length : Int) then (if (rdOf ByteArray.empty t258 a1).toList = ([46] : List UInt8) then (some (⟨#[]⟩ : ByteArray)) else (some (rdOf ByteArray.empty t258 a1))) else (none)) else (none))) = some r := h
 clear h
 replace H := Option.bind_eq_some_iff.mp H
 obtain ⟨t258, A30, H⟩ := H
 replace H : (if 0 ≤ a1 then (if a1 < (t258.length : Int) then (if (rdOf ByteArray.empty t258 a1).toList = ([46] : List UInt8) then (some (⟨#[]⟩ : ByteArray)) else (some (rdOf ByteArray.empty t258 a1))) else (none)) else (none)) = some r := H
 have A3 := Aside0.mk A30
 clear A30
 by_cases c4 : 0 ≤ a1
 ·rw [if_pos c4] at H
  have c4b0 : decide (0 ≤ a1) = true := decide_eq_true c4
  clear c4
  by_cases c5 : a1 < (t258.length : Int)
  ·rw [if_pos c5] at H
   have c5b0 : decide (a1 < (t258.length : Int)) = true := decide_eq_true c5
   clear c5
   by_cases c6 : (rdOf ByteArray.empty t258 a1).toList = ([46] : List UInt8)
   ·rw [if_pos c6] at H
    have c6b0 : ((rdOf ByteArray.empty t258 a1).toList == ([46] : List UInt8)) = true := beq_iff_eq.mpr c6
    have c6b1 : ((rdOf ByteArray.empty t258 a1).toList != ([46] : List UInt8)) = false := bne_eq_false_iff_eq.mpr c6
    clear c6
    obtain rfl := Option.some.inj H
    go_enter Tryd.func39, Tryd.ntmps39
    go_wp2_with (first | ((with_reducible refine gate_callee (f := 42) rfl ?_); refine goesL_ (some 7) rfl rfl Tryd.func42 (by kernel_rfl) rfl #[.string a0] rfl (by (try simp only [List.map_toArray, List.map_cons, List.map_nil]); first | done | rfl | (simp only [List.length_drop, List.length_take]; rfl)) ?_; (with_reducible refine (strings_Fields.calls a0 t258 _ A3.out (Giv.at_ HT (by repeat (first | (with_reducible first | exact HB.out | apply below_alloc | apply pw_below_drewN | apply below_drew1) | exact HB.out)))).mono ?_); rintro e w7 ⟨v259, rfl, ho0, hb⟩; refine ⟨_, rfl, ?_⟩; have n0_ := Aside0.mk (Kd.R_lower ho0 (below_size (by repeat (first | (with_reducible first | exact HB.out | apply below_alloc | apply pw_below_drewN | apply below_drew1) | exact HB.out)))); have n1_ := Aside0.mk (below_step (by repeat (first | (with_reducible first | exact HB.out | apply below_alloc | apply pw_below_drewN | apply below_drew1) | exact HB.out)) hb); clear HB; have HO260 := n0_; have HB := n1_; clear n0_ n1_; (try clear hb); (try clear hb2); (try clear hk); (try clear hi); (try clear ho0); obtain ⟨Ao8, co8, eo8⟩ := Kd.R_slice HO260.out; subst eo8; have p261 : 0 ≤ (a1 : Int) := of_decide_eq_true (by first | (with_reducible assumption) | assumption); have q261 : a1 < (t258.length : Int) := of_decide_eq_true (by first | (with_reducible assumption) | assumption); obtain ⟨ad261, e261, hx261_0⟩ := Kd.at_string (Kd.R_reads' HO260.out).2.2 a1 p261 q261; cases e261; replace p261 := eq_true p261; replace q261 := eq_true q261))
    go_ret
    exact ⟨by first | rfl | (simp [errW_none, errW_some] <;> rfl) | (simp [*, errW_none, errW_some] <;> rfl), by repeat (first | (with_reducible first | exact HB.out | apply below_alloc | apply pw_below_drewN | apply below_drew1) | exact HB.out)⟩
   ·rw [if_neg c6] at H
    have c6b0 : ((rdOf ByteArray.empty t258 a1).toList == ([46] : List UInt8)) = false := beq_eq_false_iff_ne.mpr c6
    have c6b1 : ((rdOf ByteArray.empty t258 a1).toList != ([46] : List UInt8)) = true := bne_iff_ne.mpr c6
    obtain rfl := Option.some.inj H
    go_enter Tryd.func39, Tryd.ntmps39
    go_wp2_with (first | ((with_reducible refine gate_callee (f := 42) rfl ?_); refine goesL_ (some 7) rfl rfl Tryd.func42 (by kernel_rfl) rfl #[.string a0] rfl (by (try simp only [List.map_toArray, List.map_cons, List.map_nil]); first | done | rfl | (simp only [List.length_drop, List.length_take]; rfl)) ?_; (with_reducible refine (strings_Fields.calls a0 t258 _ A3.out (Giv.at_ HT (by repeat (first | (with_reducible first | exact HB.out | apply below_alloc | apply pw_below_drewN | apply below_drew1) | exact HB.out)))).mono ?_); rintro e w9 ⟨v259, rfl, ho0, hb⟩; refine ⟨_, rfl, ?_⟩; have n0_ := Aside0.mk (Kd.R_lower ho0 (below_size (by repeat (first | (with_reducible first | exact HB.out | apply below_alloc | apply pw_below_drewN | apply below_drew1) | exact HB.out)))); have n1_ := Aside0.mk (below_step (by repeat (first | (with_reducible first | exact HB.out | apply below_alloc | apply pw_below_drewN | apply below_drew1) | exact HB.out)) hb); clear HB; have HO260 := n0_; have HB := n1_; clear n0_ n1_; (try clear hb); (try clear hb2); (try clear hk); (try clear hi); (try clear ho0); obtain ⟨Ao10, co10, eo10⟩ := Kd.R_slice HO260.out; subst eo10; have p261 : 0 ≤ (a1 : Int) := of_decide_eq_true (by first | (with_reducible assumption) | assumption); have q261 : a1 < (t258.length : Int) := of_decide_eq_true (by first | (with_reducible assumption) | assumption); obtain ⟨ad261, e261, hx261_0⟩ := Kd.at_string (Kd.R_reads' HO260.out).2.2 a1 p261 q261; cases e261; replace p261 := eq_true p261; replace q261 := eq_true q261))
    go_ret
    exact ⟨by first | rfl | (simp [errW_none, errW_some] <;> rfl) | (simp [*, errW_none, errW_some] <;> rfl), by repeat (first | (with_reducible first | exact HB.out | apply below_alloc | apply pw_below_drewN | apply below_drew1) | exact HB.out)⟩
  ·rw [if_neg c5] at H
   exact absurd H (by simp)
 ·rw [if_neg c4] at H
  exact absurd H (by simp)

end Go.Proofs.YtaclekdigolhkaaDoor.MC
