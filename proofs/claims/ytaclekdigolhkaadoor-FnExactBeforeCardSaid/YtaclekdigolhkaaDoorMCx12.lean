-- Written by this session's own program (wip/myprint.py) over the kit's print of the translation. Lean checks it.
import Derived.Test.YtaclekdigolhkaaDoorAO
import Derived.Test.YtaclekdigolhkaaDoorMCx0
import Derived.Test.YtaclekdigolhkaaDoorMCx1
import Derived.Test.YtaclekdigolhkaaDoorMCx6
import Derived.Test.YtaclekdigolhkaaDoorMCx7
import Derived.Test.YtaclekdigolhkaaDoorMCx10
import Derived.Test.YtaclekdigolhkaaDoorMCx11
namespace Go.Proofs.YtaclekdigolhkaaDoor.MC
open Go.RowKit Go.Proofs.YtaclekdigolhkaaDoorW.PrintWords Go.Proofs.YtaclekdigolhkaaDoorW.PrintLast Go.Proofs.YtaclekdigolhkaaDoorW.PrintMore
attribute [local go_sem] max2_int min2_int max_two min_two max_three min_three max_four min_four   -- for this text's walks alone
set_option linter.unusedVariables false
set_option linter.unusedSimpArgs false

/-! ### laws_FnExactBefore: function 3 -/
def laws_FnExactBefore.f (k : Nat) (l0 : List (S47)) (a1 : Int) (a2 : Bool) (a3_0 : Int) (a3_1 : Int) (a3_2 : Int) (a3_3 : Int) (a3_4 : Int) (a3_5 : Int) (a3_6 : Int) (a3_7 : Int) (a3_8 : Int) (a3_9 : Int) (a3_10 : Int) (a4_0 : Int) (a4_1 : Int) (a4_2 : Int) (a4_3 : Int) (a4_4 : Int) (a4_5 : Int) (a4_6 : Int) (a4_7 : Int) (a4_8 : Int) (a4_9 : Int) (a4_10 : Int) : Option (Bool) := (laws_szCycS.f l0 1048576).bind fun t0 => (if t0 < 0 then (some true) else ((laws_toCycS.f k l0).bind fun t1 => ((spec_Before.f k t1 a1 a2 a3_0 a3_1 a3_2 a3_3 a3_4 a3_5 a3_6 a3_7 a3_8 a3_9 a3_10 a4_0 a4_1 a4_2 a4_3 a4_4 a4_5 a4_6 a4_7 a4_8 a4_9 a4_10).bind fun bs => ((impl_Before.f k t1 a1 a2 a3_0 a3_1 a3_2 a3_3 a3_4 a3_5 a3_6 a3_7 a3_8 a3_9 a3_10 a4_0 a4_1 a4_2 a4_3 a4_4 a4_5 a4_6 a4_7 a4_8 a4_9 a4_10).bind fun bg => ((laws_eqKnow.f bg.1 bg.2.1 bg.2.2.1 bg.2.2.2.1 bg.2.2.2.2.1 bg.2.2.2.2.2.1 bg.2.2.2.2.2.2.1 bg.2.2.2.2.2.2.2.1 bg.2.2.2.2.2.2.2.2.1 bg.2.2.2.2.2.2.2.2.2.1 bg.2.2.2.2.2.2.2.2.2.2.1 bs.1 bs.2.1 bs.2.2.1 bs.2.2.2.1 bs.2.2.2.2.1 bs.2.2.2.2.2.1 bs.2.2.2.2.2.2.1 bs.2.2.2.2.2.2.2.1 bs.2.2.2.2.2.2.2.2.1 bs.2.2.2.2.2.2.2.2.2.1 bs.2.2.2.2.2.2.2.2.2.2.1).bind fun e => ((laws_eqCycS.f k t1 t1).bind fun c => (if e = true ∧ bg.2.2.2.2.2.2.2.2.2.2.2 = bs.2.2.2.2.2.2.2.2.2.2.2 ∧ c = true then some true else none)))))))
set_option maxHeartbeats 8000000 in
set_option maxRecDepth 100000 in
theorem laws_FnExactBefore.calls (k : Nat) (A0 : Option Addr) (c0 : Nat) (l0 : List (S47)) (a1 : Int) (a2 : Bool) (a3_0 : Int) (a3_1 : Int) (a3_2 : Int) (a3_3 : Int) (a3_4 : Int) (a3_5 : Int) (a3_6 : Int) (a3_7 : Int) (a3_8 : Int) (a3_9 : Int) (a3_10 : Int) (a4_0 : Int) (a4_1 : Int) (a4_2 : Int) (a4_3 : Int) (a4_4 : Int) (a4_5 : Int) (a4_6 : Int) (a4_7 : Int) (a4_8 : Int) (a4_9 : Int) (a4_10 : Int) (r : Bool) (w : World) (hr0 : Kd.C k47 w A0 l0.length l0) (hc0 : l0.length ≤ c0) (h : laws_FnExactBefore.f k l0 a1 a2 a3_0 a3_1 a3_2 a3_3 a3_4 a3_5 a3_6 a3_7 a3_8 a3_9 a3_10 a4_0 a4_1 a4_2 a4_3 a4_4 a4_5 a4_6 a4_7 a4_8 a4_9 a4_10 = some r) (HT : Aside0 (Giv.TabW w)) :
    Calls Tryd.prog 3 #[.slice A0 l0.length c0, .int .i64 a1, .bool a2, .agg #[(.int .i64 a3_0), (.int .i64 a3_1), (.int .i64 a3_2), (.int .i64 a3_3), (.int .i64 a3_4), (.int .i64 a3_5), (.int .i64 a3_6), (.int .i64 a3_7), (.int .i64 a3_8), (.int .i64 a3_9), (.int .i64 a3_10)], .agg #[(.int .i64 a4_0), (.int .i64 a4_1), (.int .i64 a4_2), (.int .i64 a4_3), (.int .i64 a4_4), (.int .i64 a4_5), (.int .i64 a4_6), (.int .i64 a4_7), (.int .i64 a4_8), (.int .i64 a4_9), (.int .i64 a4_10)]] w fun e w' => e = .returned (.bool r) ∧ Below w.heap.size w w' := by
  have hu24 := Tryd.underlying24
  have hu26 := Tryd.underlying26
  have HR0 := Aside0.mk hr0
  have HC0 := Aside0.mk hc0
  clear hr0 hc0
  have HS : Aside0 (St w [] w []) := ⟨St.start w []⟩
  unfold laws_FnExactBefore.f at h
  replace h := Option.bind_eq_some_iff.mp h
  obtain ⟨t0, A00, h⟩ := h
  have A0_ := Aside0.mk A00
  clear A00
  by_cases c0 : t0 < 0
  · rw [if_pos c0] at h
    obtain rfl := Option.some.inj h
    have c0b0 : decide (t0 < 0) = true := decide_eq_true c0
    clear c0
    go_enter Tryd.func3, Tryd.ntmps3
    go_wp2_with (first | ((with_reducible refine gate_dst (N := 8) rfl ?_); refine box_event ?hg (N := 8) ?hd (cs := #[(.int .i64 a3_0), (.int .i64 a3_1), (.int .i64 a3_2), (.int .i64 a3_3), (.int .i64 a3_4), (.int .i64 a3_5), (.int .i64 a3_6), (.int .i64 a3_7), (.int .i64 a3_8), (.int .i64 a3_9), (.int .i64 a3_10)]) (t := 24) ?hr ?_; (case hd => rfl); (case hg => rfl); (case hr => first | (go_simp; done) | (go_simp; rfl)); intro ga hg_ w1 hx_ hb_; have n_ : Aside0 (St w [] w1 [(ga, 24, #[(.int .i64 a3_0), (.int .i64 a3_1), (.int .i64 a3_2), (.int .i64 a3_3), (.int .i64 a3_4), (.int .i64 a3_5), (.int .i64 a3_6), (.int .i64 a3_7), (.int .i64 a3_8), (.int .i64 a3_9), (.int .i64 a3_10)])]) := ⟨St.new (by repeat (first | (with_reducible exact HS.out) | refine St.drewN ?_ _ | refine St.drew ?_ | refine St.alloc ?_ _)) hg_ hx_ hb_⟩; clear HS; have HS := n_; clear n_; clear hb_ hx_ hg_) | ((with_reducible refine gate_dst (N := 9) rfl ?_); refine box_event ?hg (N := 9) ?hd (cs := #[(.int .i64 a4_0), (.int .i64 a4_1), (.int .i64 a4_2), (.int .i64 a4_3), (.int .i64 a4_4), (.int .i64 a4_5), (.int .i64 a4_6), (.int .i64 a4_7), (.int .i64 a4_8), (.int .i64 a4_9), (.int .i64 a4_10)]) (t := 24) ?hr ?_; (case hd => rfl); (case hg => rfl); (case hr => first | (go_simp; done) | (go_simp; rfl)); intro gb hg_ w2 hx_ hb_; have n_ : Aside0 (St w [] w2 [(gb, 24, #[(.int .i64 a4_0), (.int .i64 a4_1), (.int .i64 a4_2), (.int .i64 a4_3), (.int .i64 a4_4), (.int .i64 a4_5), (.int .i64 a4_6), (.int .i64 a4_7), (.int .i64 a4_8), (.int .i64 a4_9), (.int .i64 a4_10)]), (ga, 24, #[(.int .i64 a3_0), (.int .i64 a3_1), (.int .i64 a3_2), (.int .i64 a3_3), (.int .i64 a3_4), (.int .i64 a3_5), (.int .i64 a3_6), (.int .i64 a3_7), (.int .i64 a3_8), (.int .i64 a3_9), (.int .i64 a3_10)])]) := ⟨St.new (by repeat (first | (with_reducible exact HS.out) | refine St.drewN ?_ _ | refine St.drew ?_ | refine St.alloc ?_ _)) hg_ hx_ hb_⟩; clear HS; have HS := n_; clear n_; clear hb_ hx_ hg_) | (go_at_call 4; (with_reducible refine (laws_szCycS.calls _ _ l0 1048576 t0 _ (Kd.C_below HR0.out (St.to_below (by repeat (first | (with_reducible exact HS.out) | refine St.drewN ?_ _ | refine St.drew ?_ | refine St.alloc ?_ _)))) HC0.out A0_.out).mono ?_); rintro e w3 ⟨rfl, hd_⟩; obtain ⟨nd, rfl⟩ := hd_))
    go_ret
    exact ⟨rfl, (HS.out.drewN nd).to_below⟩
  rw [if_neg c0] at h
  have c0b0 : decide (t0 < 0) = false := decide_eq_false c0
  clear c0
  replace h := Option.bind_eq_some_iff.mp h
  obtain ⟨t1, At10, h⟩ := h
  have At1 := Aside0.mk At10
  clear At10
  replace h := Option.bind_eq_some_iff.mp h
  obtain ⟨bs, Abs0, h⟩ := h
  have Abs := Aside0.mk Abs0
  clear Abs0
  replace h := Option.bind_eq_some_iff.mp h
  obtain ⟨bg, Abg0, h⟩ := h
  have Abg := Aside0.mk Abg0
  clear Abg0
  replace h := Option.bind_eq_some_iff.mp h
  obtain ⟨e, Ae0, h⟩ := h
  have Ae := Aside0.mk Ae0
  clear Ae0
  replace h := Option.bind_eq_some_iff.mp h
  obtain ⟨c, Ac0, h⟩ := h
  have Ac := Aside0.mk Ac0
  clear Ac0
  by_cases cc : e = true ∧ bg.2.2.2.2.2.2.2.2.2.2.2 = bs.2.2.2.2.2.2.2.2.2.2.2 ∧ c = true
  rotate_left
  · rw [if_neg cc] at h
    exact absurd h (by simp)
  rw [if_pos cc] at h
  obtain rfl := Option.some.inj h
  clear h
  obtain ⟨s_0, s_1, s_2, s_3, s_4, s_5, s_6, s_7, s_8, s_9, s_10, sb⟩ := bs
  obtain ⟨g_0, g_1, g_2, g_3, g_4, g_5, g_6, g_7, g_8, g_9, g_10, gb_⟩ := bg
  obtain ⟨rfl, h2, rfl⟩ := cc
  replace h2 : gb_ = sb := h2
  subst h2
  go_enter Tryd.func3, Tryd.ntmps3
  go_upto_region 5 with (first | ((with_reducible refine gate_dst (N := 8) rfl ?_); refine box_event ?hg (N := 8) ?hd (cs := #[(.int .i64 a3_0), (.int .i64 a3_1), (.int .i64 a3_2), (.int .i64 a3_3), (.int .i64 a3_4), (.int .i64 a3_5), (.int .i64 a3_6), (.int .i64 a3_7), (.int .i64 a3_8), (.int .i64 a3_9), (.int .i64 a3_10)]) (t := 24) ?hr ?_; (case hd => rfl); (case hg => rfl); (case hr => first | (go_simp; done) | (go_simp; rfl)); intro ga hg_ w1 hx_ hb_; have n_ : Aside0 (St w [] w1 [(ga, 24, #[(.int .i64 a3_0), (.int .i64 a3_1), (.int .i64 a3_2), (.int .i64 a3_3), (.int .i64 a3_4), (.int .i64 a3_5), (.int .i64 a3_6), (.int .i64 a3_7), (.int .i64 a3_8), (.int .i64 a3_9), (.int .i64 a3_10)])]) := ⟨St.new (by repeat (first | (with_reducible exact HS.out) | refine St.drewN ?_ _ | refine St.drew ?_ | refine St.alloc ?_ _)) hg_ hx_ hb_⟩; clear HS; have HS := n_; clear n_; clear hb_ hx_ hg_) | ((with_reducible refine gate_dst (N := 9) rfl ?_); refine box_event ?hg (N := 9) ?hd (cs := #[(.int .i64 a4_0), (.int .i64 a4_1), (.int .i64 a4_2), (.int .i64 a4_3), (.int .i64 a4_4), (.int .i64 a4_5), (.int .i64 a4_6), (.int .i64 a4_7), (.int .i64 a4_8), (.int .i64 a4_9), (.int .i64 a4_10)]) (t := 24) ?hr ?_; (case hd => rfl); (case hg => rfl); (case hr => first | (go_simp; done) | (go_simp; rfl)); intro gb hg_ w2 hx_ hb_; have n_ : Aside0 (St w [] w2 [(gb, 24, #[(.int .i64 a4_0), (.int .i64 a4_1), (.int .i64 a4_2), (.int .i64 a4_3), (.int .i64 a4_4), (.int .i64 a4_5), (.int .i64 a4_6), (.int .i64 a4_7), (.int .i64 a4_8), (.int .i64 a4_9), (.int .i64 a4_10)]), (ga, 24, #[(.int .i64 a3_0), (.int .i64 a3_1), (.int .i64 a3_2), (.int .i64 a3_3), (.int .i64 a3_4), (.int .i64 a3_5), (.int .i64 a3_6), (.int .i64 a3_7), (.int .i64 a3_8), (.int .i64 a3_9), (.int .i64 a3_10)])]) := ⟨St.new (by repeat (first | (with_reducible exact HS.out) | refine St.drewN ?_ _ | refine St.drew ?_ | refine St.alloc ?_ _)) hg_ hx_ hb_⟩; clear HS; have HS := n_; clear n_; clear hb_ hx_ hg_) | (go_at_call 4; (with_reducible refine (laws_szCycS.calls _ _ l0 1048576 t0 _ (Kd.C_below HR0.out (St.to_below (by repeat (first | (with_reducible exact HS.out) | refine St.drewN ?_ _ | refine St.drew ?_ | refine St.alloc ?_ _)))) HC0.out A0_.out).mono ?_); rintro e w3 ⟨rfl, hd_⟩; obtain ⟨nd, rfl⟩ := hd_))
  (try simp only [Act.put, List.setIfInBounds_toArray, List.set_cons_zero, List.set_cons_succ])
  have n_ : Aside0 (St w [] (World.drewN w2 nd) [(gb, 24, #[(.int .i64 a4_0), (.int .i64 a4_1), (.int .i64 a4_2), (.int .i64 a4_3), (.int .i64 a4_4), (.int .i64 a4_5), (.int .i64 a4_6), (.int .i64 a4_7), (.int .i64 a4_8), (.int .i64 a4_9), (.int .i64 a4_10)]), (ga, 24, #[(.int .i64 a3_0), (.int .i64 a3_1), (.int .i64 a3_2), (.int .i64 a3_3), (.int .i64 a3_4), (.int .i64 a3_5), (.int .i64 a3_6), (.int .i64 a3_7), (.int .i64 a3_8), (.int .i64 a3_9), (.int .i64 a3_10)])]) := ⟨HS.out.drewN nd⟩
  clear HS
  have HS := n_
  clear n_
  refine AO.phase 11 (m := 13) (top := 61) (B := AO.mkB (opsOf Tryd.f3 5)) (R := (fun a b => Below a.heap.size a b)) (φ := (fun i v w => match i with | 0 => v = .slice A0 l0.length c0 | 1 => ∃ Ao co, v = .slice Ao t1.length co ∧ t1.length ≤ co ∧ Kd.C k40 w Ao t1.length t1 | 2 => v = .int .i64 a1 | 3 => v = .bool a2 | 4 => v = .agg #[(.int .i64 a3_0), (.int .i64 a3_1), (.int .i64 a3_2), (.int .i64 a3_3), (.int .i64 a3_4), (.int .i64 a3_5), (.int .i64 a3_6), (.int .i64 a3_7), (.int .i64 a3_8), (.int .i64 a3_9), (.int .i64 a3_10)] | 5 => v = .agg #[(.int .i64 a3_0), (.int .i64 a3_1), (.int .i64 a3_2), (.int .i64 a3_3), (.int .i64 a3_4), (.int .i64 a3_5), (.int .i64 a3_6), (.int .i64 a3_7), (.int .i64 a3_8), (.int .i64 a3_9), (.int .i64 a3_10)] | 6 => v = .agg #[(.int .i64 a4_0), (.int .i64 a4_1), (.int .i64 a4_2), (.int .i64 a4_3), (.int .i64 a4_4), (.int .i64 a4_5), (.int .i64 a4_6), (.int .i64 a4_7), (.int .i64 a4_8), (.int .i64 a4_9), (.int .i64 a4_10)] | 7 => v = .agg #[(.int .i64 a4_0), (.int .i64 a4_1), (.int .i64 a4_2), (.int .i64 a4_3), (.int .i64 a4_4), (.int .i64 a4_5), (.int .i64 a4_6), (.int .i64 a4_7), (.int .i64 a4_8), (.int .i64 a4_9), (.int .i64 a4_10)] | 8 => v = .tuple #[.agg #[(.int .i64 s_0), (.int .i64 s_1), (.int .i64 s_2), (.int .i64 s_3), (.int .i64 s_4), (.int .i64 s_5), (.int .i64 s_6), (.int .i64 s_7), (.int .i64 s_8), (.int .i64 s_9), (.int .i64 s_10)], .bool gb_] | 9 => v = .tuple #[.agg #[(.int .i64 s_0), (.int .i64 s_1), (.int .i64 s_2), (.int .i64 s_3), (.int .i64 s_4), (.int .i64 s_5), (.int .i64 s_6), (.int .i64 s_7), (.int .i64 s_8), (.int .i64 s_9), (.int .i64 s_10)], .bool gb_] | 10 => v = .agg #[(.int .i64 s_0), (.int .i64 s_1), (.int .i64 s_2), (.int .i64 s_3), (.int .i64 s_4), (.int .i64 s_5), (.int .i64 s_6), (.int .i64 s_7), (.int .i64 s_8), (.int .i64 s_9), (.int .i64 s_10)] | 11 => v = .bool gb_ | 12 => ∃ q, v = .pointer (some ⟨q, 0, none⟩) ∧ (World.drew (World.drewN w2 nd)).heap.size ≤ q ∧ w.heap[q]? = some (.cells #[(.int .i64 0), (.int .i64 0), (.int .i64 0), (.int .i64 0), (.int .i64 0), (.int .i64 0), (.int .i64 0), (.int .i64 0), (.int .i64 0), (.int .i64 0), (.int .i64 0)] 26 (0, 0)) | _ => True)) (by kernel_rfl) (by kernel_rfl) (by decide) (by exact Nat.le_refl 61) (fun a => Below.refl _ _) (fun a b c h1 h2 => below_step h1 h2) ?_ ?_ ?_ ?_
  · intro i v w w' hb h
    match i, h with
    | 0, h => exact h
    | 1, h => obtain ⟨Ao, co, h1, h2, h3⟩ := h; exact ⟨Ao, co, h1, h2, Kd.C_below h3 hb⟩
    | 2, h => exact h
    | 3, h => exact h
    | 4, h => exact h
    | 5, h => exact h
    | 6, h => exact h
    | 7, h => exact h
    | 8, h => exact h
    | 9, h => exact h
    | 10, h => exact h
    | 11, h => exact h
    | 12, h => obtain ⟨q, h1, h2, h3⟩ := h; exact ⟨q, h1, h2, blk_below h3 hb⟩
    | _ + 13, h => trivial
  · intro _; exact AO.loose_extract rfl rfl rfl rfl (by kernel_rfl) (fun _ _ _ _ h => h) (fun l a w X hn => ⟨_, _, X.use hn 9 22 (by decide) (by kernel_rfl), rfl, rfl⟩)
  · intro i hi
    match i, hi with
    | 0, _ => exact AO.st_move (fun w => Below.refl _ _) rfl rfl rfl rfl (fun l a w X hn => show a.eval (.tmp 0) = .slice A0 l0.length c0 from (X.ev 0 (by kernel_rfl)).trans rfl)
    | 1, _ => exact AO.st_call rfl rfl rfl Tryd.func6 (by kernel_rfl) rfl rfl (fun l a w X hn => ⟨#[.slice A0 l0.length c0], (by have h0 : a.eval (.tmp 23) = .slice A0 l0.length c0 := X.use hn 0 23 (by decide) (by kernel_rfl); simp only [List.map_toArray, List.map_cons, List.map_nil, h0]), (laws_toCycS.calls k _ _ l0 t1 _ (Kd.C_below HR0.out (St.to_below (St.below (St.drew HS.out) X.base))) HC0.out At1.out).mono (fun e w' he => by obtain ⟨v, rfl, hR, hb⟩ := he; obtain ⟨Ao, co, h1, h2, h3⟩ := Kd.R_reads hR; exact ⟨v, rfl, hb, Ao, co, h1, h2, h3⟩)⟩)
    | 2, _ => exact AO.st_move (fun w => Below.refl _ _) rfl rfl rfl rfl (fun l a w X hn => show a.eval (.tmp 1) = .int .i64 a1 from (X.ev 1 (by kernel_rfl)).trans rfl)
    | 3, _ => exact AO.st_move (fun w => Below.refl _ _) rfl rfl rfl rfl (fun l a w X hn => show a.eval (.tmp 2) = .bool a2 from (X.ev 2 (by kernel_rfl)).trans rfl)
    | 4, _ => exact AO.st_row (fun w => Below.refl _ _) rfl rfl rfl rfl hu24 rfl (fun l a w X hn => ⟨ga, 24, #[(.int .i64 a3_0), (.int .i64 a3_1), (.int .i64 a3_2), (.int .i64 a3_3), (.int .i64 a3_4), (.int .i64 a3_5), (.int .i64 a3_6), (.int .i64 a3_7), (.int .i64 a3_8), (.int .i64 a3_9), (.int .i64 a3_10)], (0, 0), (X.ev 8 (by kernel_rfl)).trans rfl, (St.below (St.drew HS.out) X.base).at_ 1 rfl, by kernel_rfl, rfl⟩)
    | 5, _ => exact AO.st_call rfl rfl rfl Tryd.func7 (by kernel_rfl) rfl rfl (fun l a w X hn => ⟨#[.agg #[(.int .i64 a3_0), (.int .i64 a3_1), (.int .i64 a3_2), (.int .i64 a3_3), (.int .i64 a3_4), (.int .i64 a3_5), (.int .i64 a3_6), (.int .i64 a3_7), (.int .i64 a3_8), (.int .i64 a3_9), (.int .i64 a3_10)]], (by have h0 : a.eval (.tmp 27) = .agg #[(.int .i64 a3_0), (.int .i64 a3_1), (.int .i64 a3_2), (.int .i64 a3_3), (.int .i64 a3_4), (.int .i64 a3_5), (.int .i64 a3_6), (.int .i64 a3_7), (.int .i64 a3_8), (.int .i64 a3_9), (.int .i64 a3_10)] := X.use hn 4 27 (by decide) (by kernel_rfl); simp only [List.map_toArray, List.map_cons, List.map_nil, h0]), (laws_toKnow.calls a3_0 a3_1 a3_2 a3_3 a3_4 a3_5 a3_6 a3_7 a3_8 a3_9 a3_10 a3_0 a3_1 a3_2 a3_3 a3_4 a3_5 a3_6 a3_7 a3_8 a3_9 a3_10 _ rfl).mono (fun e w' he => by obtain ⟨rfl, hb⟩ := he; exact ⟨_, rfl, hb, rfl⟩)⟩)
    | 6, _ => exact AO.st_row (fun w => Below.refl _ _) rfl rfl rfl rfl hu24 rfl (fun l a w X hn => ⟨gb, 24, #[(.int .i64 a4_0), (.int .i64 a4_1), (.int .i64 a4_2), (.int .i64 a4_3), (.int .i64 a4_4), (.int .i64 a4_5), (.int .i64 a4_6), (.int .i64 a4_7), (.int .i64 a4_8), (.int .i64 a4_9), (.int .i64 a4_10)], (0, 0), (X.ev 9 (by kernel_rfl)).trans rfl, (St.below (St.drew HS.out) X.base).at_ 0 rfl, by kernel_rfl, rfl⟩)
    | 7, _ => exact AO.st_call rfl rfl rfl Tryd.func7 (by kernel_rfl) rfl rfl (fun l a w X hn => ⟨#[.agg #[(.int .i64 a4_0), (.int .i64 a4_1), (.int .i64 a4_2), (.int .i64 a4_3), (.int .i64 a4_4), (.int .i64 a4_5), (.int .i64 a4_6), (.int .i64 a4_7), (.int .i64 a4_8), (.int .i64 a4_9), (.int .i64 a4_10)]], (by have h0 : a.eval (.tmp 29) = .agg #[(.int .i64 a4_0), (.int .i64 a4_1), (.int .i64 a4_2), (.int .i64 a4_3), (.int .i64 a4_4), (.int .i64 a4_5), (.int .i64 a4_6), (.int .i64 a4_7), (.int .i64 a4_8), (.int .i64 a4_9), (.int .i64 a4_10)] := X.use hn 6 29 (by decide) (by kernel_rfl); simp only [List.map_toArray, List.map_cons, List.map_nil, h0]), (laws_toKnow.calls a4_0 a4_1 a4_2 a4_3 a4_4 a4_5 a4_6 a4_7 a4_8 a4_9 a4_10 a4_0 a4_1 a4_2 a4_3 a4_4 a4_5 a4_6 a4_7 a4_8 a4_9 a4_10 _ rfl).mono (fun e w' he => by obtain ⟨rfl, hb⟩ := he; exact ⟨_, rfl, hb, rfl⟩)⟩)
    | 8, _ => exact AO.st_call rfl rfl rfl Tryd.func5 (by kernel_rfl) rfl rfl (fun l a w X hn => by obtain ⟨Ao, co, e0, hco, hC⟩ : ∃ Ao co, a.eval (.tmp 24) = .slice Ao t1.length co ∧ t1.length ≤ co ∧ Kd.C k40 w Ao t1.length t1 := X.use hn 1 24 (by decide) (by kernel_rfl); have e1 : a.eval (.tmp 25) = .int .i64 a1 := X.use hn 2 25 (by decide) (by kernel_rfl); have e2 : a.eval (.tmp 26) = .bool a2 := X.use hn 3 26 (by decide) (by kernel_rfl); have e3 : a.eval (.tmp 28) = .agg #[(.int .i64 a3_0), (.int .i64 a3_1), (.int .i64 a3_2), (.int .i64 a3_3), (.int .i64 a3_4), (.int .i64 a3_5), (.int .i64 a3_6), (.int .i64 a3_7), (.int .i64 a3_8), (.int .i64 a3_9), (.int .i64 a3_10)] := X.use hn 5 28 (by decide) (by kernel_rfl); have e4 : a.eval (.tmp 30) = .agg #[(.int .i64 a4_0), (.int .i64 a4_1), (.int .i64 a4_2), (.int .i64 a4_3), (.int .i64 a4_4), (.int .i64 a4_5), (.int .i64 a4_6), (.int .i64 a4_7), (.int .i64 a4_8), (.int .i64 a4_9), (.int .i64 a4_10)] := X.use hn 7 30 (by decide) (by kernel_rfl); exact ⟨#[.slice Ao t1.length co, .int .i64 a1, .bool a2, .agg #[(.int .i64 a3_0), (.int .i64 a3_1), (.int .i64 a3_2), (.int .i64 a3_3), (.int .i64 a3_4), (.int .i64 a3_5), (.int .i64 a3_6), (.int .i64 a3_7), (.int .i64 a3_8), (.int .i64 a3_9), (.int .i64 a3_10)], .agg #[(.int .i64 a4_0), (.int .i64 a4_1), (.int .i64 a4_2), (.int .i64 a4_3), (.int .i64 a4_4), (.int .i64 a4_5), (.int .i64 a4_6), (.int .i64 a4_7), (.int .i64 a4_8), (.int .i64 a4_9), (.int .i64 a4_10)]], (by simp only [List.map_toArray, List.map_cons, List.map_nil, e0, e1, e2, e3, e4]), (spec_Before.calls k _ _ t1 a1 a2 a3_0 a3_1 a3_2 a3_3 a3_4 a3_5 a3_6 a3_7 a3_8 a3_9 a3_10 a4_0 a4_1 a4_2 a4_3 a4_4 a4_5 a4_6 a4_7 a4_8 a4_9 a4_10 s_0 s_1 s_2 s_3 s_4 s_5 s_6 s_7 s_8 s_9 s_10 gb_ _ hC hco Abs.out).mono (fun e w' he => by obtain ⟨rfl, hb⟩ := he; exact ⟨_, rfl, hb, rfl⟩)⟩)
    | 9, _ => exact AO.st_move (fun w => Below.refl _ _) rfl rfl rfl rfl (fun l a w X hn => show a.eval (.tmp 31) = .tuple #[.agg #[(.int .i64 s_0), (.int .i64 s_1), (.int .i64 s_2), (.int .i64 s_3), (.int .i64 s_4), (.int .i64 s_5), (.int .i64 s_6), (.int .i64 s_7), (.int .i64 s_8), (.int .i64 s_9), (.int .i64 s_10)], .bool gb_] from X.use hn 8 31 (by decide) (by kernel_rfl))
    | 10, _ => exact AO.st_extract (fun w => Below.refl _ _) rfl rfl rfl rfl (fun l a w X hn => ⟨_, _, X.use hn 9 22 (by decide) (by kernel_rfl), rfl, rfl⟩)
    | 11, _ => exact AO.st_extract (fun w => Below.refl _ _) rfl rfl rfl rfl (fun l a w X hn => ⟨_, _, X.use hn 9 22 (by decide) (by kernel_rfl), rfl, rfl⟩)
    | 12, _ => exact AO.st_run rfl rfl rfl (fun l a w X hn => ⟨.pointer (some ⟨w.heap.size, 0, none⟩), w.alloc (.cells #[(.int .i64 0), (.int .i64 0), (.int .i64 0), (.int .i64 0), (.int .i64 0), (.int .i64 0), (.int .i64 0), (.int .i64 0), (.int .i64 0), (.int .i64 0), (.int .i64 0)] 26 (0, 0)), (by first | (go_simp; done) | (go_simp; rfl)), below_alloc (Below.refl _ _) _, ⟨_, rfl, X.base.size, blk_new w _⟩⟩)
    | n + 13, h => omega
  intro vs w5_ hB hp
  have p0 : vs 0 = .slice A0 l0.length c0 := hp 0 _ (by decide) rfl
  obtain ⟨Ao, co, p1, hco_, hC_⟩ : ∃ Ao co, vs 1 = .slice Ao t1.length co ∧ t1.length ≤ co ∧ Kd.C k40 w5_ Ao t1.length t1 := hp 1 _ (by decide) rfl
  have p2 : vs 2 = .int .i64 a1 := hp 2 _ (by decide) rfl
  have p3 : vs 3 = .bool a2 := hp 3 _ (by decide) rfl
  have p4 : vs 4 = .agg #[(.int .i64 a3_0), (.int .i64 a3_1), (.int .i64 a3_2), (.int .i64 a3_3), (.int .i64 a3_4), (.int .i64 a3_5), (.int .i64 a3_6), (.int .i64 a3_7), (.int .i64 a3_8), (.int .i64 a3_9), (.int .i64 a3_10)] := hp 4 _ (by decide) rfl
  have p5 : vs 5 = .agg #[(.int .i64 a3_0), (.int .i64 a3_1), (.int .i64 a3_2), (.int .i64 a3_3), (.int .i64 a3_4), (.int .i64 a3_5), (.int .i64 a3_6), (.int .i64 a3_7), (.int .i64 a3_8), (.int .i64 a3_9), (.int .i64 a3_10)] := hp 5 _ (by decide) rfl
  have p6 : vs 6 = .agg #[(.int .i64 a4_0), (.int .i64 a4_1), (.int .i64 a4_2), (.int .i64 a4_3), (.int .i64 a4_4), (.int .i64 a4_5), (.int .i64 a4_6), (.int .i64 a4_7), (.int .i64 a4_8), (.int .i64 a4_9), (.int .i64 a4_10)] := hp 6 _ (by decide) rfl
  have p7 : vs 7 = .agg #[(.int .i64 a4_0), (.int .i64 a4_1), (.int .i64 a4_2), (.int .i64 a4_3), (.int .i64 a4_4), (.int .i64 a4_5), (.int .i64 a4_6), (.int .i64 a4_7), (.int .i64 a4_8), (.int .i64 a4_9), (.int .i64 a4_10)] := hp 7 _ (by decide) rfl
  have p8 : vs 8 = .tuple #[.agg #[(.int .i64 s_0), (.int .i64 s_1), (.int .i64 s_2), (.int .i64 s_3), (.int .i64 s_4), (.int .i64 s_5), (.int .i64 s_6), (.int .i64 s_7), (.int .i64 s_8), (.int .i64 s_9), (.int .i64 s_10)], .bool gb_] := hp 8 _ (by decide) rfl
  have p9 : vs 9 = .tuple #[.agg #[(.int .i64 s_0), (.int .i64 s_1), (.int .i64 s_2), (.int .i64 s_3), (.int .i64 s_4), (.int .i64 s_5), (.int .i64 s_6), (.int .i64 s_7), (.int .i64 s_8), (.int .i64 s_9), (.int .i64 s_10)], .bool gb_] := hp 9 _ (by decide) rfl
  have p10 : vs 10 = .agg #[(.int .i64 s_0), (.int .i64 s_1), (.int .i64 s_2), (.int .i64 s_3), (.int .i64 s_4), (.int .i64 s_5), (.int .i64 s_6), (.int .i64 s_7), (.int .i64 s_8), (.int .i64 s_9), (.int .i64 s_10)] := hp 10 _ (by decide) rfl
  have p11 : vs 11 = .bool gb_ := hp 11 _ (by decide) rfl
  obtain ⟨qs, p12, hq_, hx_⟩ : ∃ q, vs 12 = .pointer (some ⟨q, 0, none⟩) ∧ (World.drew (World.drewN w2 nd)).heap.size ≤ q ∧ w5_.heap[q]? = some (.cells #[(.int .i64 0), (.int .i64 0), (.int .i64 0), (.int .i64 0), (.int .i64 0), (.int .i64 0), (.int .i64 0), (.int .i64 0), (.int .i64 0), (.int .i64 0), (.int .i64 0)] 26 (0, 0)) := hp 12 _ (by decide) rfl
  clear hp
  refine AO.tail_ [(23, vs 0), (24, vs 1), (25, vs 2), (26, vs 3), (27, vs 4), (28, vs 5), (29, vs 6), (30, vs 7), (31, vs 8), (22, vs 9), (32, vs 10), (33, vs 11), (12, vs 12)] (by rfl) ?_
  refine norm_ (a' := ?_) ?_ ?_
  rotate_left
  · simp only [putAll, Act.put, List.setIfInBounds_toArray, List.set_cons_zero, List.set_cons_succ, p0, p1, p2, p3, p4, p5, p6, p7, p8, p9, p10, p11, p12]
    rfl
  have HS1 : Aside0 (St w [] w5_ [(qs, 26, #[(.int .i64 0), (.int .i64 0), (.int .i64 0), (.int .i64 0), (.int .i64 0), (.int .i64 0), (.int .i64 0), (.int .i64 0), (.int .i64 0), (.int .i64 0), (.int .i64 0)]), (gb, 24, #[(.int .i64 a4_0), (.int .i64 a4_1), (.int .i64 a4_2), (.int .i64 a4_3), (.int .i64 a4_4), (.int .i64 a4_5), (.int .i64 a4_6), (.int .i64 a4_7), (.int .i64 a4_8), (.int .i64 a4_9), (.int .i64 a4_10)]), (ga, 24, #[(.int .i64 a3_0), (.int .i64 a3_1), (.int .i64 a3_2), (.int .i64 a3_3), (.int .i64 a3_4), (.int .i64 a3_5), (.int .i64 a3_6), (.int .i64 a3_7), (.int .i64 a3_8), (.int .i64 a3_9), (.int .i64 a3_10)])]) := ⟨St.add (St.drew HS.out) hq_ hx_ hB⟩
  refine one_ (i := 13) (N := none) #[true, true, true, true, true, true, true, true, true, true, true, true, true, true, false] rfl rfl (by kernel_rfl) (by simp) (fun K hK => ?_)
  rw [if_pos (by rfl)]
  refine wp_store_row 26 _ _ rfl qs #[(.int .i64 s_0), (.int .i64 s_1), (.int .i64 s_2), (.int .i64 s_3), (.int .i64 s_4), (.int .i64 s_5), (.int .i64 s_6), (.int .i64 s_7), (.int .i64 s_8), (.int .i64 s_9), (.int .i64 s_10)] rfl rfl 26 _ hx_ (by kernel_rfl) rfl (by first | rfl | (simp; done) | (simp [Value.oneCell']; done)) ?_
  refine hK.out _ _ trivial (fun hHeld => ?_)
  clear hK K hHeld
  have HS2 : Aside0 (St w [] (w5_.setRow qs #[(.int .i64 s_0), (.int .i64 s_1), (.int .i64 s_2), (.int .i64 s_3), (.int .i64 s_4), (.int .i64 s_5), (.int .i64 s_6), (.int .i64 s_7), (.int .i64 s_8), (.int .i64 s_9), (.int .i64 s_10)]) [(qs, 26, #[(.int .i64 s_0), (.int .i64 s_1), (.int .i64 s_2), (.int .i64 s_3), (.int .i64 s_4), (.int .i64 s_5), (.int .i64 s_6), (.int .i64 s_7), (.int .i64 s_8), (.int .i64 s_9), (.int .i64 s_10)]), (gb, 24, #[(.int .i64 a4_0), (.int .i64 a4_1), (.int .i64 a4_2), (.int .i64 a4_3), (.int .i64 a4_4), (.int .i64 a4_5), (.int .i64 a4_6), (.int .i64 a4_7), (.int .i64 a4_8), (.int .i64 a4_9), (.int .i64 a4_10)]), (ga, 24, #[(.int .i64 a3_0), (.int .i64 a3_1), (.int .i64 a3_2), (.int .i64 a3_3), (.int .i64 a3_4), (.int .i64 a3_5), (.int .i64 a3_6), (.int .i64 a3_7), (.int .i64 a3_8), (.int .i64 a3_9), (.int .i64 a3_10)])] ∧ Below (World.drew (World.drewN w2 nd)).heap.size (World.drew (World.drewN w2 nd)) (w5_.setRow qs #[(.int .i64 s_0), (.int .i64 s_1), (.int .i64 s_2), (.int .i64 s_3), (.int .i64 s_4), (.int .i64 s_5), (.int .i64 s_6), (.int .i64 s_7), (.int .i64 s_8), (.int .i64 s_9), (.int .i64 s_10)])) := ⟨St.row HS1.out 0 rfl #[(.int .i64 s_0), (.int .i64 s_1), (.int .i64 s_2), (.int .i64 s_3), (.int .i64 s_4), (.int .i64 s_5), (.int .i64 s_6), (.int .i64 s_7), (.int .i64 s_8), (.int .i64 s_9), (.int .i64 s_10)] rfl, St.below_row hB hq_ _⟩
  clear HS1 hx_
  refine one_ (i := 14) (N := some 13) #[true, true, true, true, true, true, true, true, true, true, true, true, true, true, true] rfl rfl (by kernel_rfl) (by simp) (fun K hK => ?_)
  refine event_step (by rfl) (v := .bool gb_) (by first | rfl | (go_simp; done) | (go_simp; rfl)) ?_
  refine hK.out _ _ trivial (fun hHeld => ?_)
  clear hK K hHeld
  refine norm_ (a' := ?_) ?_ ?_
  rotate_left
  · simp only [putAll, Act.put, List.setIfInBounds_toArray, List.set_cons_zero, List.set_cons_succ]
    rfl
  refine done_ (by kernel_rfl) ?_
  clear p0 p1 p2 p3 p4 p5 p6 p7 p8 p9 p10 p11 p12 hq_ hB
  go_upto_region 6 with (fail)
  refine KF.gen_ (fun w' => St w [] w' [(qs, 26, #[(.int .i64 s_0), (.int .i64 s_1), (.int .i64 s_2), (.int .i64 s_3), (.int .i64 s_4), (.int .i64 s_5), (.int .i64 s_6), (.int .i64 s_7), (.int .i64 s_8), (.int .i64 s_9), (.int .i64 s_10)]), (gb, 24, #[(.int .i64 a4_0), (.int .i64 a4_1), (.int .i64 a4_2), (.int .i64 a4_3), (.int .i64 a4_4), (.int .i64 a4_5), (.int .i64 a4_6), (.int .i64 a4_7), (.int .i64 a4_8), (.int .i64 a4_9), (.int .i64 a4_10)]), (ga, 24, #[(.int .i64 a3_0), (.int .i64 a3_1), (.int .i64 a3_2), (.int .i64 a3_3), (.int .i64 a3_4), (.int .i64 a3_5), (.int .i64 a3_6), (.int .i64 a3_7), (.int .i64 a3_8), (.int .i64 a3_9), (.int .i64 a3_10)])]) HS2.out.1 ?_
  rintro w6 n0_
  clear HS HS2
  have HS := Aside0.mk n0_
  clear n0_ hco_ hC_
  go_upto_region 7 with (first | (go_at_call 6; (with_reducible refine (laws_toCycS.calls k _ _ l0 t1 _ (Kd.C_below HR0.out (St.to_below (by repeat (first | (with_reducible exact HS.out) | refine St.drewN ?_ _ | refine St.drew ?_ | refine St.alloc ?_ _)))) HC0.out At1.out).mono ?_); rintro e w7 ⟨v_, rfl, ho_, hb_⟩; obtain ⟨A1, c1, rfl, h2_, h3_⟩ := Kd.R_reads ho_; have n_ : Aside0 (St w [] w7 [(qs, 26, #[(.int .i64 s_0), (.int .i64 s_1), (.int .i64 s_2), (.int .i64 s_3), (.int .i64 s_4), (.int .i64 s_5), (.int .i64 s_6), (.int .i64 s_7), (.int .i64 s_8), (.int .i64 s_9), (.int .i64 s_10)]), (gb, 24, #[(.int .i64 a4_0), (.int .i64 a4_1), (.int .i64 a4_2), (.int .i64 a4_3), (.int .i64 a4_4), (.int .i64 a4_5), (.int .i64 a4_6), (.int .i64 a4_7), (.int .i64 a4_8), (.int .i64 a4_9), (.int .i64 a4_10)]), (ga, 24, #[(.int .i64 a3_0), (.int .i64 a3_1), (.int .i64 a3_2), (.int .i64 a3_3), (.int .i64 a3_4), (.int .i64 a3_5), (.int .i64 a3_6), (.int .i64 a3_7), (.int .i64 a3_8), (.int .i64 a3_9), (.int .i64 a3_10)])]) := ⟨St.below (by repeat (first | (with_reducible exact HS.out) | refine St.drewN ?_ _ | refine St.drew ?_ | refine St.alloc ?_ _)) hb_⟩; clear HS; have HS := n_; clear n_; have HL := Aside0.mk h3_; have HLc := Aside0.mk h2_; clear hb_ ho_ h2_ h3_))
  refine AO.phase 10 (m := 12) (top := 61) (B := AO.mkB (opsOf Tryd.f3 7)) (R := (fun a b => Below a.heap.size a b)) (φ := (fun i v w => match i with | 0 => v = .slice A1 t1.length c1 | 1 => v = .int .i64 a1 | 2 => v = .bool a2 | 3 => v = .agg #[(.int .i64 a3_0), (.int .i64 a3_1), (.int .i64 a3_2), (.int .i64 a3_3), (.int .i64 a3_4), (.int .i64 a3_5), (.int .i64 a3_6), (.int .i64 a3_7), (.int .i64 a3_8), (.int .i64 a3_9), (.int .i64 a3_10)] | 4 => v = .agg #[(.int .i64 a3_0), (.int .i64 a3_1), (.int .i64 a3_2), (.int .i64 a3_3), (.int .i64 a3_4), (.int .i64 a3_5), (.int .i64 a3_6), (.int .i64 a3_7), (.int .i64 a3_8), (.int .i64 a3_9), (.int .i64 a3_10)] | 5 => v = .agg #[(.int .i64 a4_0), (.int .i64 a4_1), (.int .i64 a4_2), (.int .i64 a4_3), (.int .i64 a4_4), (.int .i64 a4_5), (.int .i64 a4_6), (.int .i64 a4_7), (.int .i64 a4_8), (.int .i64 a4_9), (.int .i64 a4_10)] | 6 => v = .agg #[(.int .i64 a4_0), (.int .i64 a4_1), (.int .i64 a4_2), (.int .i64 a4_3), (.int .i64 a4_4), (.int .i64 a4_5), (.int .i64 a4_6), (.int .i64 a4_7), (.int .i64 a4_8), (.int .i64 a4_9), (.int .i64 a4_10)] | 7 => v = .tuple #[.agg #[(.int .i64 g_0), (.int .i64 g_1), (.int .i64 g_2), (.int .i64 g_3), (.int .i64 g_4), (.int .i64 g_5), (.int .i64 g_6), (.int .i64 g_7), (.int .i64 g_8), (.int .i64 g_9), (.int .i64 g_10)], .bool gb_] | 8 => v = .tuple #[.agg #[(.int .i64 g_0), (.int .i64 g_1), (.int .i64 g_2), (.int .i64 g_3), (.int .i64 g_4), (.int .i64 g_5), (.int .i64 g_6), (.int .i64 g_7), (.int .i64 g_8), (.int .i64 g_9), (.int .i64 g_10)], .bool gb_] | 9 => v = .agg #[(.int .i64 g_0), (.int .i64 g_1), (.int .i64 g_2), (.int .i64 g_3), (.int .i64 g_4), (.int .i64 g_5), (.int .i64 g_6), (.int .i64 g_7), (.int .i64 g_8), (.int .i64 g_9), (.int .i64 g_10)] | 10 => v = .bool gb_ | 11 => ∃ q, v = .pointer (some ⟨q, 0, none⟩) ∧ (World.drew w7).heap.size ≤ q ∧ w.heap[q]? = some (.cells #[(.int .i64 0), (.int .i64 0), (.int .i64 0), (.int .i64 0), (.int .i64 0), (.int .i64 0), (.int .i64 0), (.int .i64 0), (.int .i64 0), (.int .i64 0), (.int .i64 0)] 26 (0, 0)) | _ => True)) (by kernel_rfl) (by kernel_rfl) (by decide) (by exact Nat.le_refl 61) (fun a => Below.refl _ _) (fun a b c h1 h2 => below_step h1 h2) ?_ ?_ ?_ ?_
  · intro i v w w' hb h
    match i, h with
    | 0, h => exact h
    | 1, h => exact h
    | 2, h => exact h
    | 3, h => exact h
    | 4, h => exact h
    | 5, h => exact h
    | 6, h => exact h
    | 7, h => exact h
    | 8, h => exact h
    | 9, h => exact h
    | 10, h => exact h
    | 11, h => obtain ⟨q, h1, h2, h3⟩ := h; exact ⟨q, h1, h2, blk_below h3 hb⟩
    | _ + 12, h => trivial
  · intro _; exact AO.loose_extract rfl rfl rfl rfl (by kernel_rfl) (fun _ _ _ _ h => h) (fun l a w X hn => ⟨_, _, X.use hn 8 36 (by decide) (by kernel_rfl), rfl, rfl⟩)
  · intro i hi
    match i, hi with
    | 0, _ => exact AO.st_move (fun w => Below.refl _ _) rfl rfl rfl rfl (fun l a w X hn => show a.eval (.tmp 14) = .slice A1 t1.length c1 from (X.ev 14 (by kernel_rfl)).trans rfl)
    | 1, _ => exact AO.st_move (fun w => Below.refl _ _) rfl rfl rfl rfl (fun l a w X hn => show a.eval (.tmp 1) = .int .i64 a1 from (X.ev 1 (by kernel_rfl)).trans rfl)
    | 2, _ => exact AO.st_move (fun w => Below.refl _ _) rfl rfl rfl rfl (fun l a w X hn => show a.eval (.tmp 2) = .bool a2 from (X.ev 2 (by kernel_rfl)).trans rfl)
    | 3, _ => exact AO.st_row (fun w => Below.refl _ _) rfl rfl rfl rfl hu24 rfl (fun l a w X hn => ⟨ga, 24, #[(.int .i64 a3_0), (.int .i64 a3_1), (.int .i64 a3_2), (.int .i64 a3_3), (.int .i64 a3_4), (.int .i64 a3_5), (.int .i64 a3_6), (.int .i64 a3_7), (.int .i64 a3_8), (.int .i64 a3_9), (.int .i64 a3_10)], (0, 0), (X.ev 8 (by kernel_rfl)).trans rfl, (St.below (St.drew HS.out) X.base).at_ 2 rfl, by kernel_rfl, rfl⟩)
    | 4, _ => exact AO.st_call rfl rfl rfl Tryd.func7 (by kernel_rfl) rfl rfl (fun l a w X hn => ⟨#[.agg #[(.int .i64 a3_0), (.int .i64 a3_1), (.int .i64 a3_2), (.int .i64 a3_3), (.int .i64 a3_4), (.int .i64 a3_5), (.int .i64 a3_6), (.int .i64 a3_7), (.int .i64 a3_8), (.int .i64 a3_9), (.int .i64 a3_10)]], (by have h0 : a.eval (.tmp 40) = .agg #[(.int .i64 a3_0), (.int .i64 a3_1), (.int .i64 a3_2), (.int .i64 a3_3), (.int .i64 a3_4), (.int .i64 a3_5), (.int .i64 a3_6), (.int .i64 a3_7), (.int .i64 a3_8), (.int .i64 a3_9), (.int .i64 a3_10)] := X.use hn 3 40 (by decide) (by kernel_rfl); simp only [List.map_toArray, List.map_cons, List.map_nil, h0]), (laws_toKnow.calls a3_0 a3_1 a3_2 a3_3 a3_4 a3_5 a3_6 a3_7 a3_8 a3_9 a3_10 a3_0 a3_1 a3_2 a3_3 a3_4 a3_5 a3_6 a3_7 a3_8 a3_9 a3_10 _ rfl).mono (fun e w' he => by obtain ⟨rfl, hb⟩ := he; exact ⟨_, rfl, hb, rfl⟩)⟩)
    | 5, _ => exact AO.st_row (fun w => Below.refl _ _) rfl rfl rfl rfl hu24 rfl (fun l a w X hn => ⟨gb, 24, #[(.int .i64 a4_0), (.int .i64 a4_1), (.int .i64 a4_2), (.int .i64 a4_3), (.int .i64 a4_4), (.int .i64 a4_5), (.int .i64 a4_6), (.int .i64 a4_7), (.int .i64 a4_8), (.int .i64 a4_9), (.int .i64 a4_10)], (0, 0), (X.ev 9 (by kernel_rfl)).trans rfl, (St.below (St.drew HS.out) X.base).at_ 1 rfl, by kernel_rfl, rfl⟩)
    | 6, _ => exact AO.st_call rfl rfl rfl Tryd.func7 (by kernel_rfl) rfl rfl (fun l a w X hn => ⟨#[.agg #[(.int .i64 a4_0), (.int .i64 a4_1), (.int .i64 a4_2), (.int .i64 a4_3), (.int .i64 a4_4), (.int .i64 a4_5), (.int .i64 a4_6), (.int .i64 a4_7), (.int .i64 a4_8), (.int .i64 a4_9), (.int .i64 a4_10)]], (by have h0 : a.eval (.tmp 42) = .agg #[(.int .i64 a4_0), (.int .i64 a4_1), (.int .i64 a4_2), (.int .i64 a4_3), (.int .i64 a4_4), (.int .i64 a4_5), (.int .i64 a4_6), (.int .i64 a4_7), (.int .i64 a4_8), (.int .i64 a4_9), (.int .i64 a4_10)] := X.use hn 5 42 (by decide) (by kernel_rfl); simp only [List.map_toArray, List.map_cons, List.map_nil, h0]), (laws_toKnow.calls a4_0 a4_1 a4_2 a4_3 a4_4 a4_5 a4_6 a4_7 a4_8 a4_9 a4_10 a4_0 a4_1 a4_2 a4_3 a4_4 a4_5 a4_6 a4_7 a4_8 a4_9 a4_10 _ rfl).mono (fun e w' he => by obtain ⟨rfl, hb⟩ := he; exact ⟨_, rfl, hb, rfl⟩)⟩)
    | 7, _ => exact AO.st_call rfl rfl rfl Tryd.func8 (by kernel_rfl) rfl rfl (fun l a w X hn => by have e0 : a.eval (.tmp 37) = .slice A1 t1.length c1 := X.use hn 0 37 (by decide) (by kernel_rfl); have hC : Kd.C k40 w A1 t1.length t1 := Kd.C_below (Kd.C_drew HL.out) X.base; have hco := HLc.out; have e1 : a.eval (.tmp 38) = .int .i64 a1 := X.use hn 1 38 (by decide) (by kernel_rfl); have e2 : a.eval (.tmp 39) = .bool a2 := X.use hn 2 39 (by decide) (by kernel_rfl); have e3 : a.eval (.tmp 41) = .agg #[(.int .i64 a3_0), (.int .i64 a3_1), (.int .i64 a3_2), (.int .i64 a3_3), (.int .i64 a3_4), (.int .i64 a3_5), (.int .i64 a3_6), (.int .i64 a3_7), (.int .i64 a3_8), (.int .i64 a3_9), (.int .i64 a3_10)] := X.use hn 4 41 (by decide) (by kernel_rfl); have e4 : a.eval (.tmp 43) = .agg #[(.int .i64 a4_0), (.int .i64 a4_1), (.int .i64 a4_2), (.int .i64 a4_3), (.int .i64 a4_4), (.int .i64 a4_5), (.int .i64 a4_6), (.int .i64 a4_7), (.int .i64 a4_8), (.int .i64 a4_9), (.int .i64 a4_10)] := X.use hn 6 43 (by decide) (by kernel_rfl); exact ⟨#[.slice A1 t1.length c1, .int .i64 a1, .bool a2, .agg #[(.int .i64 a3_0), (.int .i64 a3_1), (.int .i64 a3_2), (.int .i64 a3_3), (.int .i64 a3_4), (.int .i64 a3_5), (.int .i64 a3_6), (.int .i64 a3_7), (.int .i64 a3_8), (.int .i64 a3_9), (.int .i64 a3_10)], .agg #[(.int .i64 a4_0), (.int .i64 a4_1), (.int .i64 a4_2), (.int .i64 a4_3), (.int .i64 a4_4), (.int .i64 a4_5), (.int .i64 a4_6), (.int .i64 a4_7), (.int .i64 a4_8), (.int .i64 a4_9), (.int .i64 a4_10)]], (by simp only [List.map_toArray, List.map_cons, List.map_nil, e0, e1, e2, e3, e4]), (impl_Before.calls k _ _ t1 a1 a2 a3_0 a3_1 a3_2 a3_3 a3_4 a3_5 a3_6 a3_7 a3_8 a3_9 a3_10 a4_0 a4_1 a4_2 a4_3 a4_4 a4_5 a4_6 a4_7 a4_8 a4_9 a4_10 g_0 g_1 g_2 g_3 g_4 g_5 g_6 g_7 g_8 g_9 g_10 gb_ _ hC hco Abg.out (Giv.at_ HT (St.to_below (St.below (St.drew HS.out) X.base)))).mono (fun e w' he => by obtain ⟨rfl, hb⟩ := he; exact ⟨_, rfl, hb, rfl⟩)⟩)
    | 8, _ => exact AO.st_move (fun w => Below.refl _ _) rfl rfl rfl rfl (fun l a w X hn => show a.eval (.tmp 44) = .tuple #[.agg #[(.int .i64 g_0), (.int .i64 g_1), (.int .i64 g_2), (.int .i64 g_3), (.int .i64 g_4), (.int .i64 g_5), (.int .i64 g_6), (.int .i64 g_7), (.int .i64 g_8), (.int .i64 g_9), (.int .i64 g_10)], .bool gb_] from X.use hn 7 44 (by decide) (by kernel_rfl))
    | 9, _ => exact AO.st_extract (fun w => Below.refl _ _) rfl rfl rfl rfl (fun l a w X hn => ⟨_, _, X.use hn 8 36 (by decide) (by kernel_rfl), rfl, rfl⟩)
    | 10, _ => exact AO.st_extract (fun w => Below.refl _ _) rfl rfl rfl rfl (fun l a w X hn => ⟨_, _, X.use hn 8 36 (by decide) (by kernel_rfl), rfl, rfl⟩)
    | 11, _ => exact AO.st_run rfl rfl rfl (fun l a w X hn => ⟨.pointer (some ⟨w.heap.size, 0, none⟩), w.alloc (.cells #[(.int .i64 0), (.int .i64 0), (.int .i64 0), (.int .i64 0), (.int .i64 0), (.int .i64 0), (.int .i64 0), (.int .i64 0), (.int .i64 0), (.int .i64 0), (.int .i64 0)] 26 (0, 0)), (by first | (go_simp; done) | (go_simp; rfl)), below_alloc (Below.refl _ _) _, ⟨_, rfl, X.base.size, blk_new w _⟩⟩)
    | n + 12, h => omega
  intro vs w5_ hB hp
  have p0 : vs 0 = .slice A1 t1.length c1 := hp 0 _ (by decide) rfl
  have p1 : vs 1 = .int .i64 a1 := hp 1 _ (by decide) rfl
  have p2 : vs 2 = .bool a2 := hp 2 _ (by decide) rfl
  have p3 : vs 3 = .agg #[(.int .i64 a3_0), (.int .i64 a3_1), (.int .i64 a3_2), (.int .i64 a3_3), (.int .i64 a3_4), (.int .i64 a3_5), (.int .i64 a3_6), (.int .i64 a3_7), (.int .i64 a3_8), (.int .i64 a3_9), (.int .i64 a3_10)] := hp 3 _ (by decide) rfl
  have p4 : vs 4 = .agg #[(.int .i64 a3_0), (.int .i64 a3_1), (.int .i64 a3_2), (.int .i64 a3_3), (.int .i64 a3_4), (.int .i64 a3_5), (.int .i64 a3_6), (.int .i64 a3_7), (.int .i64 a3_8), (.int .i64 a3_9), (.int .i64 a3_10)] := hp 4 _ (by decide) rfl
  have p5 : vs 5 = .agg #[(.int .i64 a4_0), (.int .i64 a4_1), (.int .i64 a4_2), (.int .i64 a4_3), (.int .i64 a4_4), (.int .i64 a4_5), (.int .i64 a4_6), (.int .i64 a4_7), (.int .i64 a4_8), (.int .i64 a4_9), (.int .i64 a4_10)] := hp 5 _ (by decide) rfl
  have p6 : vs 6 = .agg #[(.int .i64 a4_0), (.int .i64 a4_1), (.int .i64 a4_2), (.int .i64 a4_3), (.int .i64 a4_4), (.int .i64 a4_5), (.int .i64 a4_6), (.int .i64 a4_7), (.int .i64 a4_8), (.int .i64 a4_9), (.int .i64 a4_10)] := hp 6 _ (by decide) rfl
  have p7 : vs 7 = .tuple #[.agg #[(.int .i64 g_0), (.int .i64 g_1), (.int .i64 g_2), (.int .i64 g_3), (.int .i64 g_4), (.int .i64 g_5), (.int .i64 g_6), (.int .i64 g_7), (.int .i64 g_8), (.int .i64 g_9), (.int .i64 g_10)], .bool gb_] := hp 7 _ (by decide) rfl
  have p8 : vs 8 = .tuple #[.agg #[(.int .i64 g_0), (.int .i64 g_1), (.int .i64 g_2), (.int .i64 g_3), (.int .i64 g_4), (.int .i64 g_5), (.int .i64 g_6), (.int .i64 g_7), (.int .i64 g_8), (.int .i64 g_9), (.int .i64 g_10)], .bool gb_] := hp 8 _ (by decide) rfl
  have p9 : vs 9 = .agg #[(.int .i64 g_0), (.int .i64 g_1), (.int .i64 g_2), (.int .i64 g_3), (.int .i64 g_4), (.int .i64 g_5), (.int .i64 g_6), (.int .i64 g_7), (.int .i64 g_8), (.int .i64 g_9), (.int .i64 g_10)] := hp 9 _ (by decide) rfl
  have p10 : vs 10 = .bool gb_ := hp 10 _ (by decide) rfl
  obtain ⟨qg, p11, hq_, hx_⟩ : ∃ q, vs 11 = .pointer (some ⟨q, 0, none⟩) ∧ (World.drew w7).heap.size ≤ q ∧ w5_.heap[q]? = some (.cells #[(.int .i64 0), (.int .i64 0), (.int .i64 0), (.int .i64 0), (.int .i64 0), (.int .i64 0), (.int .i64 0), (.int .i64 0), (.int .i64 0), (.int .i64 0), (.int .i64 0)] 26 (0, 0)) := hp 11 _ (by decide) rfl
  clear hp
  refine AO.tail_ [(37, vs 0), (38, vs 1), (39, vs 2), (40, vs 3), (41, vs 4), (42, vs 5), (43, vs 6), (44, vs 7), (36, vs 8), (45, vs 9), (46, vs 10), (15, vs 11)] (by rfl) ?_
  refine norm_ (a' := ?_) ?_ ?_
  rotate_left
  · simp only [putAll, Act.put, List.setIfInBounds_toArray, List.set_cons_zero, List.set_cons_succ, p0, p1, p2, p3, p4, p5, p6, p7, p8, p9, p10, p11]
    rfl
  have HS1 : Aside0 (St w [] w5_ [(qg, 26, #[(.int .i64 0), (.int .i64 0), (.int .i64 0), (.int .i64 0), (.int .i64 0), (.int .i64 0), (.int .i64 0), (.int .i64 0), (.int .i64 0), (.int .i64 0), (.int .i64 0)]), (qs, 26, #[(.int .i64 s_0), (.int .i64 s_1), (.int .i64 s_2), (.int .i64 s_3), (.int .i64 s_4), (.int .i64 s_5), (.int .i64 s_6), (.int .i64 s_7), (.int .i64 s_8), (.int .i64 s_9), (.int .i64 s_10)]), (gb, 24, #[(.int .i64 a4_0), (.int .i64 a4_1), (.int .i64 a4_2), (.int .i64 a4_3), (.int .i64 a4_4), (.int .i64 a4_5), (.int .i64 a4_6), (.int .i64 a4_7), (.int .i64 a4_8), (.int .i64 a4_9), (.int .i64 a4_10)]), (ga, 24, #[(.int .i64 a3_0), (.int .i64 a3_1), (.int .i64 a3_2), (.int .i64 a3_3), (.int .i64 a3_4), (.int .i64 a3_5), (.int .i64 a3_6), (.int .i64 a3_7), (.int .i64 a3_8), (.int .i64 a3_9), (.int .i64 a3_10)])]) := ⟨St.add (St.drew HS.out) hq_ hx_ hB⟩
  refine one_ (i := 12) (N := none) #[true, true, true, true, true, true, true, true, true, true, true, true, true, false] rfl rfl (by kernel_rfl) (by simp) (fun K hK => ?_)
  rw [if_pos (by rfl)]
  refine wp_store_row 26 _ _ rfl qg #[(.int .i64 g_0), (.int .i64 g_1), (.int .i64 g_2), (.int .i64 g_3), (.int .i64 g_4), (.int .i64 g_5), (.int .i64 g_6), (.int .i64 g_7), (.int .i64 g_8), (.int .i64 g_9), (.int .i64 g_10)] rfl rfl 26 _ hx_ (by kernel_rfl) rfl (by first | rfl | (simp; done) | (simp [Value.oneCell']; done)) ?_
  refine hK.out _ _ trivial (fun hHeld => ?_)
  clear hK K hHeld
  have HS2 : Aside0 (St w [] (w5_.setRow qg #[(.int .i64 g_0), (.int .i64 g_1), (.int .i64 g_2), (.int .i64 g_3), (.int .i64 g_4), (.int .i64 g_5), (.int .i64 g_6), (.int .i64 g_7), (.int .i64 g_8), (.int .i64 g_9), (.int .i64 g_10)]) [(qg, 26, #[(.int .i64 g_0), (.int .i64 g_1), (.int .i64 g_2), (.int .i64 g_3), (.int .i64 g_4), (.int .i64 g_5), (.int .i64 g_6), (.int .i64 g_7), (.int .i64 g_8), (.int .i64 g_9), (.int .i64 g_10)]), (qs, 26, #[(.int .i64 s_0), (.int .i64 s_1), (.int .i64 s_2), (.int .i64 s_3), (.int .i64 s_4), (.int .i64 s_5), (.int .i64 s_6), (.int .i64 s_7), (.int .i64 s_8), (.int .i64 s_9), (.int .i64 s_10)]), (gb, 24, #[(.int .i64 a4_0), (.int .i64 a4_1), (.int .i64 a4_2), (.int .i64 a4_3), (.int .i64 a4_4), (.int .i64 a4_5), (.int .i64 a4_6), (.int .i64 a4_7), (.int .i64 a4_8), (.int .i64 a4_9), (.int .i64 a4_10)]), (ga, 24, #[(.int .i64 a3_0), (.int .i64 a3_1), (.int .i64 a3_2), (.int .i64 a3_3), (.int .i64 a3_4), (.int .i64 a3_5), (.int .i64 a3_6), (.int .i64 a3_7), (.int .i64 a3_8), (.int .i64 a3_9), (.int .i64 a3_10)])] ∧ Below (World.drew w7).heap.size (World.drew w7) (w5_.setRow qg #[(.int .i64 g_0), (.int .i64 g_1), (.int .i64 g_2), (.int .i64 g_3), (.int .i64 g_4), (.int .i64 g_5), (.int .i64 g_6), (.int .i64 g_7), (.int .i64 g_8), (.int .i64 g_9), (.int .i64 g_10)])) := ⟨St.row HS1.out 0 rfl #[(.int .i64 g_0), (.int .i64 g_1), (.int .i64 g_2), (.int .i64 g_3), (.int .i64 g_4), (.int .i64 g_5), (.int .i64 g_6), (.int .i64 g_7), (.int .i64 g_8), (.int .i64 g_9), (.int .i64 g_10)] rfl, St.below_row hB hq_ _⟩
  clear HS1 hx_
  refine one_ (i := 13) (N := some 16) #[true, true, true, true, true, true, true, true, true, true, true, true, true, true] rfl rfl (by kernel_rfl) (by simp) (fun K hK => ?_)
  refine event_step (by rfl) (v := .bool gb_) (by first | rfl | (go_simp; done) | (go_simp; rfl)) ?_
  refine hK.out _ _ trivial (fun hHeld => ?_)
  clear hK K hHeld
  refine norm_ (a' := ?_) ?_ ?_
  rotate_left
  · simp only [putAll, Act.put, List.setIfInBounds_toArray, List.set_cons_zero, List.set_cons_succ]
    rfl
  refine done_ (by kernel_rfl) ?_
  clear p0 p1 p2 p3 p4 p5 p6 p7 p8 p9 p10 p11 hq_ hB
  go_upto_region 8 with (fail)
  refine KF.gen_ (fun w' => St w [] w' [(qg, 26, #[(.int .i64 g_0), (.int .i64 g_1), (.int .i64 g_2), (.int .i64 g_3), (.int .i64 g_4), (.int .i64 g_5), (.int .i64 g_6), (.int .i64 g_7), (.int .i64 g_8), (.int .i64 g_9), (.int .i64 g_10)]), (qs, 26, #[(.int .i64 s_0), (.int .i64 s_1), (.int .i64 s_2), (.int .i64 s_3), (.int .i64 s_4), (.int .i64 s_5), (.int .i64 s_6), (.int .i64 s_7), (.int .i64 s_8), (.int .i64 s_9), (.int .i64 s_10)]), (gb, 24, #[(.int .i64 a4_0), (.int .i64 a4_1), (.int .i64 a4_2), (.int .i64 a4_3), (.int .i64 a4_4), (.int .i64 a4_5), (.int .i64 a4_6), (.int .i64 a4_7), (.int .i64 a4_8), (.int .i64 a4_9), (.int .i64 a4_10)]), (ga, 24, #[(.int .i64 a3_0), (.int .i64 a3_1), (.int .i64 a3_2), (.int .i64 a3_3), (.int .i64 a3_4), (.int .i64 a3_5), (.int .i64 a3_6), (.int .i64 a3_7), (.int .i64 a3_8), (.int .i64 a3_9), (.int .i64 a3_10)])] ∧ Kd.C k40 w' A1 t1.length t1) ⟨HS2.out.1, Kd.C_below (Kd.C_drew HL.out) HS2.out.2⟩ ?_
  rintro w8 ⟨n0_, n1_⟩
  clear HS HS2 HL
  have HS := Aside0.mk n0_
  have HL := Aside0.mk n1_
  clear n0_ n1_
  have hz_qg_0 : w8.cell? ⟨qg, 0, none⟩ = some (.int .i64 g_0) := HS.out.cell 0 0 rfl rfl
  have hz_qg_1 : w8.cell? ⟨qg, 1, none⟩ = some (.int .i64 g_1) := HS.out.cell 0 1 rfl rfl
  have hz_qg_2 : w8.cell? ⟨qg, 2, none⟩ = some (.int .i64 g_2) := HS.out.cell 0 2 rfl rfl
  have hz_qg_3 : w8.cell? ⟨qg, 3, none⟩ = some (.int .i64 g_3) := HS.out.cell 0 3 rfl rfl
  have hz_qg_4 : w8.cell? ⟨qg, 4, none⟩ = some (.int .i64 g_4) := HS.out.cell 0 4 rfl rfl
  have hz_qg_5 : w8.cell? ⟨qg, 5, none⟩ = some (.int .i64 g_5) := HS.out.cell 0 5 rfl rfl
  have hz_qg_6 : w8.cell? ⟨qg, 6, none⟩ = some (.int .i64 g_6) := HS.out.cell 0 6 rfl rfl
  have hz_qg_7 : w8.cell? ⟨qg, 7, none⟩ = some (.int .i64 g_7) := HS.out.cell 0 7 rfl rfl
  have hz_qg_8 : w8.cell? ⟨qg, 8, none⟩ = some (.int .i64 g_8) := HS.out.cell 0 8 rfl rfl
  have hz_qg_9 : w8.cell? ⟨qg, 9, none⟩ = some (.int .i64 g_9) := HS.out.cell 0 9 rfl rfl
  have hz_qg_10 : w8.cell? ⟨qg, 10, none⟩ = some (.int .i64 g_10) := HS.out.cell 0 10 rfl rfl
  have hz_qs_0 : w8.cell? ⟨qs, 0, none⟩ = some (.int .i64 s_0) := HS.out.cell 1 0 rfl rfl
  have hz_qs_1 : w8.cell? ⟨qs, 1, none⟩ = some (.int .i64 s_1) := HS.out.cell 1 1 rfl rfl
  have hz_qs_2 : w8.cell? ⟨qs, 2, none⟩ = some (.int .i64 s_2) := HS.out.cell 1 2 rfl rfl
  have hz_qs_3 : w8.cell? ⟨qs, 3, none⟩ = some (.int .i64 s_3) := HS.out.cell 1 3 rfl rfl
  have hz_qs_4 : w8.cell? ⟨qs, 4, none⟩ = some (.int .i64 s_4) := HS.out.cell 1 4 rfl rfl
  have hz_qs_5 : w8.cell? ⟨qs, 5, none⟩ = some (.int .i64 s_5) := HS.out.cell 1 5 rfl rfl
  have hz_qs_6 : w8.cell? ⟨qs, 6, none⟩ = some (.int .i64 s_6) := HS.out.cell 1 6 rfl rfl
  have hz_qs_7 : w8.cell? ⟨qs, 7, none⟩ = some (.int .i64 s_7) := HS.out.cell 1 7 rfl rfl
  have hz_qs_8 : w8.cell? ⟨qs, 8, none⟩ = some (.int .i64 s_8) := HS.out.cell 1 8 rfl rfl
  have hz_qs_9 : w8.cell? ⟨qs, 9, none⟩ = some (.int .i64 s_9) := HS.out.cell 1 9 rfl rfl
  have hz_qs_10 : w8.cell? ⟨qs, 10, none⟩ = some (.int .i64 s_10) := HS.out.cell 1 10 rfl rfl
  have hbb : (gb_ != gb_) = false := by simp
  go_wp2_with (first | (go_at_call 9; (with_reducible refine (laws_eqKnow.calls g_0 g_1 g_2 g_3 g_4 g_5 g_6 g_7 g_8 g_9 g_10 s_0 s_1 s_2 s_3 s_4 s_5 s_6 s_7 s_8 s_9 s_10 true _ Ae.out).mono ?_); rintro e w9 ⟨rfl, hb_⟩; have n_ : Aside0 (St w [] w9 [(qg, 26, #[(.int .i64 g_0), (.int .i64 g_1), (.int .i64 g_2), (.int .i64 g_3), (.int .i64 g_4), (.int .i64 g_5), (.int .i64 g_6), (.int .i64 g_7), (.int .i64 g_8), (.int .i64 g_9), (.int .i64 g_10)]), (qs, 26, #[(.int .i64 s_0), (.int .i64 s_1), (.int .i64 s_2), (.int .i64 s_3), (.int .i64 s_4), (.int .i64 s_5), (.int .i64 s_6), (.int .i64 s_7), (.int .i64 s_8), (.int .i64 s_9), (.int .i64 s_10)]), (gb, 24, #[(.int .i64 a4_0), (.int .i64 a4_1), (.int .i64 a4_2), (.int .i64 a4_3), (.int .i64 a4_4), (.int .i64 a4_5), (.int .i64 a4_6), (.int .i64 a4_7), (.int .i64 a4_8), (.int .i64 a4_9), (.int .i64 a4_10)]), (ga, 24, #[(.int .i64 a3_0), (.int .i64 a3_1), (.int .i64 a3_2), (.int .i64 a3_3), (.int .i64 a3_4), (.int .i64 a3_5), (.int .i64 a3_6), (.int .i64 a3_7), (.int .i64 a3_8), (.int .i64 a3_9), (.int .i64 a3_10)])]) := ⟨St.below (by repeat (first | (with_reducible exact HS.out) | refine St.drewN ?_ _ | refine St.drew ?_ | refine St.alloc ?_ _)) hb_⟩; clear HS; have HS := n_; clear n_; clear hz_qg_0 hz_qg_1 hz_qg_2 hz_qg_3 hz_qg_4 hz_qg_5 hz_qg_6 hz_qg_7 hz_qg_8 hz_qg_9 hz_qg_10 hz_qs_0 hz_qs_1 hz_qs_2 hz_qs_3 hz_qs_4 hz_qs_5 hz_qs_6 hz_qs_7 hz_qs_8 hz_qs_9 hz_qs_10; have n1_ := Aside0.mk (Kd.C_below HL.out hb_); clear HL; have HL := n1_; clear n1_ hb_) | (go_at_call 6; (with_reducible refine (laws_toCycS.calls k _ _ l0 t1 _ (Kd.C_below HR0.out (St.to_below (by repeat (first | (with_reducible exact HS.out) | refine St.drewN ?_ _ | refine St.drew ?_ | refine St.alloc ?_ _)))) HC0.out At1.out).mono ?_); rintro e w10 ⟨v_, rfl, ho_, hb_⟩; obtain ⟨A2, c2, rfl, h2_, h3_⟩ := Kd.R_reads ho_; have n_ : Aside0 (St w [] w10 [(qg, 26, #[(.int .i64 g_0), (.int .i64 g_1), (.int .i64 g_2), (.int .i64 g_3), (.int .i64 g_4), (.int .i64 g_5), (.int .i64 g_6), (.int .i64 g_7), (.int .i64 g_8), (.int .i64 g_9), (.int .i64 g_10)]), (qs, 26, #[(.int .i64 s_0), (.int .i64 s_1), (.int .i64 s_2), (.int .i64 s_3), (.int .i64 s_4), (.int .i64 s_5), (.int .i64 s_6), (.int .i64 s_7), (.int .i64 s_8), (.int .i64 s_9), (.int .i64 s_10)]), (gb, 24, #[(.int .i64 a4_0), (.int .i64 a4_1), (.int .i64 a4_2), (.int .i64 a4_3), (.int .i64 a4_4), (.int .i64 a4_5), (.int .i64 a4_6), (.int .i64 a4_7), (.int .i64 a4_8), (.int .i64 a4_9), (.int .i64 a4_10)]), (ga, 24, #[(.int .i64 a3_0), (.int .i64 a3_1), (.int .i64 a3_2), (.int .i64 a3_3), (.int .i64 a3_4), (.int .i64 a3_5), (.int .i64 a3_6), (.int .i64 a3_7), (.int .i64 a3_8), (.int .i64 a3_9), (.int .i64 a3_10)])]) := ⟨St.below (by repeat (first | (with_reducible exact HS.out) | refine St.drewN ?_ _ | refine St.drew ?_ | refine St.alloc ?_ _)) hb_⟩; clear HS; have HS := n_; clear n_; have HM := Aside0.mk h3_; have HMc := Aside0.mk h2_; have n1_ := Aside0.mk (Kd.C_below HL.out hb_); clear HL; have HL := n1_; clear n1_; clear hb_ ho_ h2_ h3_) | (go_at_call 10; (with_reducible refine (laws_eqCycS.calls k _ _ t1 _ _ t1 true _ HL.out HLc.out HM.out HMc.out Ac.out).mono ?_); rintro e w11 ⟨rfl, hb_⟩; have n_ : Aside0 (St w [] w11 [(qg, 26, #[(.int .i64 g_0), (.int .i64 g_1), (.int .i64 g_2), (.int .i64 g_3), (.int .i64 g_4), (.int .i64 g_5), (.int .i64 g_6), (.int .i64 g_7), (.int .i64 g_8), (.int .i64 g_9), (.int .i64 g_10)]), (qs, 26, #[(.int .i64 s_0), (.int .i64 s_1), (.int .i64 s_2), (.int .i64 s_3), (.int .i64 s_4), (.int .i64 s_5), (.int .i64 s_6), (.int .i64 s_7), (.int .i64 s_8), (.int .i64 s_9), (.int .i64 s_10)]), (gb, 24, #[(.int .i64 a4_0), (.int .i64 a4_1), (.int .i64 a4_2), (.int .i64 a4_3), (.int .i64 a4_4), (.int .i64 a4_5), (.int .i64 a4_6), (.int .i64 a4_7), (.int .i64 a4_8), (.int .i64 a4_9), (.int .i64 a4_10)]), (ga, 24, #[(.int .i64 a3_0), (.int .i64 a3_1), (.int .i64 a3_2), (.int .i64 a3_3), (.int .i64 a3_4), (.int .i64 a3_5), (.int .i64 a3_6), (.int .i64 a3_7), (.int .i64 a3_8), (.int .i64 a3_9), (.int .i64 a3_10)])]) := ⟨St.below (by repeat (first | (with_reducible exact HS.out) | refine St.drewN ?_ _ | refine St.drew ?_ | refine St.alloc ?_ _)) hb_⟩; clear HS; have HS := n_; clear n_; clear hb_))
  go_ret
  exact ⟨rfl, St.to_below (by repeat (first | (with_reducible exact HS.out) | refine St.drewN ?_ _ | refine St.drew ?_ | refine St.alloc ?_ _))⟩
def Good47 (x : S47) : Prop := (Lit.int .u16 x.f0).wf = true ∧ (Lit.int .u8 x.f1).wf = true

/-- THE ONE PURE STATEMENT of laws_FnExactBefore: yours. -/
def laws_FnExactBefore.Pure : Prop := ∀ (l0 : List (S47)) (a1 : Int) (a2 : Bool) (a3_0 : Int) (a3_1 : Int) (a3_2 : Int) (a3_3 : Int) (a3_4 : Int) (a3_5 : Int) (a3_6 : Int) (a3_7 : Int) (a3_8 : Int) (a3_9 : Int) (a3_10 : Int) (a4_0 : Int) (a4_1 : Int) (a4_2 : Int) (a4_3 : Int) (a4_4 : Int) (a4_5 : Int) (a4_6 : Int) (a4_7 : Int) (a4_8 : Int) (a4_9 : Int) (a4_10 : Int), l0.length ≤ maxLen → l0.length * 4 ≤ 140737488351232 → (∀ x ∈ l0, Good47 x) → (Lit.int .i64 a1).wf = true → (Lit.int .i64 a3_0).wf = true → (Lit.int .i64 a3_1).wf = true → (Lit.int .i64 a3_2).wf = true → (Lit.int .i64 a3_3).wf = true → (Lit.int .i64 a3_4).wf = true → (Lit.int .i64 a3_5).wf = true → (Lit.int .i64 a3_6).wf = true → (Lit.int .i64 a3_7).wf = true → (Lit.int .i64 a3_8).wf = true → (Lit.int .i64 a3_9).wf = true → (Lit.int .i64 a3_10).wf = true → (Lit.int .i64 a4_0).wf = true → (Lit.int .i64 a4_1).wf = true → (Lit.int .i64 a4_2).wf = true → (Lit.int .i64 a4_3).wf = true → (Lit.int .i64 a4_4).wf = true → (Lit.int .i64 a4_5).wf = true → (Lit.int .i64 a4_6).wf = true → (Lit.int .i64 a4_7).wf = true → (Lit.int .i64 a4_8).wf = true → (Lit.int .i64 a4_9).wf = true → (Lit.int .i64 a4_10).wf = true → ∃ k, laws_FnExactBefore.f k l0 a1 a2 a3_0 a3_1 a3_2 a3_3 a3_4 a3_5 a3_6 a3_7 a3_8 a3_9 a3_10 a4_0 a4_1 a4_2 a4_3 a4_4 a4_5 a4_6 a4_7 a4_8 a4_9 a4_10 = some true

end Go.Proofs.YtaclekdigolhkaaDoor.MC
