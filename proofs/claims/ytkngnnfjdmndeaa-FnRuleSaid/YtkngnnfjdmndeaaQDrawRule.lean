/-
The draws of a rule: whatever the bytes, a rule comes of them, with parts in their types' ranges.
-/
import Derived.Test.YtkngnnfjdmndeaaMQx0
import Derived.Test.YtkngnnfjdmndeaaMQx5
import Derived.Test.YtkngnnfjdmndeaaMQx6
import Derived.Test.YtkngnnfjdmndeaaMQx7
import Derived.Test.YtkngnnfjdmndeaaBit
import Derived.Test.YtkngnnfjdmndeaaLst
set_option linter.unusedSimpArgs false
set_option linter.unusedVariables false
namespace Go.Proofs.Ytkngnnfjdmndeaa.MQD
open Go.RowKit Go.Proofs.Ytkngnnfjdmndeaa.MQ Go.Proofs.YtkngnnfjdmndeaaW.PrintWords Go.Proofs.YtkngnnfjdmndeaaW.PrintLast Go.Proofs.Ytkngnnfjdmndeaa.Bit Go.Proofs.Ytkngnnfjdmndeaa.Lst

theorem and255 (x : Int) : 0 ≤ Go.bits .and .i64 x 255 ∧ Go.bits .and .i64 x 255 ≤ 255 := by
  have h : Go.bits .and .i64 x 255 = wrap64 (((BitVec.ofInt 64 x &&& 255#64).toNat : Nat) : Int) := (i64_w _)
  have b : (BitVec.ofInt 64 x &&& 255#64).toNat ≤ 255 := by
    rw [BitVec.toNat_and]
    exact Nat.and_le_right
  rw [h]
  generalize (BitVec.ofInt 64 x &&& 255#64).toNat = v at b
  rw [wrap_in (by omega) (by omega)]
  omega
/-- A place in the bytes that are drawn from. -/
def At (L : List Int) (p : Int) : Prop := 0 ≤ p ∧ p ≤ (L.length : Int) ∧ (L.length : Int) < 4611686018427387904
theorem byte_ok (L : List Int) (p s : Int) (h : At L p) : ∃ v p' s', spec_l01Byte.f L p s = some (v, p', s') ∧ (0 ≤ v ∧ v ≤ 255) ∧ At L p' := by
  obtain ⟨h0, h1, h2⟩ := h
  unfold spec_l01Byte.f
  by_cases c : p < (L.length : Int)
  · rw [if_pos c, if_pos h0]
    refine ⟨_, _, _, rfl, and255 _, ?_⟩
    rw [wrap_in (by omega) (by omega)]
    exact ⟨by omega, by omega, h2⟩
  · rw [if_neg c]
    exact ⟨_, _, _, rfl, and255 _, h0, h1, h2⟩
theorem below_ok (L : List Int) (p s n : Int) (h : At L p) (hn : 0 < n) : ∃ v p' s', spec_l01Below.f L p s n = some (v, p', s') ∧ (0 ≤ v ∧ v < n) ∧ At L p' := by
  unfold spec_l01Below.f
  rw [if_neg (by omega)]
  by_cases c : n ≤ 256
  · obtain ⟨v, p', s', e, hv, hp⟩ := byte_ok L p s h
    rw [if_pos c, e]
    refine ⟨Int.tmod v n, p', s', by simp only [Option.bind_some]; rw [if_neg (by omega)], ?_, hp⟩
    rw [Int.tmod_eq_emod_of_nonneg hv.1]
    exact ⟨Int.emod_nonneg _ (by omega), Int.emod_lt_of_pos _ hn⟩
  · obtain ⟨v0, p0, s0, e0, hv0, hp0⟩ := byte_ok L p s h
    obtain ⟨v1, p1, s1, e1, hv1, hp1⟩ := byte_ok L p0 s0 hp0
    obtain ⟨v2, p2, s2, e2, hv2, hp2⟩ := byte_ok L p1 s1 hp1
    obtain ⟨v3, p3, s3, e3, hv3, hp3⟩ := byte_ok L p2 s2 hp2
    have a0 : wrap64 (v0 * 16777216) = v0 * 16777216 := wrap_in (by omega) (by omega)
    have a1 : wrap64 (v1 * 65536) = v1 * 65536 := wrap_in (by clear a0; omega) (by clear a0; omega)
    have a2 : wrap64 (v2 * 256) = v2 * 256 := wrap_in (by clear a0 a1; omega) (by clear a0 a1; omega)
    have a3 : wrap64 (v0 * 16777216 + v1 * 65536) = v0 * 16777216 + v1 * 65536 := wrap_in (by clear a0 a1 a2; omega) (by clear a0 a1 a2; omega)
    have a4 : wrap64 (v0 * 16777216 + v1 * 65536 + v2 * 256) = v0 * 16777216 + v1 * 65536 + v2 * 256 := wrap_in (by clear a0 a1 a2 a3; omega) (by clear a0 a1 a2 a3; omega)
    have a5 : wrap64 (v0 * 16777216 + v1 * 65536 + v2 * 256 + v3) = v0 * 16777216 + v1 * 65536 + v2 * 256 + v3 := wrap_in (by clear a0 a1 a2 a3 a4; omega) (by clear a0 a1 a2 a3 a4; omega)
    rw [if_neg c, e0]
    simp only [Option.bind_some, e1, e2, e3, a0, a1, a2, a3, a4, a5]
    clear a0 a1 a2 a3 a4 a5
    rw [if_neg (by omega)]
    refine ⟨_, _, _, rfl, ?_, hp3⟩
    rw [Int.tmod_eq_emod_of_nonneg (by omega)]
    exact ⟨Int.emod_nonneg _ (by omega), Int.emod_lt_of_pos _ hn⟩
theorem once_ok (L : List Int) (p s n : Int) (h : At L p) (hn : 0 < n) : ∃ v p' s', spec_l01Once.f L p s n = some (v, p', s') ∧ At L p' := by
  obtain ⟨v, p', s', e, _, hp⟩ := below_ok L p s n h hn
  unfold spec_l01Once.f
  rw [e]
  exact ⟨_, p', s', rfl, hp⟩
theorem pick_ok (L : List Int) (p s : Int) (l : List Int) (h : At L p) (hl : 0 < l.length) : ∃ v p' s', spec_l01PickInt.f L p s l = some (v, p', s') ∧ v ∈ l ∧ At L p' := by
  obtain ⟨v, p', s', e, hv, hp⟩ := below_ok L p s (l.length : Int) h (by omega)
  unfold spec_l01PickInt.f
  rw [e]
  refine ⟨rd l v, p', s', by simp only [Option.bind_some]; rw [if_pos hv.1, if_pos hv.2], ?_, hp⟩
  unfold rd
  have hi : v.toNat < l.length := by omega
  rw [List.getD_eq_getElem?_getD, List.getElem?_eq_getElem hi]
  exact List.getElem_mem hi
theorem byte2_ok (L : List Int) (p s : Int) (h : At L p) : ∃ v p' s', spec_l02Byte.f L p s = some (v, p', s') ∧ (0 ≤ v ∧ v < 256) ∧ At L p' := by
  obtain ⟨b, p0, s0, e0, hp0⟩ := once_ok L p s 2 h (by decide)
  unfold spec_l02Byte.f
  rw [e0]
  simp only [Option.bind_some]
  by_cases c : b = true
  · obtain ⟨v, p1, s1, e1, _, hp1⟩ := pick_ok L p0 s0 [0, 1, 9, 16, 127, 128, 153, 255, 154, 80] hp0 (by decide)
    rw [if_pos c, e1]
    exact ⟨v % 256, p1, s1, rfl, by omega, hp1⟩
  · obtain ⟨v, p1, s1, e1, _, hp1⟩ := byte_ok L p0 s0 hp0
    rw [if_neg c, e1]
    exact ⟨v % 256, p1, s1, rfl, by omega, hp1⟩
theorem wrap16_range (x : Int) : 0 ≤ IntKind.u16.wrap x ∧ IntKind.u16.wrap x < 65536 := by
  have e : IntKind.u16.wrap x = x % 65536 := by simp [IntKind.wrap, IntKind.bits, IntKind.signed]
  rw [e]
  omega
theorem pc_ok (L : List Int) (p s : Int) (h : At L p) : ∃ v p' s', spec_l04Pc.f L p s = some (v, p', s') ∧ (0 ≤ v ∧ v < 65536) ∧ At L p' := by
  obtain ⟨b, p0, s0, e0, _, hp0⟩ := below_ok L p s 65536 h (by decide)
  obtain ⟨v, p1, s1, e1, _, hp1⟩ := pick_ok L p0 s0 [0, 255, 512, 4096, 32768, 65535, 65530, b] hp0 (by simp)
  unfold spec_l04Pc.f
  rw [e0]
  simp only [Option.bind_some, e1]
  exact ⟨_, p1, s1, rfl, wrap16_range v, hp1⟩
abbrev R7 := Int × Int × Int × Int × Int × Int × Int
/-- A rule's parts in range, and the place behind the draw. -/
def Ok7 (L : List Int) (r : R7) : Prop := (0 ≤ r.1 ∧ r.1 < 65536) ∧ (0 ≤ r.2.1 ∧ r.2.1 < 65536) ∧ (0 ≤ r.2.2.1 ∧ r.2.2.1 < 256) ∧ (0 ≤ r.2.2.2.1 ∧ r.2.2.2.1 < 256) ∧ At L r.2.2.2.2.2.1
theorem j2_ok (L : List Int) (p s a b : Int) (w : Bool) (a0 a1 a2 a3 a4 : Int) (h : At L p) (h0 : 0 ≤ a0 ∧ a0 < 65536) (h1 : 0 ≤ a1 ∧ a1 < 65536) (h2 : 0 ≤ a2 ∧ a2 < 256) (h3 : 0 ≤ a3 ∧ a3 < 256) :
    ∃ r, Ev (fun k => spec_l15Rule.j2 k L p s a b w a0 a1 a2 a3 a4) r ∧ Ok7 L r := by
  by_cases c : w = true
  · obtain ⟨v, p', s', e, hp⟩ := once_ok L p s 2 h (by decide)
    by_cases d : v = true
    · refine ⟨(a0, a1, a2, a3, 1, p', s'), Ev.step (f := fun _ => some (a0, a1, a2, a3, 1, p', s')) (fun k => ?_) (Ev.now _), h0, h1, h2, h3, hp⟩
      simp only [spec_l15Rule.j2, if_pos c, e, Option.bind_some, if_pos d]
    · refine ⟨(a0, a1, a2, a3, a4, p', s'), Ev.step (f := fun _ => some (a0, a1, a2, a3, a4, p', s')) (fun k => ?_) (Ev.now _), h0, h1, h2, h3, hp⟩
      simp only [spec_l15Rule.j2, if_pos c, e, Option.bind_some, if_neg d]
  · refine ⟨(a0, a1, a2, a3, a4, p, s), Ev.step (f := fun _ => some (a0, a1, a2, a3, a4, p, s)) (fun k => ?_) (Ev.now _), h0, h1, h2, h3, h⟩
    simp only [spec_l15Rule.j2, if_neg c]
theorem j1_ok (L : List Int) (p s a b : Int) (w : Bool) (h : At L p) (ha : 0 ≤ a ∧ a < 65536) :
    ∃ r, Ev (fun k => spec_l15Rule.j1 k L p s a b w) r ∧ Ok7 L r := by
  obtain ⟨v0, p0, s0, e0, _, hp0⟩ := pick_ok L p s [0, 255, 255, 240, 15] h (by decide)
  obtain ⟨v1, p1, s1, e1, _, hp1⟩ := pick_ok L p0 s0 [0, 1, 2, 2] hp0 (by decide)
  obtain ⟨v2, p2, s2, e2, hp2⟩ := once_ok L p1 s1 2 hp1 (by decide)
  have hw := bits_and8_range b (v0 % 256)
  by_cases c : v2 = true
  · obtain ⟨r, hr, ok⟩ := j2_ok L p2 s2 a b w (IntKind.u16.wrap ((IntKind.u16.wrap (Int.tdiv a 256)) * 256)) (IntKind.u16.wrap ((IntKind.u16.wrap ((IntKind.u16.wrap (Int.tdiv a 256)) * 256)) + 255)) (v0 % 256) (Go.bits .and .u8 b (v0 % 256)) v1 hp2 (wrap16_range _) (wrap16_range _) (by omega) hw
    refine ⟨r, Ev.step (fun k => ?_) hr, ok⟩
    simp only [spec_l15Rule.j1, e0, Option.bind_some, e1, e2, if_pos c]
  · obtain ⟨r, hr, ok⟩ := j2_ok L p2 s2 a b w a a (v0 % 256) (Go.bits .and .u8 b (v0 % 256)) v1 hp2 ha ha (by omega) hw
    refine ⟨r, Ev.step (fun k => ?_) hr, ok⟩
    simp only [spec_l15Rule.j1, e0, Option.bind_some, e1, e2, if_neg c]
/-- A row of cycles that begins with one in range, or none. -/
def Cycs (l : List S34) : Prop := ∀ x ∈ l, (0 ≤ x.f0 ∧ x.f0 < 65536)
theorem j0_ok (L : List Int) (l : List S34) (q : Bool) (p s a b : Int) (h : At L p) (ha : 0 ≤ a ∧ a < 65536) (hl : Cycs l) (hq : q = true → 0 < l.length) :
    ∃ r, Ev (fun k => spec_l15Rule.j0 k l q L p s a b false) r ∧ Ok7 L r := by
  by_cases c : q = true
  · obtain ⟨v, p0, s0, e0, hv, hp0⟩ := below_ok L p s (l.length : Int) h (by have := hq c; omega)
    have hi : v.toNat < l.length := by omega
    have hx : (rd_T34 l v) ∈ l := by
      unfold rd_T34
      rw [List.getD_eq_getElem?_getD, List.getElem?_eq_getElem hi]
      exact List.getElem_mem hi
    obtain ⟨r, hr, ok⟩ := j1_ok L p0 s0 (rd_T34 l v).f0 (rd_T34 l v).f1 (rd_T34 l v).f2 hp0 (hl _ hx)
    refine ⟨r, Ev.step (fun k => ?_) hr, ok⟩
    simp only [spec_l15Rule.j0, if_pos c, e0, Option.bind_some, if_pos hv.1, if_pos hv.2]
  · obtain ⟨r, hr, ok⟩ := j1_ok L p s a b false h ha
    refine ⟨r, Ev.step (fun k => ?_) hr, ok⟩
    simp only [spec_l15Rule.j0, if_neg c]
theorem rule_ok (L : List Int) (l : List S34) (p s : Int) (h : At L p) (hl : Cycs l) : ∃ r, Ev (fun k => spec_l15Rule.f k L p s l) r ∧ Ok7 L r := by
  obtain ⟨a, p0, s0, e0, ha, hp0⟩ := pc_ok L p s h
  obtain ⟨b, p1, s1, e1, _, hp1⟩ := byte2_ok L p0 s0 hp0
  unfold spec_l15Rule.f
  simp only [e0, Option.bind_some, e1]
  by_cases c : (l.length : Int) > 0
  · obtain ⟨v, p2, s2, e2, _, hp2⟩ := below_ok L p1 s1 4 hp1 (by decide)
    simp only [if_pos c, e2, Option.bind_some]
    exact j0_ok L l _ p2 s2 a b hp2 ha hl (fun _ => by omega)
  · simp only [if_neg c]
    exact j0_ok L l false p1 s1 a b hp1 ha hl (fun hh => absurd hh (by decide))
theorem any_ok (L : List Int) (l : List S34) (p s : Int) (h : At L p) (hl : Cycs l) : ∃ r, Ev (fun k => spec_l15Any.f k L p s l) r ∧ Ok7 L r := by
  obtain ⟨⟨a0, a1, a2, a3, a4, p0, s0⟩, hr, h0, h1, h2, h3, hp0⟩ := rule_ok L l p s h hl
  obtain ⟨v, p1, s1, e1, _, hp1⟩ := below_ok L p0 s0 14 hp0 (by decide)
  unfold spec_l15Any.f
  by_cases c0 : v = 0
  · obtain ⟨u, p2, s2, e2, _, hp2⟩ := pick_ok L p1 s1 [-1, 3] hp1 (by decide)
    refine ⟨(a0, a1, a2, a3, u, p2, s2), Ev.bind hr ?_, h0, h1, h2, h3, hp2⟩
    simp only [e1, Option.bind_some, if_pos c0, e2]
    exact Ev.now _
  · by_cases c1 : v = 1
    · obtain ⟨u, p2, s2, e2, hu, hp2⟩ := byte2_ok L p1 s1 hp1
      refine ⟨(a0, a1, u, a3, a4, p2, s2), Ev.bind hr ?_, h0, h1, hu, h3, hp2⟩
      simp only [e1, Option.bind_some, if_neg c0, if_pos c1, e2]
      exact Ev.now _
    · by_cases c2 : v = 2
      · refine ⟨(a0, IntKind.u16.wrap (a0 - 1), a2, a3, a4, p1, s1), Ev.bind hr ?_, h0, wrap16_range _, h2, h3, hp1⟩
        simp only [e1, Option.bind_some, if_neg c0, if_neg c1, if_pos c2]
        exact Ev.now _
      · by_cases c3 : v = 3
        · obtain ⟨u, p2, s2, e2, hu, hp2⟩ := byte2_ok L p1 s1 hp1
          refine ⟨(a0, a1, a2, u, a4, p2, s2), Ev.bind hr ?_, h0, h1, h2, hu, hp2⟩
          simp only [e1, Option.bind_some, if_neg c0, if_neg c1, if_neg c2, if_pos c3, e2]
          exact Ev.now _
        · refine ⟨(a0, a1, a2, a3, a4, p1, s1), Ev.bind hr ?_, h0, h1, h2, h3, hp1⟩
          simp only [e1, Option.bind_some, if_neg c0, if_neg c1, if_neg c2, if_neg c3]
          exact Ev.now _
theorem new_ok (L : List Int) (hL : (L.length : Int) < 4611686018427387904) : ∃ s, Ev (fun k => spec_l01New.f k L) (L, 0, s) := by
  have go : ∀ (d i : Nat) (x : Int), i + d = L.length → ∃ s, Ev (fun k => spec_l01New.l0 k L x (i : Int)) (L, 0, s) := by
    intro d
    induction d with
    | zero =>
      intro i x h
      refine ⟨x, Ev.step (f := fun _ => some (L, 0, x)) (fun k => ?_) (Ev.now _)⟩
      simp only [spec_l01New.l0]
      rw [if_neg (by omega)]
    | succ d ih =>
      intro i x h
      by_cases c : (i : Int) < 4000
      · obtain ⟨s, hs⟩ := ih (i + 1) (Go.bits .and .i64 (wrap64 ((wrap64 ((wrap64 (x * 131)) + (wrap64 (rd L (i : Int))))) + 7)) 1073741823) (by omega)
        refine ⟨s, Ev.step (fun k => ?_) hs⟩
        simp only [spec_l01New.l0]
        rw [if_pos (by omega), if_pos c, if_pos (by omega), w1 (by omega)]
      · refine ⟨x, Ev.step (f := fun _ => some (L, 0, x)) (fun k => ?_) (Ev.now _)⟩
        simp only [spec_l01New.l0]
        rw [if_pos (by omega), if_neg c]
  unfold spec_l01New.f
  exact go L.length 0 _ (by omega)
theorem at_zero (L : List Int) (hL : (L.length : Int) < 4611686018427387904) : At L 0 := ⟨by omega, by omega, hL⟩
theorem draw_text (L : List Int) (hL : (L.length : Int) < 4611686018427387904) : ∃ a0 a1 a2 a3 a4, Ev (fun k => spec_DrawRuleText.f k L) (a0, a1, a2, a3, a4) ∧ (0 ≤ a0 ∧ a0 < 65536) ∧ (0 ≤ a1 ∧ a1 < 65536) ∧ (0 ≤ a2 ∧ a2 < 256) ∧ (0 ≤ a3 ∧ a3 < 256) := by
  obtain ⟨s, hs⟩ := new_ok L hL
  obtain ⟨⟨a0, a1, a2, a3, a4, p0, s0⟩, hr, h0, h1, h2, h3, _⟩ := any_ok L [] 0 s (at_zero L hL) (fun x h => absurd h (by simp))
  exact ⟨a0, a1, a2, a3, a4, Ev.bind hs (Ev.bind hr (Ev.now _)), h0, h1, h2, h3⟩
theorem draw_takes (L : List Int) (hL : (L.length : Int) < 4611686018427387904) : ∃ a0 a1 a2 a3 a4 x0 x1 x2, Ev (fun k => spec_DrawTakes.f k L) (a0, a1, a2, a3, a4, x0, x1, x2) ∧ (0 ≤ x0 ∧ x0 < 65536) ∧ (0 ≤ x1 ∧ x1 < 256) := by
  obtain ⟨s, hs⟩ := new_ok L hL
  obtain ⟨x0, p0, s0, e0, hx0, hp0⟩ := pc_ok L 0 s (at_zero L hL)
  obtain ⟨x1, p1, s1, e1, hx1, hp1⟩ := byte2_ok L p0 s0 hp0
  obtain ⟨x2, p2, s2, e2, hp2⟩ := once_ok L p1 s1 3 hp1 (by decide)
  obtain ⟨⟨a0, a1, a2, a3, a4, p3, s3⟩, hr, _⟩ := any_ok L [(⟨x0, x1, x2⟩ : S34)] p2 s2 hp2 (fun x h => by
    simp at h
    subst h
    exact hx0)
  refine ⟨a0, a1, a2, a3, a4, x0, x1, x2, ?_, hx0, hx1⟩
  unfold spec_DrawTakes.f
  refine Ev.bind hs ?_
  simp only [e0, Option.bind_some, e1, e2]
  exact Ev.bind hr (Ev.now _)
end Go.Proofs.Ytkngnnfjdmndeaa.MQD
