/-
Draws: whatever the bytes, something comes of them, in its range.
-/
import Derived.Test.YtlglpolokcnlhaaDoorMKx6
import Derived.Test.YtlglpolokcnlhaaDoorMKx8
import Derived.Test.YtlglpolokcnlhaaDoorBit
import Derived.Test.YtlglpolokcnlhaaDoorLst
set_option linter.unusedSimpArgs false
set_option linter.unusedVariables false
namespace Go.Proofs.YtlglpolokcnlhaaDoor.MKD
open Go.RowKit Go.Proofs.YtlglpolokcnlhaaDoor.MK Go.Proofs.YtlglpolokcnlhaaDoorW.PrintWords Go.Proofs.YtlglpolokcnlhaaDoorW.PrintLast Go.Proofs.YtlglpolokcnlhaaDoor.Bit Go.Proofs.YtlglpolokcnlhaaDoor.Lst

theorem and255 (x : Int) : 0 ≤ Go.bits .and .i64 x 255 ∧ Go.bits .and .i64 x 255 ≤ 255 := by
  have h : Go.bits .and .i64 x 255 = wrap64 (((BitVec.ofInt 64 x &&& 255#64).toNat : Nat) : Int) := (i64_w _)
  have b : (BitVec.ofInt 64 x &&& 255#64).toNat ≤ 255 := by
    rw [BitVec.toNat_and]
    exact Nat.and_le_right
  rw [h]
  generalize (BitVec.ofInt 64 x &&& 255#64).toNat = v at b
  rw [wrap_in (by omega) (by omega)]
  omega
/-- A place in the bytes that are drawn from. -/
def At (L : List Int) (p : Int) : Prop := 0 ≤ p ∧ p ≤ (L.length : Int) ∧ (L.length : Int) < 4611686018427387904
theorem byte_ok (L : List Int) (p s : Int) (h : At L p) : ∃ v p' s', spec_l01Byte.f L p s = some (v, p', s') ∧ (0 ≤ v ∧ v ≤ 255) ∧ At L p' := by
  obtain ⟨h0, h1, h2⟩ := h
  unfold spec_l01Byte.f
  by_cases c : p < (L.length : Int)
  · rw [if_pos c, if_pos h0]
    refine ⟨_, _, _, rfl, and255 _, ?_⟩
    rw [wrap_in (by omega) (by omega)]
    exact ⟨by omega, by omega, h2⟩
  · rw [if_neg c]
    exact ⟨_, _, _, rfl, and255 _, h0, h1, h2⟩
theorem below_ok (L : List Int) (p s n : Int) (h : At L p) (hn : 0 < n) : ∃ v p' s', spec_l01Below.f L p s n = some (v, p', s') ∧ (0 ≤ v ∧ v < n) ∧ At L p' := by
  unfold spec_l01Below.f
  rw [if_neg (by omega)]
  by_cases c : n ≤ 256
  · obtain ⟨v, p', s', e, hv, hp⟩ := byte_ok L p s h
    rw [if_pos c, e]
    refine ⟨Int.tmod v n, p', s', by simp only [Option.bind_some]; rw [if_neg (by omega)], ?_, hp⟩
    rw [Int.tmod_eq_emod_of_nonneg hv.1]
    exact ⟨Int.emod_nonneg _ (by omega), Int.emod_lt_of_pos _ hn⟩
  · obtain ⟨v0, p0, s0, e0, hv0, hp0⟩ := byte_ok L p s h
    obtain ⟨v1, p1, s1, e1, hv1, hp1⟩ := byte_ok L p0 s0 hp0
    obtain ⟨v2, p2, s2, e2, hv2, hp2⟩ := byte_ok L p1 s1 hp1
    obtain ⟨v3, p3, s3, e3, hv3, hp3⟩ := byte_ok L p2 s2 hp2
    have a0 : wrap64 (v0 * 16777216) = v0 * 16777216 := wrap_in (by omega) (by omega)
    have a1 : wrap64 (v1 * 65536) = v1 * 65536 := wrap_in (by clear a0; omega) (by clear a0; omega)
    have a2 : wrap64 (v2 * 256) = v2 * 256 := wrap_in (by clear a0 a1; omega) (by clear a0 a1; omega)
    have a3 : wrap64 (v0 * 16777216 + v1 * 65536) = v0 * 16777216 + v1 * 65536 := wrap_in (by clear a0 a1 a2; omega) (by clear a0 a1 a2; omega)
    have a4 : wrap64 (v0 * 16777216 + v1 * 65536 + v2 * 256) = v0 * 16777216 + v1 * 65536 + v2 * 256 := wrap_in (by clear a0 a1 a2 a3; omega) (by clear a0 a1 a2 a3; omega)
    have a5 : wrap64 (v0 * 16777216 + v1 * 65536 + v2 * 256 + v3) = v0 * 16777216 + v1 * 65536 + v2 * 256 + v3 := wrap_in (by clear a0 a1 a2 a3 a4; omega) (by clear a0 a1 a2 a3 a4; omega)
    rw [if_neg c, e0]
    simp only [Option.bind_some, e1, e2, e3, a0, a1, a2, a3, a4, a5]
    clear a0 a1 a2 a3 a4 a5
    rw [if_neg (by omega)]
    refine ⟨_, _, _, rfl, ?_, hp3⟩
    rw [Int.tmod_eq_emod_of_nonneg (by omega)]
    exact ⟨Int.emod_nonneg _ (by omega), Int.emod_lt_of_pos _ hn⟩
theorem once_ok (L : List Int) (p s n : Int) (h : At L p) (hn : 0 < n) : ∃ v p' s', spec_l01Once.f L p s n = some (v, p', s') ∧ At L p' := by
  obtain ⟨v, p', s', e, _, hp⟩ := below_ok L p s n h hn
  unfold spec_l01Once.f
  rw [e]
  exact ⟨_, p', s', rfl, hp⟩
theorem pick_ok (L : List Int) (p s : Int) (l : List Int) (h : At L p) (hl : 0 < l.length) : ∃ v p' s', spec_l01PickInt.f L p s l = some (v, p', s') ∧ v ∈ l ∧ At L p' := by
  obtain ⟨v, p', s', e, hv, hp⟩ := below_ok L p s (l.length : Int) h (by omega)
  unfold spec_l01PickInt.f
  rw [e]
  refine ⟨rd l v, p', s', by simp only [Option.bind_some]; rw [if_pos hv.1, if_pos hv.2], ?_, hp⟩
  unfold rd
  have hi : v.toNat < l.length := by omega
  rw [List.getD_eq_getElem?_getD, List.getElem?_eq_getElem hi]
  exact List.getElem_mem hi
theorem byte2_ok (L : List Int) (p s : Int) (h : At L p) : ∃ v p' s', spec_l02Byte.f L p s = some (v, p', s') ∧ (0 ≤ v ∧ v < 256) ∧ At L p' := by
  obtain ⟨b, p0, s0, e0, hp0⟩ := once_ok L p s 2 h (by decide)
  unfold spec_l02Byte.f
  rw [e0]
  simp only [Option.bind_some]
  by_cases c : b = true
  · obtain ⟨v, p1, s1, e1, _, hp1⟩ := pick_ok L p0 s0 [0, 1, 9, 16, 127, 128, 153, 255, 154, 80] hp0 (by decide)
    rw [if_pos c, e1]
    exact ⟨v % 256, p1, s1, rfl, by omega, hp1⟩
  · obtain ⟨v, p1, s1, e1, _, hp1⟩ := byte_ok L p0 s0 hp0
    rw [if_neg c, e1]
    exact ⟨v % 256, p1, s1, rfl, by omega, hp1⟩
theorem wrap16_range (x : Int) : 0 ≤ IntKind.u16.wrap x ∧ IntKind.u16.wrap x < 65536 := by
  have e : IntKind.u16.wrap x = x % 65536 := by simp [IntKind.wrap, IntKind.bits, IntKind.signed]
  rw [e]
  omega
theorem pc_ok (L : List Int) (p s : Int) (h : At L p) : ∃ v p' s', spec_l04Pc.f L p s = some (v, p', s') ∧ (0 ≤ v ∧ v < 65536) ∧ At L p' := by
  obtain ⟨b, p0, s0, e0, _, hp0⟩ := below_ok L p s 65536 h (by decide)
  obtain ⟨v, p1, s1, e1, _, hp1⟩ := pick_ok L p0 s0 [0, 255, 512, 4096, 32768, 65535, 65530, b] hp0 (by simp)
  unfold spec_l04Pc.f
  rw [e0]
  simp only [Option.bind_some, e1]
  exact ⟨_, p1, s1, rfl, wrap16_range v, hp1⟩
theorem new_ok (L : List Int) (hL : (L.length : Int) < 4611686018427387904) : ∃ s, Ev (fun k => spec_l01New.f k L) (L, 0, s) := by
  have go : ∀ (d i : Nat) (x : Int), i + d = L.length → ∃ s, Ev (fun k => spec_l01New.l0 k L x (i : Int)) (L, 0, s) := by
    intro d
    induction d with
    | zero =>
      intro i x h
      refine ⟨x, Ev.step (f := fun _ => some (L, 0, x)) (fun k => ?_) (Ev.now _)⟩
      simp only [spec_l01New.l0]
      rw [if_neg (by omega)]
    | succ d ih =>
      intro i x h
      by_cases c : (i : Int) < 4000
      · obtain ⟨s, hs⟩ := ih (i + 1) (Go.bits .and .i64 (wrap64 ((wrap64 ((wrap64 (x * 131)) + (wrap64 (rd L (i : Int))))) + 7)) 1073741823) (by omega)
        refine ⟨s, Ev.step (fun k => ?_) hs⟩
        simp only [spec_l01New.l0]
        rw [if_pos (by omega), if_pos c, if_pos (by omega), w1 (by omega)]
      · refine ⟨x, Ev.step (f := fun _ => some (L, 0, x)) (fun k => ?_) (Ev.now _)⟩
        simp only [spec_l01New.l0]
        rw [if_pos (by omega), if_neg c]
  unfold spec_l01New.f
  exact go L.length 0 _ (by omega)
theorem at_zero (L : List Int) (hL : (L.length : Int) < 4611686018427387904) : At L 0 := ⟨by omega, by omega, hL⟩
end Go.Proofs.YtlglpolokcnlhaaDoor.MKD
