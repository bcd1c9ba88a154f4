/-
Plain facts on whole numbers of Go's kinds and on bits: no program in sight.
-/
import Derived.Laws.BitsLemmas
import GoSem.Claim
set_option linter.unusedSimpArgs false
set_option linter.unusedVariables false
namespace Go.Proofs.Ytnoelppkcbelcaa.Bit

theorem wf_u8 {a : Int} (h : (Lit.int .u8 a).wf = true) : 0 ≤ a ∧ a < 256 := by
  simp [Lit.wf, IntKind.min, IntKind.max, IntKind.signed, IntKind.bits] at h; omega
theorem wf_u16 {a : Int} (h : (Lit.int .u16 a).wf = true) : 0 ≤ a ∧ a < 65536 := by
  simp [Lit.wf, IntKind.min, IntKind.max, IntKind.signed, IntKind.bits] at h; omega
theorem wf_i64 {a : Int} (h : (Lit.int .i64 a).wf = true) : -9223372036854775808 ≤ a ∧ a ≤ 9223372036854775807 := by
  simp [Lit.wf, IntKind.min, IntKind.max, IntKind.signed, IntKind.bits] at h; omega

theorem bv_andNot (a b : BitVec 8) : a &&& ~~~b = 0#8 ↔ a &&& b = a := by
  constructor
  · intro h
    ext i hi
    have := congrArg (fun v : BitVec 8 => v[i]) h
    simp at this ⊢
    exact this
  · intro h
    ext i hi
    have := congrArg (fun v : BitVec 8 => v[i]) h
    simp at this ⊢
    exact this
theorem u8_back {a : Int} (ha : 0 ≤ a ∧ a < 256) : ((BitVec.ofInt 8 a).toNat : Int) = a := by
  rw [BitVec.toNat_ofInt]
  omega
theorem u8_wrap (v : BitVec 8) : IntKind.u8.wrap (v.toNat : Int) = v.toNat := by
  rw [IntKind.wrap_u8]
  have := v.isLt
  omega
theorem bits_and8 (a b : Int) : Go.bits .and .u8 a b = ((BitVec.ofInt 8 a &&& BitVec.ofInt 8 b).toNat : Int) := by
  exact u8_wrap _
theorem bits_andNot8 (a b : Int) : Go.bits .andNot .u8 a b = ((BitVec.ofInt 8 a &&& ~~~(BitVec.ofInt 8 b)).toNat : Int) := by
  exact u8_wrap _
theorem bits_or8 (a b : Int) : Go.bits .or .u8 a b = ((BitVec.ofInt 8 a ||| BitVec.ofInt 8 b).toNat : Int) := by
  exact u8_wrap _
theorem bits_xor8 (a b : Int) : Go.bits .xor .u8 a b = ((BitVec.ofInt 8 a ^^^ BitVec.ofInt 8 b).toNat : Int) := by
  exact u8_wrap _
theorem bits_and8_range (a b : Int) : 0 ≤ Go.bits .and .u8 a b ∧ Go.bits .and .u8 a b < 256 := by
  rw [bits_and8]
  have := (BitVec.ofInt 8 a &&& BitVec.ofInt 8 b).isLt
  omega
theorem bits_or8_range (a b : Int) : 0 ≤ Go.bits .or .u8 a b ∧ Go.bits .or .u8 a b < 256 := by
  rw [bits_or8]
  have := (BitVec.ofInt 8 a ||| BitVec.ofInt 8 b).isLt
  omega
theorem andNot_zero {a b : Int} (ha : 0 ≤ a ∧ a < 256) : Go.bits .andNot .u8 a b = 0 ↔ Go.bits .and .u8 a b = a := by
  rw [bits_andNot8, bits_and8]
  have h := bv_andNot (BitVec.ofInt 8 a) (BitVec.ofInt 8 b)
  constructor
  · intro h1
    rw [h.1 (BitVec.eq_of_toNat_eq (by simpa using h1))]
    exact u8_back ha
  · intro h1
    have h2 : BitVec.ofInt 8 a &&& BitVec.ofInt 8 b = BitVec.ofInt 8 a := BitVec.eq_of_toNat_eq (by have := u8_back ha; omega)
    rw [h.2 h2]
    rfl
theorem tdiv16 {a : Int} (ha : 0 ≤ a ∧ a < 256) : Int.tdiv a 16 % 256 = a / 16 := by
  rw [Int.tdiv_eq_ediv_of_nonneg ha.1]
  omega
end Go.Proofs.Ytnoelppkcbelcaa.Bit
