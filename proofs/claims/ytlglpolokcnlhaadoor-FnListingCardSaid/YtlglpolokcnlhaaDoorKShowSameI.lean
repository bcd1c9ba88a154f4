/-
ShowOp: the program's text of an operation is the reference's.
-/
import Derived.Test.YtlglpolokcnlhaaDoorMKx2
import Derived.Test.YtlglpolokcnlhaaDoorMKx8
import Derived.Test.YtlglpolokcnlhaaDoorKOpSame
import Derived.Test.YtlglpolokcnlhaaDoorKHexImpl
import Derived.Test.YtlglpolokcnlhaaDoorBit
set_option linter.unusedSimpArgs false
set_option linter.unusedVariables false
namespace Go.Proofs.YtlglpolokcnlhaaDoor.MKS
open Go.RowKit Go.Proofs.YtlglpolokcnlhaaDoor.MK Go.Proofs.YtlglpolokcnlhaaDoorW.PrintWords Go.Proofs.YtlglpolokcnlhaaDoorW.PrintLast Go.Proofs.YtlglpolokcnlhaaDoor.Lst Go.Proofs.YtlglpolokcnlhaaDoor.MKO Go.Proofs.YtlglpolokcnlhaaDoor.MKH

/-- How many bytes an operation of a mode has. -/
def sz (m : Int) : Nat := if m = -1 then 0 else if m = 0 then 1 else if m = 1 then 1 else if m = 6 then 3 else if m = 7 then 3 else if m = 8 then 3 else if m = 9 then 3 else 2
set_option maxRecDepth 100000 in
theorem size_all : ∀ i : Fin 256, spec_SizeOf.f 20 (i.val : Int) = some ((sz (md i.val) : Nat) : Int) ∧ impl_SizeOf.f 20 (i.val : Int) = some ((sz (md i.val) : Nat) : Int) ∧ -1 ≤ md i.val ∧ md i.val ≤ 12 ∧ (nm i.val).size ≤ 3 := by decide +kernel
theorem ssize_ev {j : Nat} (h : j < 256) : Ev (fun k => spec_SizeOf.f k (j : Int)) ((sz (md j) : Nat) : Int) := Ev.of (fun k => spec_SizeOf.mono _ k) (size_all ⟨j, h⟩).1
theorem isize_ev {j : Nat} (h : j < 256) : Ev (fun k => impl_SizeOf.f k (j : Int)) ((sz (md j) : Nat) : Int) := Ev.of (fun k => impl_SizeOf.mono _ k) (size_all ⟨j, h⟩).2.1
abbrev D : ByteArray := ⟨#[36]⟩
def hx2 (b : Nat) : ByteArray := strOfNums (hexL 2 b)
def one (b1 : Nat) : ByteArray := D ++ hx2 b1
def two (b1 b2 : Nat) : ByteArray := (D ++ hx2 b2) ++ hx2 b1
def off (b : Int) : Int := if b ≥ 128 then b - 256 else b
def tg (pc : Int) (b1 : Nat) : Nat := ((pc + 2 + off b1) % 65536).toNat
def opnd (m : Int) (b1 b2 : Nat) (t : Nat) : ByteArray :=
  if m = 1 then ⟨#[65]⟩ else if m = 2 then ⟨#[35]⟩ ++ one b1 else if m = 3 then one b1 else if m = 4 then one b1 ++ ⟨#[44, 88]⟩ else if m = 5 then one b1 ++ ⟨#[44, 89]⟩
  else if m = 6 then two b1 b2 else if m = 7 then two b1 b2 ++ ⟨#[44, 88]⟩ else if m = 8 then two b1 b2 ++ ⟨#[44, 89]⟩ else if m = 9 then (⟨#[40]⟩ ++ two b1 b2) ++ ⟨#[41]⟩
  else if m = 10 then (⟨#[40]⟩ ++ one b1) ++ ⟨#[44, 88, 41]⟩ else if m = 11 then (⟨#[40]⟩ ++ one b1) ++ ⟨#[41, 44, 89]⟩ else D ++ strOfNums (hexL 4 t)
/-- The text of the operation that bytes begin with. -/
def showL (l : List Int) (pc : Int) : ByteArray :=
  if l.length = 0 then ⟨#[]⟩ else
  let j := (rd l 0).toNat
  if sz (md j) = 0 then ⟨#[]⟩ else if l.length < sz (md j) then ⟨#[]⟩ else
  if md j = 0 then nm j else (nm j ++ ⟨#[32]⟩) ++ opnd (md j) (rd l 1).toNat (rd l 2).toNat (tg pc (rd l 1).toNat)
theorem c1 (a : UInt8) : (⟨#[a]⟩ : ByteArray).size = 1 := rfl
theorem c2 (a b : UInt8) : (⟨#[a, b]⟩ : ByteArray).size = 2 := rfl
theorem c3 (a b c : UInt8) : (⟨#[a, b, c]⟩ : ByteArray).size = 3 := rfl
theorem hx2_size (b : Nat) : (hx2 b).size = 2 := by unfold hx2; rw [str_size, hexL_len]
theorem hx4_size (b : Nat) : (strOfNums (hexL 4 b)).size = 4 := by rw [str_size, hexL_len]
theorem one_size (b : Nat) : (one b).size = 3 := by unfold one; rw [ByteArray.size_append, hx2_size]; rfl
theorem two_size (a b : Nat) : (two a b).size = 5 := by unfold two; rw [ByteArray.size_append, ByteArray.size_append, hx2_size, hx2_size]; rfl
theorem bytes_rd {l : List Int} (h : ∀ x ∈ l, 0 ≤ x ∧ x < 256) (i : Nat) : 0 ≤ rd l (i : Int) ∧ rd l (i : Int) < 256 := by
  unfold rd
  rw [Int.toNat_natCast, List.getD_eq_getElem?_getD]
  cases hx : l[i]? with
  | none => simp
  | some x => simpa using h x (List.mem_of_getElem? hx)
theorem rd_nat {l : List Int} (h : ∀ x ∈ l, 0 ≤ x ∧ x < 256) (i : Nat) : rd l (i : Int) = (((rd l (i : Int)).toNat : Nat) : Int) ∧ (rd l (i : Int)).toNat < 256 := by
  have := bytes_rd h i
  omega
theorem hex4_two (b1 b2 : Nat) (h1 : b1 < 256) (h2 : b2 < 256) : strOfNums (hexL 4 (b1 + 256 * b2)) = hx2 b2 ++ hx2 b1 := by
  unfold hx2
  rw [← str_app]
  congr 1
  simp only [hexL, List.nil_append, List.append_assoc, List.cons_append]
  have e1 : (b1 + 256 * b2) / 16 / 16 / 16 % 16 = b2 / 16 % 16 := by omega
  have e2 : (b1 + 256 * b2) / 16 / 16 % 16 = b2 % 16 := by omega
  have e3 : (b1 + 256 * b2) / 16 % 16 = b1 / 16 % 16 := by omega
  have e4 : (b1 + 256 * b2) % 16 = b1 % 16 := by omega
  rw [e1, e2, e3, e4]
theorem bv_mask (x : BitVec 64) : (x &&& 65535#64).toNat = x.toNat % 65536 := by
  rw [BitVec.toNat_and]
  exact Nat.and_two_pow_sub_one_eq_mod _ 16
theorem and16 (x : Int) : Go.bits .and .i64 x 65535 = x % 65536 := by
  have e : Go.bits .and .i64 x 65535 = IntKind.i64.wrap ((BitVec.ofInt 64 x &&& BitVec.ofInt 64 65535).toNat : Int) := rfl
  rw [e, show BitVec.ofInt 64 65535 = 65535#64 from rfl, bv_mask, IntKind.wrap_i64, BitVec.toNat_ofInt]
  omega
theorem w_i8 (n : Int) : IntKind.i8.wrap n = (n + 128) % 256 - 128 := by
  simp [IntKind.wrap, IntKind.bits, IntKind.signed]
  split <;> omega
theorem w_i16 (n : Int) : IntKind.i16.wrap n = (n + 32768) % 65536 - 32768 := by
  simp [IntKind.wrap, IntKind.bits, IntKind.signed]
  split <;> omega
theorem w_u16 (n : Int) : IntKind.u16.wrap n = n % 65536 := by simp [IntKind.wrap, IntKind.bits, IntKind.signed]
theorem target_same (pc : Int) (hp : 0 ≤ pc ∧ pc < 65536) (b : Nat) (hb : b < 256) : impl_target.f pc (b : Int) = some ((tg pc b : Nat) : Int) := by
  unfold impl_target.f tg off
  congr 1
  rw [w_i8, w_i16, w_u16, w_u16, w_u16]
  split <;> omega
theorem off_range (b : Nat) (hb : b < 256) : -128 ≤ off b ∧ off b ≤ 127 := by
  unfold off
  split <;> omega
end Go.Proofs.YtlglpolokcnlhaaDoor.MKS
