/-
Operations, byte by byte: the program's name and mode of each of the 256 bytes are the reference's.
-/
import Derived.Test.YtlglpolokcnlhaaDoorMKx2
import Derived.Test.YtlglpolokcnlhaaDoorMKx7
import Derived.Test.YtlglpolokcnlhaaDoorLst
set_option linter.unusedSimpArgs false
set_option linter.unusedVariables false
namespace Go.Proofs.YtlglpolokcnlhaaDoor.MKO
open Go.RowKit Go.Proofs.YtlglpolokcnlhaaDoor.MK Go.Proofs.YtlglpolokcnlhaaDoorW.PrintWords Go.Proofs.YtlglpolokcnlhaaDoorW.PrintLast Go.Proofs.YtlglpolokcnlhaaDoor.Lst

def opOf (j : Nat) : List UInt8 × Int := match impl_operation.f 20 (j : Int) with | some p => (p.1.data.toList, p.2) | none => ([], 0)
def nm (j : Nat) : ByteArray := ⟨(opOf j).1.toArray⟩
def md (j : Nat) : Int := (opOf j).2
set_option maxRecDepth 100000 in
theorem ops_all : ∀ i : Fin 256, impl_operation.f 20 (i.val : Int) = some (nm i.val, md i.val) ∧ spec_NameOf.f 20 (i.val : Int) = some (nm i.val) ∧ spec_ModeOf.f 20 (i.val : Int) = some (md i.val) := by decide +kernel
theorem op_ev {j : Nat} (h : j < 256) : Ev (fun k => impl_operation.f k (j : Int)) (nm j, md j) := Ev.of (fun k => impl_operation.mono _ k) (ops_all ⟨j, h⟩).1
theorem name_ev {j : Nat} (h : j < 256) : Ev (fun k => spec_NameOf.f k (j : Int)) (nm j) := Ev.of (fun k => spec_NameOf.mono _ k) (ops_all ⟨j, h⟩).2.1
theorem mode_ev {j : Nat} (h : j < 256) : Ev (fun k => spec_ModeOf.f k (j : Int)) (md j) := Ev.of (fun k => spec_ModeOf.mono _ k) (ops_all ⟨j, h⟩).2.2
theorem wf_u8 {a : Int} (h : (Lit.int .u8 a).wf = true) : 0 ≤ a ∧ a ≤ 255 := by simpa [Lit.wf, IntKind.min, IntKind.max, IntKind.bits, IntKind.signed] using h
end Go.Proofs.YtlglpolokcnlhaaDoor.MKO
