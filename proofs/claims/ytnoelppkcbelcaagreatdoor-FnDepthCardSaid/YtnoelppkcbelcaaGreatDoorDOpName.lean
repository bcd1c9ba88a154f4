/-
Operations, byte by byte: the program's name of each of the 256 bytes is the reference's.
-/
import Derived.Test.YtnoelppkcbelcaaGreatDoorMDx2
import Derived.Test.YtnoelppkcbelcaaGreatDoorMDx5
import Derived.Test.YtnoelppkcbelcaaGreatDoorLst
set_option linter.unusedSimpArgs false
set_option linter.unusedVariables false
namespace Go.Proofs.YtnoelppkcbelcaaGreatDoor.MDO
open Go.RowKit Go.Proofs.YtnoelppkcbelcaaGreatDoor.MD Go.Proofs.YtnoelppkcbelcaaGreatDoorW.PrintWords Go.Proofs.YtnoelppkcbelcaaGreatDoorW.PrintLast Go.Proofs.YtnoelppkcbelcaaGreatDoor.Lst

def opOf (j : Nat) : List UInt8 × Int := match impl_operation.f 20 (j : Int) with | some p => (p.1.data.toList, p.2) | none => ([], 0)
def nm (j : Nat) : ByteArray := ⟨(opOf j).1.toArray⟩
def md (j : Nat) : Int := (opOf j).2
set_option maxRecDepth 100000 in
theorem ops_all : ∀ i : Fin 256, impl_operation.f 20 (i.val : Int) = some (nm i.val, md i.val) ∧ spec_NameOf.f 20 (i.val : Int) = some (nm i.val) := by decide +kernel
theorem op_ev {j : Nat} (h : j < 256) : Ev (fun k => impl_operation.f k (j : Int)) (nm j, md j) := Ev.of (fun k => impl_operation.mono _ k) (ops_all ⟨j, h⟩).1
theorem name_ev {j : Nat} (h : j < 256) : Ev (fun k => spec_NameOf.f k (j : Int)) (nm j) := Ev.of (fun k => spec_NameOf.mono _ k) (ops_all ⟨j, h⟩).2
theorem wf_u8 {a : Int} (h : (Lit.int .u8 a).wf = true) : 0 ≤ a ∧ a ≤ 255 := by simpa [Lit.wf, IntKind.min, IntKind.max, IntKind.bits, IntKind.signed] using h
end Go.Proofs.YtnoelppkcbelcaaGreatDoor.MDO
