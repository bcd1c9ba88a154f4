/-
Contracts of Go's library at this seat's dump: the shelf's structures, laid.
-/
import Derived.Shelf.SlicesE.Compact
import Derived.Test.YtnoelppkcbelcaaProg
set_option linter.unusedVariables false
namespace Go.Proofs
open Go.Shelf
def Try.laysCompact_ren : Go.Shelf.Ren := ⟨fun | 43 => 75 | n => n, fun | 22 => 57 | 23 => 30 | 3 => 3 | 4 => 4 | 0 => 0 | n => n, fun n => n⟩
theorem Try.laysCompact : Go.Proofs.SlLaysE.n43 Try.prog Try.laysCompact_ren := {
  mixed := by kernel_rfl
  f43 := ⟨"slices.Compact[[]uint16,uint16]", by decide, Try.func75.trans (congrArg some (by kernel_rfl))⟩
  t0 := Try.underlying0
  a0 := Try.isAgg0
  z0 := Try.sizeOf0
  v0 := Try.zeroValue0
  t3 := Try.underlying3
  a3 := Try.isAgg3
  z3 := Try.sizeOf3
  v3 := Try.zeroValue3
  t4 := Try.underlying4
  a4 := Try.isAgg4
  z4 := Try.sizeOf4
  v4 := Try.zeroValue4
  t22 := Try.underlying57
  a22 := Try.isAgg57
  z22 := Try.sizeOf57
  v22 := Try.zeroValue57
  a23 := Try.isAgg30
  z23 := Try.sizeOf30 }
end Go.Proofs
