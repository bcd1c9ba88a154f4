/-
Contracts of Go's library at this seat's dump: the shelf's structures, laid.
-/
import Derived.Shelf.SlicesE.Compact
import Derived.Test.YtfahgmdnmceleaaDoorProg
set_option linter.unusedVariables false
namespace Go.Proofs
open Go.Shelf
def Tryd.laysCompact_ren : Go.Shelf.Ren := ⟨fun | 43 => 35 | n => n, fun | 22 => 25 | 23 => 42 | 3 => 3 | 4 => 4 | 0 => 0 | n => n, fun n => n⟩
theorem Tryd.laysCompact : Go.Proofs.SlLaysE.n43 Tryd.prog Tryd.laysCompact_ren := {
  mixed := by kernel_rfl
  f43 := ⟨"slices.Compact[[]uint16,uint16]", by decide, Tryd.func35.trans (congrArg some (by kernel_rfl))⟩
  t0 := Tryd.underlying0
  a0 := Tryd.isAgg0
  z0 := Tryd.sizeOf0
  v0 := Tryd.zeroValue0
  t3 := Tryd.underlying3
  a3 := Tryd.isAgg3
  z3 := Tryd.sizeOf3
  v3 := Tryd.zeroValue3
  t4 := Tryd.underlying4
  a4 := Tryd.isAgg4
  z4 := Tryd.sizeOf4
  v4 := Tryd.zeroValue4
  t22 := Tryd.underlying25
  a22 := Tryd.isAgg25
  z22 := Tryd.sizeOf25
  v22 := Tryd.zeroValue25
  a23 := Tryd.isAgg42
  z23 := Tryd.sizeOf42 }
end Go.Proofs
