/-
Contracts of Go's library at this seat's dump: the shelf's structures, laid.
-/
import Derived.Shelf.SlSortCmp.Xorshift
import Derived.Test.YtnoelppkcbelcaaProg
set_option linter.unusedVariables false
namespace Go.Proofs
open Go.Shelf
def Try.laysNext_ren : Go.Shelf.Ren := ⟨fun | 48 => 131 | n => n, fun | 76 => 174 | 55 => 146 | 0 => 0 | 66 => 161 | 39 => 95 | n => n, fun n => n⟩
theorem Try.laysNext : Go.Proofs.SlLaysF0.n48 Try.prog Try.laysNext_ren := {
  mixed := by kernel_rfl
  f48 := Try.func131.trans (congrArg some (by kernel_rfl))
  t0 := Try.underlying0
  a0 := Try.isAgg0
  z0 := Try.sizeOf0
  v0 := Try.zeroValue0
  t39 := Try.underlying95
  a39 := Try.isAgg95
  z39 := Try.sizeOf95
  v39 := Try.zeroValue95
  t55 := Try.underlying146
  a55 := Try.isAgg146
  z55 := Try.sizeOf146
  v55 := Try.zeroValue146
  t66 := Try.underlying161
  a66 := Try.isAgg161
  z66 := Try.sizeOf161
  v66 := Try.zeroValue161
  t76 := Try.underlying174
  a76 := Try.isAgg174
  z76 := Try.sizeOf174
  v76 := Try.zeroValue174 }
def Try.laysPow_ren : Go.Shelf.Ren := ⟨fun | 47 => 130 | 15 => 89 | 28 => 113 | 29 => 114 | n => n, fun | 3 => 3 | 39 => 95 | 53 => 144 | 55 => 146 | 4 => 4 | 5 => 5 | 9 => 9 | n => n, fun n => n⟩
theorem Try.laysPow : Go.Proofs.SlLaysF0.n47 Try.prog Try.laysPow_ren := {
  mixed := by kernel_rfl
  f15 := Try.func89.trans (congrArg some (by kernel_rfl))
  f28 := Try.func113.trans (congrArg some (by kernel_rfl))
  f29 := Try.func114.trans (congrArg some (by kernel_rfl))
  f47 := Try.func130.trans (congrArg some (by kernel_rfl))
  t3 := Try.underlying3
  a3 := Try.isAgg3
  z3 := Try.sizeOf3
  v3 := Try.zeroValue3
  t4 := Try.underlying4
  a4 := Try.isAgg4
  z4 := Try.sizeOf4
  v4 := Try.zeroValue4
  t5 := Try.underlying5
  a5 := Try.isAgg5
  z5 := Try.sizeOf5
  v5 := Try.zeroValue5
  t9 := Try.underlying9
  a9 := Try.isAgg9
  z9 := Try.sizeOf9
  v9 := Try.zeroValue9
  t39 := Try.underlying95
  a39 := Try.isAgg95
  z39 := Try.sizeOf95
  v39 := Try.zeroValue95
  t53 := Try.underlying144
  a53 := Try.isAgg144
  z53 := Try.sizeOf144
  v53 := Try.zeroValue144
  t55 := Try.underlying146
  a55 := Try.isAgg146
  z55 := Try.sizeOf146
  v55 := Try.zeroValue146 }
end Go.Proofs
