/-
Contracts of Go's library at this seat's dump: the shelf's structures, laid.
-/
import Derived.Shelf.SlSortCmp.Xorshift
import Derived.Test.YtfahgmdnmceleaaProg
set_option linter.unusedVariables false
namespace Go.Proofs
open Go.Shelf
def Try.laysNext_ren : Go.Shelf.Ren := ⟨fun | 48 => 34 | n => n, fun | 76 => 66 | 55 => 58 | 0 => 0 | 66 => 59 | 39 => 45 | n => n, fun n => n⟩
theorem Try.laysNext : Go.Proofs.SlLaysF0.n48 Try.prog Try.laysNext_ren := {
  mixed := by kernel_rfl
  f48 := Try.func34.trans (congrArg some (by kernel_rfl))
  t0 := Try.underlying0
  a0 := Try.isAgg0
  z0 := Try.sizeOf0
  v0 := Try.zeroValue0
  t39 := Try.underlying45
  a39 := Try.isAgg45
  z39 := Try.sizeOf45
  v39 := Try.zeroValue45
  t55 := Try.underlying58
  a55 := Try.isAgg58
  z55 := Try.sizeOf58
  v55 := Try.zeroValue58
  t66 := Try.underlying59
  a66 := Try.isAgg59
  z66 := Try.sizeOf59
  v66 := Try.zeroValue59
  t76 := Try.underlying66
  a76 := Try.isAgg66
  z76 := Try.sizeOf66
  v76 := Try.zeroValue66 }
def Try.laysPow_ren : Go.Shelf.Ren := ⟨fun | 47 => 33 | 15 => 20 | 28 => 30 | 29 => 31 | n => n, fun | 3 => 3 | 39 => 45 | 53 => 56 | 55 => 58 | 4 => 4 | 5 => 5 | 9 => 9 | n => n, fun n => n⟩
theorem Try.laysPow : Go.Proofs.SlLaysF0.n47 Try.prog Try.laysPow_ren := {
  mixed := by kernel_rfl
  f15 := Try.func20.trans (congrArg some (by kernel_rfl))
  f28 := Try.func30.trans (congrArg some (by kernel_rfl))
  f29 := Try.func31.trans (congrArg some (by kernel_rfl))
  f47 := Try.func33.trans (congrArg some (by kernel_rfl))
  t3 := Try.underlying3
  a3 := Try.isAgg3
  z3 := Try.sizeOf3
  v3 := Try.zeroValue3
  t4 := Try.underlying4
  a4 := Try.isAgg4
  z4 := Try.sizeOf4
  v4 := Try.zeroValue4
  t5 := Try.underlying5
  a5 := Try.isAgg5
  z5 := Try.sizeOf5
  v5 := Try.zeroValue5
  t9 := Try.underlying9
  a9 := Try.isAgg9
  z9 := Try.sizeOf9
  v9 := Try.zeroValue9
  t39 := Try.underlying45
  a39 := Try.isAgg45
  z39 := Try.sizeOf45
  v39 := Try.zeroValue45
  t53 := Try.underlying56
  a53 := Try.isAgg56
  z53 := Try.sizeOf56
  v53 := Try.zeroValue56
  t55 := Try.underlying58
  a55 := Try.isAgg58
  z55 := Try.sizeOf58
  v55 := Try.zeroValue58 }
end Go.Proofs
