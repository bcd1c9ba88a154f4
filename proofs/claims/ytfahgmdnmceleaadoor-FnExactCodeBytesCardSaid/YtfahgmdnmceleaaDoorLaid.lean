/-
What the given rows' lists of variables say to the walks: the library's table.
-/
import Derived.Test.YtfahgmdnmceleaaDoorRows
import Derived.Test.YtfahgmdnmceleaaDoorGivF
import Derived.Lib.LaidTab
import Derived.Stop.LaidErr
import Derived.MakeChecks
import Derived.Shelf.Vars
namespace Go.Proofs.YtfahgmdnmceleaaDoor.Laid
open Go.Proofs.YtfahgmdnmceleaaDoorW.PrintWords
theorem gTabType : (Tryd.prog.globals[0]?).map (·.type) = some 88 := by kernel_rfl
theorem cellsA : Tryd.prog.cellsOf 88 = 256 := by kernel_rfl
theorem cells5 : Tryd.prog.cellsOf 5 = 1 := by kernel_rfl
set_option maxRecDepth 100000 in
theorem tab_head {rest : List (String × DataW Unit)} {W : World} (h : laidMet Tryd.prog (("strings.asciiSpace", Rows.laid_strings_asciiSpace) :: rest) W) : Lib.TabIs Tryd.prog W "strings.asciiSpace" .u8 Lib.asciiSpaceTab :=
  Lib.tabIs_of_head (rest := rest) Giv.gTab gTabType Tryd.underlying88 Tryd.underlying5 cells5 cellsA h
theorem fnExactCodeBytes_tab {W : World} (h : laidMetH Tryd.prog Rows.fnExactCodeBytesRow.laid W) (_ : W.ShapedOpen Tryd.prog) : Aside0 (Giv.TabW W) := by
  have h0 : laidMetH Tryd.prog Rows.fnExactCodeBytesRow.laid W = laidMet Tryd.prog Rows.fnExactCodeBytesRow.laid W := MakeChecks.laidMetH_plain _ _ _ (by kernel_rfl)
  rw [h0] at h
  exact Aside0.mk ⟨tab_head (h.tail)⟩
end Go.Proofs.YtfahgmdnmceleaaDoor.Laid
