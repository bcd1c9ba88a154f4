/-
What the given rows' lists of variables say to the walks: the library's table, and that one number of the library's lies there.
-/
import Derived.Test.YtaclekdigolhkaaDoorRows
import Derived.Test.YtaclekdigolhkaaDoorGiv
import Derived.Lib.LaidTab
import Derived.Stop.LaidErr
import Derived.MakeChecks
import Derived.Shelf.Vars
namespace Go.Proofs.YtaclekdigolhkaaDoor.Laid
open Go.Proofs.YtaclekdigolhkaaDoorW.PrintWords
theorem gTabType : (Tryd.prog.globals[1]?).map (·.type) = some 69 := by kernel_rfl
theorem cellsA : Tryd.prog.cellsOf 69 = 256 := by kernel_rfl
theorem cells5 : Tryd.prog.cellsOf 5 = 1 := by kernel_rfl
set_option maxRecDepth 100000 in
theorem tab_head {rest : List (String × DataW Unit)} {W : World} (h : laidMet Tryd.prog (("strings.asciiSpace", Rows.laid_strings_asciiSpace) :: rest) W) : Lib.TabIs Tryd.prog W "strings.asciiSpace" .u8 Lib.asciiSpaceTab :=
  Lib.tabIs_of_head (rest := rest) Giv.gTab gTabType Tryd.underlying69 Tryd.underlying5 cells5 cellsA h
theorem most {W : World} (h : W.ShapedOpen Tryd.prog) : ∃ m, W.cell? ⟨0, 0, none⟩ = some (.int .i64 m) :=
  cell_of_shapedOpen_int (t := 3) (zero := #[.int .i64 0]) h (of_decide_eq_true (by kernel_rfl)) (by kernel_rfl) rfl (by kernel_rfl) (by kernel_rfl) Tryd.underlying3
theorem fnExactBefore_tab {W : World} (h : laidMetH Tryd.prog Rows.fnExactBeforeRow.laid W) (hs : W.ShapedOpen Tryd.prog) : Aside0 (Giv.TabW W) := by
  have h0 : laidMetH Tryd.prog Rows.fnExactBeforeRow.laid W = laidMet Tryd.prog Rows.fnExactBeforeRow.laid W := MakeChecks.laidMetH_plain _ _ _ (by kernel_rfl)
  rw [h0] at h
  exact Aside0.mk ⟨tab_head (h.tail), most hs⟩
end Go.Proofs.YtaclekdigolhkaaDoor.Laid
