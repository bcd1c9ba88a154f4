/-
What the given rows' lists of variables say to the walks: the library's table, and that one number of the library's lies there.
-/
import Derived.Test.YtnoelppkcbelcaaGreatDoorRows
import Derived.Test.YtnoelppkcbelcaaGreatDoorGiv
import Derived.Lib.LaidTab
import Derived.Stop.LaidErr
import Derived.MakeChecks
import Derived.Shelf.Vars
namespace Go.Proofs.YtnoelppkcbelcaaGreatDoor.Laid
open Go.Proofs.YtnoelppkcbelcaaGreatDoorW.PrintWords
theorem gTabType : (Tryz.prog.globals[0]?).map (·.type) = some 123 := by kernel_rfl
theorem cellsA : Tryz.prog.cellsOf 123 = 256 := by kernel_rfl
theorem cells5 : Tryz.prog.cellsOf 5 = 1 := by kernel_rfl
set_option maxRecDepth 100000 in
theorem tab_head {rest : List (String × DataW Unit)} {W : World} (h : laidMet Tryz.prog (("strings.asciiSpace", Rows.laid_strings_asciiSpace) :: rest) W) : Lib.TabIs Tryz.prog W "strings.asciiSpace" .u8 Lib.asciiSpaceTab :=
  Lib.tabIs_of_head (rest := rest) Giv.gTab gTabType Tryz.underlying123 Tryz.underlying5 cells5 cellsA h
theorem most {W : World} (h : W.ShapedOpen Tryz.prog) : ∃ m, W.cell? ⟨1, 0, none⟩ = some (.int .i64 m) :=
  cell_of_shapedOpen_int (t := 3) (zero := #[.int .i64 0]) h (of_decide_eq_true (by kernel_rfl)) (by kernel_rfl) rfl (by kernel_rfl) (by kernel_rfl) Tryz.underlying3
theorem fnDepth_tab {W : World} (h : laidMetH Tryz.prog Rows.fnDepthRow.laid W) (hs : W.ShapedOpen Tryz.prog) : Aside0 (Giv.TabW W) := by
  have h0 : laidMetH Tryz.prog Rows.fnDepthRow.laid W = laidMet Tryz.prog Rows.fnDepthRow.laid W := MakeChecks.laidMetH_plain _ _ _ (by kernel_rfl)
  rw [h0] at h
  exact Aside0.mk ⟨tab_head (h.tail), most hs⟩
end Go.Proofs.YtnoelppkcbelcaaGreatDoor.Laid
