/-
What the given rows' lists of variables say to the walks: the library's table, and that one number of the library's lies there.
-/
import Derived.Test.YtfbhgmpgkhmikaaDoorRows
import Derived.Test.YtfbhgmpgkhmikaaDoorGiv
import Derived.Lib.LaidTab
import Derived.Stop.LaidErr
import Derived.MakeChecks
import Derived.Shelf.Vars
namespace Go.Proofs.YtfbhgmpgkhmikaaDoor.Laid
open Go.Proofs.YtfbhgmpgkhmikaaDoorW.PrintWords
theorem gTabType : (Tryd.prog.globals[0]?).map (·.type) = some 109 := by kernel_rfl
theorem cellsA : Tryd.prog.cellsOf 109 = 256 := by kernel_rfl
theorem cells5 : Tryd.prog.cellsOf 5 = 1 := by kernel_rfl
set_option maxRecDepth 100000 in
theorem tab_head {rest : List (String × DataW Unit)} {W : World} (h : laidMet Tryd.prog (("strings.asciiSpace", Rows.laid_strings_asciiSpace) :: rest) W) : Lib.TabIs Tryd.prog W "strings.asciiSpace" .u8 Lib.asciiSpaceTab :=
  Lib.tabIs_of_head (rest := rest) Giv.gTab gTabType Tryd.underlying109 Tryd.underlying5 cells5 cellsA h
theorem most {W : World} (h : W.ShapedOpen Tryd.prog) : ∃ m, W.cell? ⟨1, 0, none⟩ = some (.int .i64 m) :=
  cell_of_shapedOpen_int (t := 3) (zero := #[.int .i64 0]) h (of_decide_eq_true (by kernel_rfl)) (by kernel_rfl) rfl (by kernel_rfl) (by kernel_rfl) Tryd.underlying3
theorem fnExactNameOf_tab {W : World} (h : laidMetH Tryd.prog Rows.fnExactNameOfRow.laid W) (hs : W.ShapedOpen Tryd.prog) : Aside0 (Giv.TabW W) := by
  have h0 : laidMetH Tryd.prog Rows.fnExactNameOfRow.laid W = laidMet Tryd.prog Rows.fnExactNameOfRow.laid W := MakeChecks.laidMetH_plain _ _ _ (by kernel_rfl)
  rw [h0] at h
  exact Aside0.mk ⟨tab_head (h.tail), most hs⟩
theorem fnExactModeOf_tab {W : World} (h : laidMetH Tryd.prog Rows.fnExactModeOfRow.laid W) (hs : W.ShapedOpen Tryd.prog) : Aside0 (Giv.TabW W) := by
  have h0 : laidMetH Tryd.prog Rows.fnExactModeOfRow.laid W = laidMet Tryd.prog Rows.fnExactModeOfRow.laid W := MakeChecks.laidMetH_plain _ _ _ (by kernel_rfl)
  rw [h0] at h
  exact Aside0.mk ⟨tab_head (h.tail), most hs⟩
theorem fnExactCodeOf_tab {W : World} (h : laidMetH Tryd.prog Rows.fnExactCodeOfRow.laid W) (hs : W.ShapedOpen Tryd.prog) : Aside0 (Giv.TabW W) := by
  have h0 : laidMetH Tryd.prog Rows.fnExactCodeOfRow.laid W = laidMet Tryd.prog Rows.fnExactCodeOfRow.laid W := MakeChecks.laidMetH_plain _ _ _ (by kernel_rfl)
  rw [h0] at h
  exact Aside0.mk ⟨tab_head (h.tail), most hs⟩
theorem fnExactSizeOf_tab {W : World} (h : laidMetH Tryd.prog Rows.fnExactSizeOfRow.laid W) (hs : W.ShapedOpen Tryd.prog) : Aside0 (Giv.TabW W) := by
  have h0 : laidMetH Tryd.prog Rows.fnExactSizeOfRow.laid W = laidMet Tryd.prog Rows.fnExactSizeOfRow.laid W := MakeChecks.laidMetH_plain _ _ _ (by kernel_rfl)
  rw [h0] at h
  exact Aside0.mk ⟨tab_head (h.tail), most hs⟩
theorem fnExactKindOf_tab {W : World} (h : laidMetH Tryd.prog Rows.fnExactKindOfRow.laid W) (hs : W.ShapedOpen Tryd.prog) : Aside0 (Giv.TabW W) := by
  have h0 : laidMetH Tryd.prog Rows.fnExactKindOfRow.laid W = laidMet Tryd.prog Rows.fnExactKindOfRow.laid W := MakeChecks.laidMetH_plain _ _ _ (by kernel_rfl)
  rw [h0] at h
  exact Aside0.mk ⟨tab_head (h.tail), most hs⟩
theorem fnExactChanges_tab {W : World} (h : laidMetH Tryd.prog Rows.fnExactChangesRow.laid W) (hs : W.ShapedOpen Tryd.prog) : Aside0 (Giv.TabW W) := by
  have h0 : laidMetH Tryd.prog Rows.fnExactChangesRow.laid W = laidMet Tryd.prog Rows.fnExactChangesRow.laid W := MakeChecks.laidMetH_plain _ _ _ (by kernel_rfl)
  rw [h0] at h
  exact Aside0.mk ⟨tab_head (h.tail), most hs⟩
theorem fnCodes_tab {W : World} (h : laidMetH Tryd.prog Rows.fnCodesRow.laid W) (hs : W.ShapedOpen Tryd.prog) : Aside0 (Giv.TabW W) := by
  have h0 : laidMetH Tryd.prog Rows.fnCodesRow.laid W = laidMet Tryd.prog Rows.fnCodesRow.laid W := MakeChecks.laidMetH_plain _ _ _ (by kernel_rfl)
  rw [h0] at h
  exact Aside0.mk ⟨tab_head (h.tail), most hs⟩
theorem fnExactShowOp_tab {W : World} (h : laidMetH Tryd.prog Rows.fnExactShowOpRow.laid W) (hs : W.ShapedOpen Tryd.prog) : Aside0 (Giv.TabW W) := by
  have h0 : laidMetH Tryd.prog Rows.fnExactShowOpRow.laid W = laidMet Tryd.prog Rows.fnExactShowOpRow.laid W := MakeChecks.laidMetH_plain _ _ _ (by kernel_rfl)
  rw [h0] at h
  exact Aside0.mk ⟨tab_head (h.tail), most hs⟩
theorem fnExactReadOp_tab {W : World} (h : laidMetH Tryd.prog Rows.fnExactReadOpRow.laid W) (hs : W.ShapedOpen Tryd.prog) : Aside0 (Giv.TabW W) := by
  have h0 : laidMetH Tryd.prog Rows.fnExactReadOpRow.laid W = laidMet Tryd.prog Rows.fnExactReadOpRow.laid W := MakeChecks.laidMetH_plain _ _ _ (by kernel_rfl)
  rw [h0] at h
  exact Aside0.mk ⟨tab_head (h.tail), most hs⟩
theorem fnExactListing_tab {W : World} (h : laidMetH Tryd.prog Rows.fnExactListingRow.laid W) (hs : W.ShapedOpen Tryd.prog) : Aside0 (Giv.TabW W) := by
  have h0 : laidMetH Tryd.prog Rows.fnExactListingRow.laid W = laidMet Tryd.prog Rows.fnExactListingRow.laid W := MakeChecks.laidMetH_plain _ _ _ (by kernel_rfl)
  rw [h0] at h
  exact Aside0.mk ⟨tab_head (h.tail), most hs⟩
theorem fnExactAssemble_tab {W : World} (h : laidMetH Tryd.prog Rows.fnExactAssembleRow.laid W) (hs : W.ShapedOpen Tryd.prog) : Aside0 (Giv.TabW W) := by
  have h0 : laidMetH Tryd.prog Rows.fnExactAssembleRow.laid W = laidMet Tryd.prog Rows.fnExactAssembleRow.laid W := MakeChecks.laidMetH_plain _ _ _ (by kernel_rfl)
  rw [h0] at h
  exact Aside0.mk ⟨tab_head (h.tail.tail), most hs⟩
theorem fnAsm_tab {W : World} (h : laidMetH Tryd.prog Rows.fnAsmRow.laid W) (hs : W.ShapedOpen Tryd.prog) : Aside0 (Giv.TabW W) := by
  have h0 : laidMetH Tryd.prog Rows.fnAsmRow.laid W = laidMet Tryd.prog Rows.fnAsmRow.laid W := MakeChecks.laidMetH_plain _ _ _ (by kernel_rfl)
  rw [h0] at h
  exact Aside0.mk ⟨tab_head (h.tail), most hs⟩
end Go.Proofs.YtfbhgmpgkhmikaaDoor.Laid
