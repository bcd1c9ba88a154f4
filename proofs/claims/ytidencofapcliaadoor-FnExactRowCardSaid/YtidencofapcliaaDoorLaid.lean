/-
What the given rows' lists of variables say to the walks: the library's table of powers.
-/
import Derived.Test.YtidencofapcliaaDoorRows
import Derived.Test.YtidencofapcliaaDoorGivItoa
import Derived.Lib.LaidTab
import Derived.Stop.LaidErr
import Derived.MakeChecks
import Derived.Shelf.Vars
namespace Go.Proofs.YtidencofapcliaaDoor.Laid
open Go.Proofs.YtidencofapcliaaDoorW.PrintWords
theorem gTabType : (Tryd.prog.globals[0]?).map (·.type) = some 71 := by kernel_rfl
theorem cellsA : Tryd.prog.cellsOf 71 = 20 := by kernel_rfl
theorem cellsE : Tryd.prog.cellsOf 59 = 1 := by kernel_rfl
set_option maxRecDepth 100000 in
theorem tab_head {rest : List (String × DataW Unit)} {W : World} (h : laidMet Tryd.prog (("internal/strconv.uint64pow10", Rows.laid_internal_strconv_uint64pow10) :: rest) W) : Lib.TabIs Tryd.prog W "internal/strconv.uint64pow10" .u64 Lib.pow10Tab :=
  Lib.tabIs_of_head (rest := rest) Giv.gTab gTabType Tryd.underlying71 Tryd.underlying59 cellsE cellsA h
theorem fnExactRow_tab {W : World} (h : laidMetH Tryd.prog Rows.fnExactRowRow.laid W) (_ : W.ShapedOpen Tryd.prog) : Aside0 (Giv.TabW W) := by
  have h0 : laidMetH Tryd.prog Rows.fnExactRowRow.laid W = laidMet Tryd.prog Rows.fnExactRowRow.laid W := MakeChecks.laidMetH_plain _ _ _ (by kernel_rfl)
  rw [h0] at h
  exact Aside0.mk ⟨tab_head (h.tail.tail)⟩
end Go.Proofs.YtidencofapcliaaDoor.Laid
