/-
What the walks take of Go's library at this seat: strconv.Itoa; and what they ask of the world: the library's table of powers.
-/
import Derived.Test.YtidencofapcliaaDoorShelfItoa
import Derived.Test.YtidencofapcliaaDoorWWords
import Derived.Lib.LaidTab
import Derived.WalkSmall
import Derived.Lib.AppendIntMem
set_option linter.unusedVariables false
set_option linter.unusedSimpArgs false
namespace Go.Proofs.YtidencofapcliaaDoor.Giv
open Go.RowKit Go.Proofs.YtidencofapcliaaDoorW.PrintWords
/-- What Go's library reads of its own variables. -/
structure TabW (w : World) : Prop where
  tab : Lib.TabIs Tryd.prog w "internal/strconv.uint64pow10" .u64 Lib.pow10Tab
theorem gTab : Tryd.prog.globalNamed "internal/strconv.uint64pow10" = some 0 := by kernel_rfl
theorem TabW.below {w w1 : World} (h : TabW w) (hb : Below w.heap.size w w1) : TabW w1 := by
  refine ⟨?_⟩
  have hv := h.tab
  unfold Lib.TabIs at hv ⊢
  have hlt : 0 < w.heap.size := by
    unfold World.var? at hv
    rw [gTab] at hv
    simp only [Option.bind_some] at hv
    cases hh : w.heap[0]? with
    | none => rw [hh] at hv; simp at hv
    | some o => exact (Array.getElem?_eq_some_iff.mp hh).1
  exact var?_below hb gTab hlt hv
theorem at_ {w w1 : World} (h : Aside0 (TabW w)) (hb : Below w.heap.size w w1) : Aside0 (TabW w1) := Aside0.mk (h.out.below hb)
def itoaG (a0 : Int) : Option ByteArray := if -9223372036854775808 ≤ a0 ∧ a0 ≤ 9223372036854775807 then some ⟨(Lib.itoa a0).toArray⟩ else none
theorem itoaG_calls (a0 : Int) (r : ByteArray) (w : World) (h : itoaG a0 = some r) (HT : Aside0 (TabW w)) :
    Calls Tryd.prog 20 #[.int .i64 a0] w fun e w' => e = .returned (.string r) ∧ Below w.heap.size w w' := by
  unfold itoaG at h
  split at h
  · rename_i hc
    obtain rfl := Option.some.inj h
    refine (Tryd.strconv_Itoa a0 hc.1 hc.2 w HT.out.tab).mono fun e w' hd => ?_
    obtain ⟨rfl, k, os, rfl⟩ := hd
    exact ⟨rfl, Go.Lib.below_grow _ w (Nat.le_refl _) k os⟩
  · exact absurd h (by simp)
end Go.Proofs.YtidencofapcliaaDoor.Giv
