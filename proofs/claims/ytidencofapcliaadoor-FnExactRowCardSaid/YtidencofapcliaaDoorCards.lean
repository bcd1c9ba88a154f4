/-
  DERIVED. GIVEN WITH THE SEED: THE CARDS: each row of YtidencofapcliaaDoorRows.lean that lists a variable, with what it lists TIED to the program's text (the seventh form; the later family's looks); each row that meets fmt, with fmt's text TOLD by the authors' own Lean function (tested against real Go, not proved from fmt's source: count such statements apart). THE CARD IS WHAT COUNTS. Prove the row's statement (the work); the ties are given (YtidencofapcliaaDoorTie.lean); close each card by the builder's one call (the guide's Derived/Test/ToyasCard.lean, 'card_holds'). Laid BY PROGRAM, IN A SANDBOX (cutbox-door.mjs). By AI agents, Wed Nov 11 2026. No macro, syntax, notation, axiom, sorry.
-/
import Derived.Test.YtidencofapcliaaDoorRows
import GoSem.ClaimSeven
namespace Go.Proofs.YtidencofapcliaaDoor
namespace Rows

/-- THE TIED CARD OF 'laws.FnExactRow'. -/
def fnExactRowCard : Claim7 := { stood := { row := fnExactRowRow, standIns := [], harness := (true, "a9e6c6b9bd02d0870b695979e566c6292016a974863a9a87f589881e50eabfa3"), looks := false }, kinds := [], alts := [], laidByText := true, laidKinds := [.data, .data, .data], laidTests := true, laidLooks := .later }
def FnExactRowCardSaid : Prop := Claim7.holds Tryd.pinned (.plain (OpenSpec.ofChange fnExactRowSpec)) fnExactRowCard

/-- THE SECOND FORM's CARD OF 'laws.FnExactRow'. -/
def fnExactRowUptoCard : Claim7 := { stood := { row := fnExactRowUptoRow, standIns := [], harness := (true, "a9e6c6b9bd02d0870b695979e566c6292016a974863a9a87f589881e50eabfa3"), looks := false }, kinds := [], alts := [], laidByText := true, laidKinds := [.data, .data, .data], laidTests := true, laidLooks := .later }
def FnExactRowUptoCardSaid : Prop := Claim7.holds Tryd.pinned (.plain (OpenSpec.upto fnExactRowSpec)) fnExactRowUptoCard
end Rows
end Go.Proofs.YtidencofapcliaaDoor
