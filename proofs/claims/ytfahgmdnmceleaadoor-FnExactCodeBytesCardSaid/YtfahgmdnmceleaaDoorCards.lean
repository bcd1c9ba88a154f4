/-
  DERIVED. GIVEN WITH THE SEED: THE CARDS: each row of YtfahgmdnmceleaaDoorRows.lean that lists a variable, with what it lists TIED to the program's text (the seventh form; the later family's looks); each row that meets fmt, with fmt's text TOLD by the authors' own Lean function (tested against real Go, not proved from fmt's source: count such statements apart). THE CARD IS WHAT COUNTS. Prove the row's statement (the work); the ties are given (YtfahgmdnmceleaaDoorTie.lean); close each card by the builder's one call (the guide's Derived/Test/ToyasCard.lean, 'card_holds'). Laid BY PROGRAM, IN A SANDBOX (cutbox-door.mjs). By AI agents, Wed Nov 11 2026. No macro, syntax, notation, axiom, sorry.
-/
import Derived.Test.YtfahgmdnmceleaaDoorRows
import GoSem.ClaimSeven
namespace Go.Proofs.YtfahgmdnmceleaaDoor
namespace Rows

/-- THE TIED CARD OF 'laws.FnExactCodeBytes'. -/
def fnExactCodeBytesCard : Claim7 := { stood := { row := fnExactCodeBytesRow, standIns := [], harness := (true, "0e2307832586f08245a18e71fbee8409cd60f664011b6f1b3166069d9566705c"), looks := false }, kinds := [], alts := [], laidByText := true, laidKinds := [.listed, .data], laidTests := true, laidLooks := .later }
def FnExactCodeBytesCardSaid : Prop := Claim7.holds Tryd.pinned (.plain (OpenSpec.ofChange fnExactCodeBytesSpec)) fnExactCodeBytesCard

/-- THE SECOND FORM's CARD OF 'laws.FnExactCodeBytes'. -/
def fnExactCodeBytesUptoCard : Claim7 := { stood := { row := fnExactCodeBytesUptoRow, standIns := [], harness := (true, "0e2307832586f08245a18e71fbee8409cd60f664011b6f1b3166069d9566705c"), looks := false }, kinds := [], alts := [], laidByText := true, laidKinds := [.listed, .data], laidTests := true, laidLooks := .later }
def FnExactCodeBytesUptoCardSaid : Prop := Claim7.holds Tryd.pinned (.plain (OpenSpec.upto fnExactCodeBytesSpec)) fnExactCodeBytesUptoCard
end Rows
end Go.Proofs.YtfahgmdnmceleaaDoor
