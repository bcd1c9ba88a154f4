/-
  DERIVED. GIVEN WITH THE SEED: THE CARDS: each row of YtaclekdigolhkaaDoorRows.lean that lists a variable, with what it lists TIED to the program's text (the seventh form; the later family's looks); each row that meets fmt, with fmt's text TOLD by the authors' own Lean function (tested against real Go, not proved from fmt's source: count such statements apart). THE CARD IS WHAT COUNTS. Prove the row's statement (the work); the ties are given (YtaclekdigolhkaaDoorTie.lean); close each card by the builder's one call (the guide's Derived/Test/ToyasCard.lean, 'card_holds'). Laid BY PROGRAM, IN A SANDBOX (cutbox-door.mjs). By AI agents, Wed Nov 11 2026. No macro, syntax, notation, axiom, sorry.
-/
import Derived.Test.YtaclekdigolhkaaDoorRows
import GoSem.ClaimSeven
namespace Go.Proofs.YtaclekdigolhkaaDoor
namespace Rows

/-- THE TIED CARD OF 'laws.FnExactBefore'. -/
def fnExactBeforeCard : Claim7 := { stood := { row := fnExactBeforeRow, standIns := [], harness := (true, "b6e9145a923d407c4138b1e886d81aedebe7784baff3f5d11cbdb6f8e6fa2018"), looks := false }, kinds := [], alts := [], laidByText := true, laidKinds := [.listed, .data], laidTests := true, laidLooks := .later }
def FnExactBeforeCardSaid : Prop := Claim7.holds Tryd.pinned (.plain (OpenSpec.ofChange fnExactBeforeSpec)) fnExactBeforeCard

/-- THE SECOND FORM's CARD OF 'laws.FnExactBefore'. -/
def fnExactBeforeUptoCard : Claim7 := { stood := { row := fnExactBeforeUptoRow, standIns := [], harness := (true, "b6e9145a923d407c4138b1e886d81aedebe7784baff3f5d11cbdb6f8e6fa2018"), looks := false }, kinds := [], alts := [], laidByText := true, laidKinds := [.listed, .data], laidTests := true, laidLooks := .later }
def FnExactBeforeUptoCardSaid : Prop := Claim7.holds Tryd.pinned (.plain (OpenSpec.upto fnExactBeforeSpec)) fnExactBeforeUptoCard
end Rows
end Go.Proofs.YtaclekdigolhkaaDoor
