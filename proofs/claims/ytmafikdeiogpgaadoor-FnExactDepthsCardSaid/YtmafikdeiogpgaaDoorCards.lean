/-
  DERIVED. GIVEN WITH THE SEED: THE CARDS: each row of YtmafikdeiogpgaaDoorRows.lean that lists a variable, with what it lists TIED to the program's text (the seventh form; the later family's looks); each row that meets fmt, with fmt's text TOLD by the authors' own Lean function (tested against real Go, not proved from fmt's source: count such statements apart). THE CARD IS WHAT COUNTS. Prove the row's statement (the work); the ties are given (YtmafikdeiogpgaaDoorTie.lean); close each card by the builder's one call (the guide's Derived/Test/ToyasCard.lean, 'card_holds'). Laid BY PROGRAM, IN A SANDBOX (cutbox-door.mjs). By AI agents, Wed Nov 11 2026. No macro, syntax, notation, axiom, sorry.
-/
import Derived.Test.YtmafikdeiogpgaaDoorRows
import GoSem.ClaimSeven
namespace Go.Proofs.YtmafikdeiogpgaaDoor
namespace Rows

/-- THE TIED CARD OF 'laws.FnExactDepths'. -/
def fnExactDepthsCard : Claim7 := { stood := { row := fnExactDepthsRow, standIns := [], harness := (true, "27233f304dddbcebb2ce4ecf1cc9ce117369c65a2ff1048d36cc2295751718ad"), looks := false }, kinds := [], alts := [], laidByText := true, laidKinds := [.listed, .data], laidTests := true, laidLooks := .later }
def FnExactDepthsCardSaid : Prop := Claim7.holds Tryd.pinned (.plain (OpenSpec.ofChange fnExactDepthsSpec)) fnExactDepthsCard

/-- THE SECOND FORM's CARD OF 'laws.FnExactDepths'. -/
def fnExactDepthsUptoCard : Claim7 := { stood := { row := fnExactDepthsUptoRow, standIns := [], harness := (true, "27233f304dddbcebb2ce4ecf1cc9ce117369c65a2ff1048d36cc2295751718ad"), looks := false }, kinds := [], alts := [], laidByText := true, laidKinds := [.listed, .data], laidTests := true, laidLooks := .later }
def FnExactDepthsUptoCardSaid : Prop := Claim7.holds Tryd.pinned (.plain (OpenSpec.upto fnExactDepthsSpec)) fnExactDepthsUptoCard
end Rows
end Go.Proofs.YtmafikdeiogpgaaDoor
