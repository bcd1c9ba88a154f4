/-
  DERIVED. GIVEN WITH THE SEED: THE CARDS: each row of YtlglpolokcnlhaaDoorRows.lean that lists a variable, with what it lists TIED to the program's text (the seventh form; the later family's looks); each row that meets fmt, with fmt's text TOLD by the authors' own Lean function (tested against real Go, not proved from fmt's source: count such statements apart). THE CARD IS WHAT COUNTS. Prove the row's statement (the work); the ties are given (YtlglpolokcnlhaaDoorTie.lean); close each card by the builder's one call (the guide's Derived/Test/ToyasCard.lean, 'card_holds'). Laid BY PROGRAM, IN A SANDBOX (cutbox-door.mjs). By AI agents, Wed Nov 11 2026. No macro, syntax, notation, axiom, sorry.
-/
import Derived.Test.YtlglpolokcnlhaaDoorRows
import GoSem.ClaimSeven
namespace Go.Proofs.YtlglpolokcnlhaaDoor
namespace Rows

/-- THE TIED CARD OF 'laws.FnExactReadOp'. -/
def fnExactReadOpCard : Claim7 := { stood := { row := fnExactReadOpRow, standIns := [], harness := (true, "3deff9c31e2a4d25b4f74566016997b61d36267b0f9d5a176c4cf18bc2c194e5"), looks := false }, kinds := [], alts := [], laidByText := true, laidKinds := [.listed, .data], laidTests := true, laidLooks := .later }
def FnExactReadOpCardSaid : Prop := Claim7.holds Tryd.pinned (.plain (OpenSpec.ofChange fnExactReadOpSpec)) fnExactReadOpCard

/-- THE TIED CARD OF 'laws.FnExactAssemble'. -/
def fnExactAssembleCard : Claim7 := { stood := { row := fnExactAssembleRow, standIns := [], harness := (true, "3deff9c31e2a4d25b4f74566016997b61d36267b0f9d5a176c4cf18bc2c194e5"), looks := false }, kinds := [], alts := [], laidByText := true, laidKinds := [.data, .listed, .data, .pinned], laidTests := true, laidLooks := .later }
def FnExactAssembleCardSaid : Prop := Claim7.holds Tryd.pinned (.plain (OpenSpec.ofChange fnExactAssembleSpec)) fnExactAssembleCard

/-- THE TIED CARD OF 'laws.FnAsm'. -/
def fnAsmCard : Claim7 := { stood := { row := fnAsmRow, standIns := [], harness := (true, "3deff9c31e2a4d25b4f74566016997b61d36267b0f9d5a176c4cf18bc2c194e5"), looks := false }, kinds := [], alts := [], laidByText := true, laidKinds := [.listed, .data], laidTests := true, laidLooks := .later }
def FnAsmCardSaid : Prop := Claim7.holds Tryd.pinned (.plain (OpenSpec.ofChange fnAsmSpec)) fnAsmCard

/-- THE TIED CARD OF 'laws.FnReadOp'. -/
def fnReadOpCard : Claim7 := { stood := { row := fnReadOpRow, standIns := [], harness := (true, "3deff9c31e2a4d25b4f74566016997b61d36267b0f9d5a176c4cf18bc2c194e5"), looks := false }, kinds := [], alts := [], laidByText := true, laidKinds := [.listed, .data], laidTests := true, laidLooks := .later }
def FnReadOpCardSaid : Prop := Claim7.holds Tryd.pinned (.plain (OpenSpec.ofChange fnReadOpSpec)) fnReadOpCard

/-- THE TIED CARD OF 'laws.FnListing'. -/
def fnListingCard : Claim7 := { stood := { row := fnListingRow, standIns := [], harness := (true, "3deff9c31e2a4d25b4f74566016997b61d36267b0f9d5a176c4cf18bc2c194e5"), looks := false }, kinds := [], alts := [], laidByText := true, laidKinds := [.data, .listed, .data, .pinned], laidTests := true, laidLooks := .later }
def FnListingCardSaid : Prop := Claim7.holds Tryd.pinned (.plain (OpenSpec.ofChange fnListingSpec)) fnListingCard

/-- THE SECOND FORM's CARD OF 'laws.FnExactReadOp'. -/
def fnExactReadOpUptoCard : Claim7 := { stood := { row := fnExactReadOpUptoRow, standIns := [], harness := (true, "3deff9c31e2a4d25b4f74566016997b61d36267b0f9d5a176c4cf18bc2c194e5"), looks := false }, kinds := [], alts := [], laidByText := true, laidKinds := [.listed, .data], laidTests := true, laidLooks := .later }
def FnExactReadOpUptoCardSaid : Prop := Claim7.holds Tryd.pinned (.plain (OpenSpec.upto fnExactReadOpSpec)) fnExactReadOpUptoCard

/-- THE SECOND FORM's CARD OF 'laws.FnExactAssemble'. -/
def fnExactAssembleUptoCard : Claim7 := { stood := { row := fnExactAssembleUptoRow, standIns := [], harness := (true, "3deff9c31e2a4d25b4f74566016997b61d36267b0f9d5a176c4cf18bc2c194e5"), looks := false }, kinds := [], alts := [], laidByText := true, laidKinds := [.data, .listed, .data, .pinned], laidTests := true, laidLooks := .later }
def FnExactAssembleUptoCardSaid : Prop := Claim7.holds Tryd.pinned (.plain (OpenSpec.upto fnExactAssembleSpec)) fnExactAssembleUptoCard

/-- THE SECOND FORM's CARD OF 'laws.FnAsm'. -/
def fnAsmUptoCard : Claim7 := { stood := { row := fnAsmUptoRow, standIns := [], harness := (true, "3deff9c31e2a4d25b4f74566016997b61d36267b0f9d5a176c4cf18bc2c194e5"), looks := false }, kinds := [], alts := [], laidByText := true, laidKinds := [.listed, .data], laidTests := true, laidLooks := .later }
def FnAsmUptoCardSaid : Prop := Claim7.holds Tryd.pinned (.plain (OpenSpec.upto fnAsmSpec)) fnAsmUptoCard

/-- THE SECOND FORM's CARD OF 'laws.FnReadOp'. -/
def fnReadOpUptoCard : Claim7 := { stood := { row := fnReadOpUptoRow, standIns := [], harness := (true, "3deff9c31e2a4d25b4f74566016997b61d36267b0f9d5a176c4cf18bc2c194e5"), looks := false }, kinds := [], alts := [], laidByText := true, laidKinds := [.listed, .data], laidTests := true, laidLooks := .later }
def FnReadOpUptoCardSaid : Prop := Claim7.holds Tryd.pinned (.plain (OpenSpec.upto fnReadOpSpec)) fnReadOpUptoCard

/-- THE SECOND FORM's CARD OF 'laws.FnListing'. -/
def fnListingUptoCard : Claim7 := { stood := { row := fnListingUptoRow, standIns := [], harness := (true, "3deff9c31e2a4d25b4f74566016997b61d36267b0f9d5a176c4cf18bc2c194e5"), looks := false }, kinds := [], alts := [], laidByText := true, laidKinds := [.data, .listed, .data, .pinned], laidTests := true, laidLooks := .later }
def FnListingUptoCardSaid : Prop := Claim7.holds Tryd.pinned (.plain (OpenSpec.upto fnListingSpec)) fnListingUptoCard
end Rows
end Go.Proofs.YtlglpolokcnlhaaDoor
