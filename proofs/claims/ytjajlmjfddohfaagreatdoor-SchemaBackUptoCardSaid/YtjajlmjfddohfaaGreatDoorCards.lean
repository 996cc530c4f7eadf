/-
  DERIVED. GIVEN WITH THE SEED: THE CARDS: each row of YtjajlmjfddohfaaGreatDoorRows.lean that lists a variable, with what it lists TIED to the program's text (the seventh form; the later family's looks); each row that meets fmt, with fmt's text TOLD by the authors' own Lean function (tested against real Go, not proved from fmt's source: count such statements apart). THE CARD IS WHAT COUNTS. Prove the row's statement (the work); the ties are given (YtjajlmjfddohfaaGreatDoorTie.lean); close each card by the builder's one call (the guide's Derived/Test/ToyasCard.lean, 'card_holds'). Laid BY PROGRAM, IN A SANDBOX (cutbox-door.mjs). By AI agents, Wed Nov 11 2026. No macro, syntax, notation, axiom, sorry.
-/
import Derived.Test.YtjajlmjfddohfaaGreatDoorRows
import GoSem.ClaimSeven
namespace Go.Proofs.YtjajlmjfddohfaaGreatDoor
namespace Rows

/-- THE TIED CARD OF 'tabellionlaw12.SchemaPlays'. -/
def schemaPlaysCard : Claim7 := { stood := { row := schemaPlaysRow, standIns := [], harness := (true, "0f9d379b5a97b729057bfe39f399b1e3ea2ce8a4d3f08451d08f309d2f7a9532"), looks := false }, kinds := [], alts := [], laidByText := true, laidKinds := [.data, .data, .data], laidTests := true, laidLooks := .later }
def SchemaPlaysCardSaid : Prop := Claim7.holds Tryz.pinned (.plain (OpenSpec.ofChange schemaPlaysSpec)) schemaPlaysCard

/-- THE TIED CARD OF 'tabellionlaw12.SchemaRight'. -/
def schemaRightCard : Claim7 := { stood := { row := schemaRightRow, standIns := [], harness := (true, "0f9d379b5a97b729057bfe39f399b1e3ea2ce8a4d3f08451d08f309d2f7a9532"), looks := false }, kinds := [], alts := [], laidByText := true, laidKinds := [.data, .data, .data], laidTests := true, laidLooks := .later }
def SchemaRightCardSaid : Prop := Claim7.holds Tryz.pinned (.plain (OpenSpec.ofChange schemaRightSpec)) schemaRightCard

/-- THE TIED CARD OF 'tabellionlaw12.SchemaBack'. -/
def schemaBackCard : Claim7 := { stood := { row := schemaBackRow, standIns := [], harness := (true, "0f9d379b5a97b729057bfe39f399b1e3ea2ce8a4d3f08451d08f309d2f7a9532"), looks := false }, kinds := [], alts := [], laidByText := true, laidKinds := [.data, .data, .data], laidTests := true, laidLooks := .later }
def SchemaBackCardSaid : Prop := Claim7.holds Tryz.pinned (.plain (OpenSpec.ofChange schemaBackSpec)) schemaBackCard

/-- THE SECOND FORM's CARD OF 'tabellionlaw12.SchemaPlays'. -/
def schemaPlaysUptoCard : Claim7 := { stood := { row := schemaPlaysUptoRow, standIns := [], harness := (true, "0f9d379b5a97b729057bfe39f399b1e3ea2ce8a4d3f08451d08f309d2f7a9532"), looks := false }, kinds := [], alts := [], laidByText := true, laidKinds := [.data, .data, .data], laidTests := true, laidLooks := .later }
def SchemaPlaysUptoCardSaid : Prop := Claim7.holds Tryz.pinned (.plain (OpenSpec.upto schemaPlaysSpec)) schemaPlaysUptoCard

/-- THE SECOND FORM's CARD OF 'tabellionlaw12.SchemaRight'. -/
def schemaRightUptoCard : Claim7 := { stood := { row := schemaRightUptoRow, standIns := [], harness := (true, "0f9d379b5a97b729057bfe39f399b1e3ea2ce8a4d3f08451d08f309d2f7a9532"), looks := false }, kinds := [], alts := [], laidByText := true, laidKinds := [.data, .data, .data], laidTests := true, laidLooks := .later }
def SchemaRightUptoCardSaid : Prop := Claim7.holds Tryz.pinned (.plain (OpenSpec.upto schemaRightSpec)) schemaRightUptoCard

/-- THE SECOND FORM's CARD OF 'tabellionlaw12.SchemaBack'. -/
def schemaBackUptoCard : Claim7 := { stood := { row := schemaBackUptoRow, standIns := [], harness := (true, "0f9d379b5a97b729057bfe39f399b1e3ea2ce8a4d3f08451d08f309d2f7a9532"), looks := false }, kinds := [], alts := [], laidByText := true, laidKinds := [.data, .data, .data], laidTests := true, laidLooks := .later }
def SchemaBackUptoCardSaid : Prop := Claim7.holds Tryz.pinned (.plain (OpenSpec.upto schemaBackSpec)) schemaBackUptoCard
end Rows
end Go.Proofs.YtjajlmjfddohfaaGreatDoor
