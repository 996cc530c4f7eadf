/-
  DERIVED. GIVEN WITH THE SEED: THE CARDS: each row of YtemdljoideegeaaGreatDoorRows.lean that lists a variable, with what it lists TIED to the program's text (the seventh form; the later family's looks); each row that meets fmt, with fmt's text TOLD by the authors' own Lean function (tested against real Go, not proved from fmt's source: count such statements apart). THE CARD IS WHAT COUNTS. Prove the row's statement (the work); the ties are given (YtemdljoideegeaaGreatDoorTie.lean); close each card by the builder's one call (the guide's Derived/Test/ToyasCard.lean, 'card_holds'). Laid BY PROGRAM, IN A SANDBOX (cutbox-door.mjs). By AI agents, Wed Nov 11 2026. No macro, syntax, notation, axiom, sorry.
-/
import Derived.Test.YtemdljoideegeaaGreatDoorRows
import GoSem.ClaimSeven
namespace Go.Proofs.YtemdljoideegeaaGreatDoor
namespace Rows

/-- THE TIED CARD OF 'tabellionlaw11.PrintStmts'. -/
def printStmtsCard : Claim7 := { stood := { row := printStmtsRow, standIns := [], harness := (true, "296f6a9c7ef4ec75510699cb742ef9050feadd313efc8040cd47ed4c88bb5dbc"), looks := false }, kinds := [], alts := [], laidByText := true, laidKinds := [.data, .data, .data, .data, .pinned], laidTests := true, laidLooks := .later }
def PrintStmtsCardSaid : Prop := Claim7.holds Tryz.pinned (.plain (OpenSpec.ofChange printStmtsSpec)) printStmtsCard

/-- THE TIED CARD OF 'tabellionlaw11.PrintQueries'. -/
def printQueriesCard : Claim7 := { stood := { row := printQueriesRow, standIns := [], harness := (true, "296f6a9c7ef4ec75510699cb742ef9050feadd313efc8040cd47ed4c88bb5dbc"), looks := false }, kinds := [], alts := [], laidByText := true, laidKinds := [.data, .data, .data, .data, .pinned], laidTests := true, laidLooks := .later }
def PrintQueriesCardSaid : Prop := Claim7.holds Tryz.pinned (.plain (OpenSpec.ofChange printQueriesSpec)) printQueriesCard

/-- THE SECOND FORM's CARD OF 'tabellionlaw11.PrintStmts'. -/
def printStmtsUptoCard : Claim7 := { stood := { row := printStmtsUptoRow, standIns := [], harness := (true, "296f6a9c7ef4ec75510699cb742ef9050feadd313efc8040cd47ed4c88bb5dbc"), looks := false }, kinds := [], alts := [], laidByText := true, laidKinds := [.data, .data, .data, .data, .pinned], laidTests := true, laidLooks := .later }
def PrintStmtsUptoCardSaid : Prop := Claim7.holds Tryz.pinned (.plain (OpenSpec.upto printStmtsSpec)) printStmtsUptoCard

/-- THE SECOND FORM's CARD OF 'tabellionlaw11.PrintQueries'. -/
def printQueriesUptoCard : Claim7 := { stood := { row := printQueriesUptoRow, standIns := [], harness := (true, "296f6a9c7ef4ec75510699cb742ef9050feadd313efc8040cd47ed4c88bb5dbc"), looks := false }, kinds := [], alts := [], laidByText := true, laidKinds := [.data, .data, .data, .data, .pinned], laidTests := true, laidLooks := .later }
def PrintQueriesUptoCardSaid : Prop := Claim7.holds Tryz.pinned (.plain (OpenSpec.upto printQueriesSpec)) printQueriesUptoCard
end Rows
end Go.Proofs.YtemdljoideegeaaGreatDoor
