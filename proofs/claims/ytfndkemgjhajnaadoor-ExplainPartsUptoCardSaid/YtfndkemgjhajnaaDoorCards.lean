/-
  DERIVED. GIVEN WITH THE SEED: THE CARDS: each row of YtfndkemgjhajnaaDoorRows.lean that lists a variable, with what it lists TIED to the program's text (the seventh form; the later family's looks); each row that meets fmt, with fmt's text TOLD by the authors' own Lean function (tested against real Go, not proved from fmt's source: count such statements apart). THE CARD IS WHAT COUNTS. Prove the row's statement (the work); the ties are given (YtfndkemgjhajnaaDoorTie.lean); close each card by the builder's one call (the guide's Derived/Test/ToyasCard.lean, 'card_holds'). Laid BY PROGRAM, IN A SANDBOX (cutbox-door.mjs). By AI agents, Wed Nov 11 2026. No macro, syntax, notation, axiom, sorry.
-/
import Derived.Test.YtfndkemgjhajnaaDoorRows
import GoSem.ClaimSeven
namespace Go.Proofs.YtfndkemgjhajnaaDoor
namespace Rows

/-- THE TIED CARD OF 'tabellionlaw30.ExplainLines'. -/
def explainLinesCard : Claim7 := { stood := { row := explainLinesRow, standIns := [], harness := (true, "9daae72fce08b42dd2f0c0aef3e086e4835a169b7111c95237a5d6760c6c6d82"), looks := false }, kinds := [], alts := [], laidByText := true, laidKinds := [.data, .data, .data, .data, .pinned], laidTests := true, laidLooks := .later }
def ExplainLinesCardSaid : Prop := Claim7.holds Tryd.pinned (.plain (OpenSpec.ofChange explainLinesSpec)) explainLinesCard

/-- THE TIED CARD OF 'tabellionlaw30.ExplainTerms'. -/
def explainTermsCard : Claim7 := { stood := { row := explainTermsRow, standIns := [], harness := (true, "9daae72fce08b42dd2f0c0aef3e086e4835a169b7111c95237a5d6760c6c6d82"), looks := false }, kinds := [], alts := [], laidByText := true, laidKinds := [.data, .data, .data, .data, .pinned], laidTests := true, laidLooks := .later }
def ExplainTermsCardSaid : Prop := Claim7.holds Tryd.pinned (.plain (OpenSpec.ofChange explainTermsSpec)) explainTermsCard

/-- THE TIED CARD OF 'tabellionlaw30.ExplainParts'. -/
def explainPartsCard : Claim7 := { stood := { row := explainPartsRow, standIns := [], harness := (true, "9daae72fce08b42dd2f0c0aef3e086e4835a169b7111c95237a5d6760c6c6d82"), looks := false }, kinds := [], alts := [], laidByText := true, laidKinds := [.data, .data, .data, .data, .pinned], laidTests := true, laidLooks := .later }
def ExplainPartsCardSaid : Prop := Claim7.holds Tryd.pinned (.plain (OpenSpec.ofChange explainPartsSpec)) explainPartsCard

/-- THE SECOND FORM's CARD OF 'tabellionlaw30.ExplainLines'. -/
def explainLinesUptoCard : Claim7 := { stood := { row := explainLinesUptoRow, standIns := [], harness := (true, "9daae72fce08b42dd2f0c0aef3e086e4835a169b7111c95237a5d6760c6c6d82"), looks := false }, kinds := [], alts := [], laidByText := true, laidKinds := [.data, .data, .data, .data, .pinned], laidTests := true, laidLooks := .later }
def ExplainLinesUptoCardSaid : Prop := Claim7.holds Tryd.pinned (.plain (OpenSpec.upto explainLinesSpec)) explainLinesUptoCard

/-- THE SECOND FORM's CARD OF 'tabellionlaw30.ExplainTerms'. -/
def explainTermsUptoCard : Claim7 := { stood := { row := explainTermsUptoRow, standIns := [], harness := (true, "9daae72fce08b42dd2f0c0aef3e086e4835a169b7111c95237a5d6760c6c6d82"), looks := false }, kinds := [], alts := [], laidByText := true, laidKinds := [.data, .data, .data, .data, .pinned], laidTests := true, laidLooks := .later }
def ExplainTermsUptoCardSaid : Prop := Claim7.holds Tryd.pinned (.plain (OpenSpec.upto explainTermsSpec)) explainTermsUptoCard

/-- THE SECOND FORM's CARD OF 'tabellionlaw30.ExplainParts'. -/
def explainPartsUptoCard : Claim7 := { stood := { row := explainPartsUptoRow, standIns := [], harness := (true, "9daae72fce08b42dd2f0c0aef3e086e4835a169b7111c95237a5d6760c6c6d82"), looks := false }, kinds := [], alts := [], laidByText := true, laidKinds := [.data, .data, .data, .data, .pinned], laidTests := true, laidLooks := .later }
def ExplainPartsUptoCardSaid : Prop := Claim7.holds Tryd.pinned (.plain (OpenSpec.upto explainPartsSpec)) explainPartsUptoCard
end Rows
end Go.Proofs.YtfndkemgjhajnaaDoor
