/-
  DERIVED. GIVEN WITH THE SEED: THE CARDS: each row of YtiepbejeiijpmaaDoorRows.lean that lists a variable, with what it lists TIED to the program's text (the seventh form; the later family's looks); each row that meets fmt, with fmt's text TOLD by the authors' own Lean function (tested against real Go, not proved from fmt's source: count such statements apart). THE CARD IS WHAT COUNTS. Prove the row's statement (the work); the ties are given (YtiepbejeiijpmaaDoorTie.lean); close each card by the builder's one call (the guide's Derived/Test/ToyasCard.lean, 'card_holds'). Laid BY PROGRAM, IN A SANDBOX (cutbox-door.mjs). By AI agents, Wed Nov 11 2026. No macro, syntax, notation, axiom, sorry.
-/
import Derived.Test.YtiepbejeiijpmaaDoorRows
import GoSem.ClaimSeven
namespace Go.Proofs.YtiepbejeiijpmaaDoor
namespace Rows

/-- THE TIED CARD OF 'tabellionlaw34.SetopSays'. -/
def setopSaysCard : Claim7 := { stood := { row := setopSaysRow, standIns := [], harness := (true, "607be8c80cb41552f6de7b0d287a3bec5baabde1fb5ae9d916c72f5fcbbe17d7"), looks := false }, kinds := [], alts := [], laidByText := true, laidKinds := [.data, .data, .data], laidTests := true, laidLooks := .later }
def SetopSaysCardSaid : Prop := Claim7.holds Tryd.pinned (.plain (OpenSpec.ofChange setopSaysSpec)) setopSaysCard

/-- THE TIED CARD OF 'tabellionlaw34.SetopCounts'. -/
def setopCountsCard : Claim7 := { stood := { row := setopCountsRow, standIns := [], harness := (true, "607be8c80cb41552f6de7b0d287a3bec5baabde1fb5ae9d916c72f5fcbbe17d7"), looks := false }, kinds := [], alts := [], laidByText := true, laidKinds := [.data, .data, .data], laidTests := true, laidLooks := .later }
def SetopCountsCardSaid : Prop := Claim7.holds Tryd.pinned (.plain (OpenSpec.ofChange setopCountsSpec)) setopCountsCard

/-- THE TIED CARD OF 'tabellionlaw34.SetopParts'. -/
def setopPartsCard : Claim7 := { stood := { row := setopPartsRow, standIns := [], harness := (true, "607be8c80cb41552f6de7b0d287a3bec5baabde1fb5ae9d916c72f5fcbbe17d7"), looks := false }, kinds := [], alts := [], laidByText := true, laidKinds := [.data, .data, .data], laidTests := true, laidLooks := .later }
def SetopPartsCardSaid : Prop := Claim7.holds Tryd.pinned (.plain (OpenSpec.ofChange setopPartsSpec)) setopPartsCard

/-- THE TIED CARD OF 'tabellionlaw03.ValueSays'. -/
def valueSaysCard : Claim7 := { stood := { row := valueSaysRow, standIns := [], harness := (true, "607be8c80cb41552f6de7b0d287a3bec5baabde1fb5ae9d916c72f5fcbbe17d7"), looks := false }, kinds := [], alts := [], laidByText := true, laidKinds := [.data, .data, .data, .data, .pinned], laidTests := true, laidLooks := .later }
def ValueSaysCardSaid : Prop := Claim7.holds Tryd.pinned (.plain (OpenSpec.ofChange valueSaysSpec)) valueSaysCard

/-- THE TIED CARD OF 'tabellionlaw03.ValueOrder'. -/
def valueOrderCard : Claim7 := { stood := { row := valueOrderRow, standIns := [], harness := (true, "607be8c80cb41552f6de7b0d287a3bec5baabde1fb5ae9d916c72f5fcbbe17d7"), looks := false }, kinds := [], alts := [], laidByText := true, laidKinds := [.data, .data, .data, .data, .pinned], laidTests := true, laidLooks := .later }
def ValueOrderCardSaid : Prop := Claim7.holds Tryd.pinned (.plain (OpenSpec.ofChange valueOrderSpec)) valueOrderCard

/-- THE TIED CARD OF 'tabellionlaw03.ValueOrders'. -/
def valueOrdersCard : Claim7 := { stood := { row := valueOrdersRow, standIns := [], harness := (true, "607be8c80cb41552f6de7b0d287a3bec5baabde1fb5ae9d916c72f5fcbbe17d7"), looks := false }, kinds := [], alts := [], laidByText := true, laidKinds := [.data, .data, .data, .data, .pinned], laidTests := true, laidLooks := .later }
def ValueOrdersCardSaid : Prop := Claim7.holds Tryd.pinned (.plain (OpenSpec.ofChange valueOrdersSpec)) valueOrdersCard

/-- THE TIED CARD OF 'tabellionlaw03.ValueSorts'. -/
def valueSortsCard : Claim7 := { stood := { row := valueSortsRow, standIns := [], harness := (true, "607be8c80cb41552f6de7b0d287a3bec5baabde1fb5ae9d916c72f5fcbbe17d7"), looks := false }, kinds := [], alts := [], laidByText := true, laidKinds := [.data, .data, .data, .data, .pinned], laidTests := true, laidLooks := .later }
def ValueSortsCardSaid : Prop := Claim7.holds Tryd.pinned (.plain (OpenSpec.ofChange valueSortsSpec)) valueSortsCard

/-- THE TIED CARD OF 'tabellionlaw03.ValueBags'. -/
def valueBagsCard : Claim7 := { stood := { row := valueBagsRow, standIns := [], harness := (true, "607be8c80cb41552f6de7b0d287a3bec5baabde1fb5ae9d916c72f5fcbbe17d7"), looks := false }, kinds := [], alts := [], laidByText := true, laidKinds := [.data, .data, .data, .data, .pinned], laidTests := true, laidLooks := .later }
def ValueBagsCardSaid : Prop := Claim7.holds Tryd.pinned (.plain (OpenSpec.ofChange valueBagsSpec)) valueBagsCard

/-- THE TIED CARD OF 'tabellionlaw03.ValueTexts'. -/
def valueTextsCard : Claim7 := { stood := { row := valueTextsRow, standIns := [], harness := (true, "607be8c80cb41552f6de7b0d287a3bec5baabde1fb5ae9d916c72f5fcbbe17d7"), looks := false }, kinds := [], alts := [], laidByText := true, laidKinds := [.data, .data, .data, .data, .pinned], laidTests := true, laidLooks := .later }
def ValueTextsCardSaid : Prop := Claim7.holds Tryd.pinned (.plain (OpenSpec.ofChange valueTextsSpec)) valueTextsCard

/-- THE TIED CARD OF 'tabellionlaw03.ValueRows'. -/
def valueRowsCard : Claim7 := { stood := { row := valueRowsRow, standIns := [], harness := (true, "607be8c80cb41552f6de7b0d287a3bec5baabde1fb5ae9d916c72f5fcbbe17d7"), looks := false }, kinds := [], alts := [], laidByText := true, laidKinds := [.data, .data, .data, .data, .pinned], laidTests := true, laidLooks := .later }
def ValueRowsCardSaid : Prop := Claim7.holds Tryd.pinned (.plain (OpenSpec.ofChange valueRowsSpec)) valueRowsCard

/-- THE SECOND FORM's CARD OF 'tabellionlaw34.SetopSays'. -/
def setopSaysUptoCard : Claim7 := { stood := { row := setopSaysUptoRow, standIns := [], harness := (true, "607be8c80cb41552f6de7b0d287a3bec5baabde1fb5ae9d916c72f5fcbbe17d7"), looks := false }, kinds := [], alts := [], laidByText := true, laidKinds := [.data, .data, .data], laidTests := true, laidLooks := .later }
def SetopSaysUptoCardSaid : Prop := Claim7.holds Tryd.pinned (.plain (OpenSpec.upto setopSaysSpec)) setopSaysUptoCard

/-- THE SECOND FORM's CARD OF 'tabellionlaw34.SetopCounts'. -/
def setopCountsUptoCard : Claim7 := { stood := { row := setopCountsUptoRow, standIns := [], harness := (true, "607be8c80cb41552f6de7b0d287a3bec5baabde1fb5ae9d916c72f5fcbbe17d7"), looks := false }, kinds := [], alts := [], laidByText := true, laidKinds := [.data, .data, .data], laidTests := true, laidLooks := .later }
def SetopCountsUptoCardSaid : Prop := Claim7.holds Tryd.pinned (.plain (OpenSpec.upto setopCountsSpec)) setopCountsUptoCard

/-- THE SECOND FORM's CARD OF 'tabellionlaw34.SetopParts'. -/
def setopPartsUptoCard : Claim7 := { stood := { row := setopPartsUptoRow, standIns := [], harness := (true, "607be8c80cb41552f6de7b0d287a3bec5baabde1fb5ae9d916c72f5fcbbe17d7"), looks := false }, kinds := [], alts := [], laidByText := true, laidKinds := [.data, .data, .data], laidTests := true, laidLooks := .later }
def SetopPartsUptoCardSaid : Prop := Claim7.holds Tryd.pinned (.plain (OpenSpec.upto setopPartsSpec)) setopPartsUptoCard

/-- THE SECOND FORM's CARD OF 'tabellionlaw03.ValueSays'. -/
def valueSaysUptoCard : Claim7 := { stood := { row := valueSaysUptoRow, standIns := [], harness := (true, "607be8c80cb41552f6de7b0d287a3bec5baabde1fb5ae9d916c72f5fcbbe17d7"), looks := false }, kinds := [], alts := [], laidByText := true, laidKinds := [.data, .data, .data, .data, .pinned], laidTests := true, laidLooks := .later }
def ValueSaysUptoCardSaid : Prop := Claim7.holds Tryd.pinned (.plain (OpenSpec.upto valueSaysSpec)) valueSaysUptoCard

/-- THE SECOND FORM's CARD OF 'tabellionlaw03.ValueOrder'. -/
def valueOrderUptoCard : Claim7 := { stood := { row := valueOrderUptoRow, standIns := [], harness := (true, "607be8c80cb41552f6de7b0d287a3bec5baabde1fb5ae9d916c72f5fcbbe17d7"), looks := false }, kinds := [], alts := [], laidByText := true, laidKinds := [.data, .data, .data, .data, .pinned], laidTests := true, laidLooks := .later }
def ValueOrderUptoCardSaid : Prop := Claim7.holds Tryd.pinned (.plain (OpenSpec.upto valueOrderSpec)) valueOrderUptoCard

/-- THE SECOND FORM's CARD OF 'tabellionlaw03.ValueOrders'. -/
def valueOrdersUptoCard : Claim7 := { stood := { row := valueOrdersUptoRow, standIns := [], harness := (true, "607be8c80cb41552f6de7b0d287a3bec5baabde1fb5ae9d916c72f5fcbbe17d7"), looks := false }, kinds := [], alts := [], laidByText := true, laidKinds := [.data, .data, .data, .data, .pinned], laidTests := true, laidLooks := .later }
def ValueOrdersUptoCardSaid : Prop := Claim7.holds Tryd.pinned (.plain (OpenSpec.upto valueOrdersSpec)) valueOrdersUptoCard

/-- THE SECOND FORM's CARD OF 'tabellionlaw03.ValueSorts'. -/
def valueSortsUptoCard : Claim7 := { stood := { row := valueSortsUptoRow, standIns := [], harness := (true, "607be8c80cb41552f6de7b0d287a3bec5baabde1fb5ae9d916c72f5fcbbe17d7"), looks := false }, kinds := [], alts := [], laidByText := true, laidKinds := [.data, .data, .data, .data, .pinned], laidTests := true, laidLooks := .later }
def ValueSortsUptoCardSaid : Prop := Claim7.holds Tryd.pinned (.plain (OpenSpec.upto valueSortsSpec)) valueSortsUptoCard

/-- THE SECOND FORM's CARD OF 'tabellionlaw03.ValueBags'. -/
def valueBagsUptoCard : Claim7 := { stood := { row := valueBagsUptoRow, standIns := [], harness := (true, "607be8c80cb41552f6de7b0d287a3bec5baabde1fb5ae9d916c72f5fcbbe17d7"), looks := false }, kinds := [], alts := [], laidByText := true, laidKinds := [.data, .data, .data, .data, .pinned], laidTests := true, laidLooks := .later }
def ValueBagsUptoCardSaid : Prop := Claim7.holds Tryd.pinned (.plain (OpenSpec.upto valueBagsSpec)) valueBagsUptoCard

/-- THE SECOND FORM's CARD OF 'tabellionlaw03.ValueTexts'. -/
def valueTextsUptoCard : Claim7 := { stood := { row := valueTextsUptoRow, standIns := [], harness := (true, "607be8c80cb41552f6de7b0d287a3bec5baabde1fb5ae9d916c72f5fcbbe17d7"), looks := false }, kinds := [], alts := [], laidByText := true, laidKinds := [.data, .data, .data, .data, .pinned], laidTests := true, laidLooks := .later }
def ValueTextsUptoCardSaid : Prop := Claim7.holds Tryd.pinned (.plain (OpenSpec.upto valueTextsSpec)) valueTextsUptoCard

/-- THE SECOND FORM's CARD OF 'tabellionlaw03.ValueRows'. -/
def valueRowsUptoCard : Claim7 := { stood := { row := valueRowsUptoRow, standIns := [], harness := (true, "607be8c80cb41552f6de7b0d287a3bec5baabde1fb5ae9d916c72f5fcbbe17d7"), looks := false }, kinds := [], alts := [], laidByText := true, laidKinds := [.data, .data, .data, .data, .pinned], laidTests := true, laidLooks := .later }
def ValueRowsUptoCardSaid : Prop := Claim7.holds Tryd.pinned (.plain (OpenSpec.upto valueRowsSpec)) valueRowsUptoCard
end Rows
end Go.Proofs.YtiepbejeiijpmaaDoor
