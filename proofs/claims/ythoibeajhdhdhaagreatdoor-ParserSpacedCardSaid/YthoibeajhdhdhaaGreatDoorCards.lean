/-
  DERIVED. GIVEN WITH THE SEED: THE CARDS: each row of YthoibeajhdhdhaaGreatDoorRows.lean that lists a variable, with what it lists TIED to the program's text (the seventh form; the later family's looks); each row that meets fmt, with fmt's text TOLD by the authors' own Lean function (tested against real Go, not proved from fmt's source: count such statements apart). THE CARD IS WHAT COUNTS. Prove the row's statement (the work); the ties are given (YthoibeajhdhdhaaGreatDoorTie.lean); close each card by the builder's one call (the guide's Derived/Test/ToyasCard.lean, 'card_holds'). Laid BY PROGRAM, IN A SANDBOX (cutbox-door.mjs). By AI agents, Wed Nov 11 2026. No macro, syntax, notation, axiom, sorry.
-/
import Derived.Test.YthoibeajhdhdhaaGreatDoorRows
import GoSem.ClaimSeven
namespace Go.Proofs.YthoibeajhdhdhaaGreatDoor
namespace Rows

/-- THE TIED CARD OF 'intervalmonlaw07.ParserParses'. -/
def parserParsesCard : Claim7 := { stood := { row := parserParsesRow, standIns := [], harness := (true, "641bbffcb84d061b543eca52e0c9a63fa37ebbc14fb738bd8c83ac5a656e6eed"), looks := true }, kinds := [], alts := [], laidByText := true, laidKinds := [.data, .data, .data, .widerDeep, .widerDeep, .widerDeep, .data], laidTests := true, laidLooks := .later }
def ParserParsesCardSaid : Prop := Claim7.holds Tryz.pinned (.plain (OpenSpec.ofChange parserParsesSpec)) parserParsesCard

/-- THE TIED CARD OF 'intervalmonlaw07.ParserRaw'. -/
def parserRawCard : Claim7 := { stood := { row := parserRawRow, standIns := [], harness := (true, "641bbffcb84d061b543eca52e0c9a63fa37ebbc14fb738bd8c83ac5a656e6eed"), looks := true }, kinds := [], alts := [], laidByText := true, laidKinds := [.data, .data, .data, .widerDeep, .widerDeep, .widerDeep, .data], laidTests := true, laidLooks := .later }
def ParserRawCardSaid : Prop := Claim7.holds Tryz.pinned (.plain (OpenSpec.ofChange parserRawSpec)) parserRawCard

/-- THE TIED CARD OF 'intervalmonlaw07.ParserLimits'. -/
def parserLimitsCard : Claim7 := { stood := { row := parserLimitsRow, standIns := [], harness := (true, "641bbffcb84d061b543eca52e0c9a63fa37ebbc14fb738bd8c83ac5a656e6eed"), looks := true }, kinds := [], alts := [], laidByText := true, laidKinds := [.data, .data, .data, .widerDeep, .widerDeep, .widerDeep, .data], laidTests := true, laidLooks := .later }
def ParserLimitsCardSaid : Prop := Claim7.holds Tryz.pinned (.plain (OpenSpec.ofChange parserLimitsSpec)) parserLimitsCard

/-- THE TIED CARD OF 'intervalmonlaw07.ParserValid'. -/
def parserValidCard : Claim7 := { stood := { row := parserValidRow, standIns := [], harness := (true, "641bbffcb84d061b543eca52e0c9a63fa37ebbc14fb738bd8c83ac5a656e6eed"), looks := true }, kinds := [], alts := [], laidByText := true, laidKinds := [.data, .data, .data, .widerDeep, .widerDeep, .widerDeep, .data], laidTests := true, laidLooks := .later }
def ParserValidCardSaid : Prop := Claim7.holds Tryz.pinned (.plain (OpenSpec.ofChange parserValidSpec)) parserValidCard

/-- THE TIED CARD OF 'intervalmonlaw07.ParserPrints'. -/
def parserPrintsCard : Claim7 := { stood := { row := parserPrintsRow, standIns := [], harness := (true, "641bbffcb84d061b543eca52e0c9a63fa37ebbc14fb738bd8c83ac5a656e6eed"), looks := true }, kinds := [], alts := [], laidByText := true, laidKinds := [.data, .data, .data, .widerDeep, .widerDeep, .widerDeep, .data], laidTests := true, laidLooks := .later }
def ParserPrintsCardSaid : Prop := Claim7.holds Tryz.pinned (.plain (OpenSpec.ofChange parserPrintsSpec)) parserPrintsCard

/-- THE TIED CARD OF 'intervalmonlaw07.ParserSpaced'. -/
def parserSpacedCard : Claim7 := { stood := { row := parserSpacedRow, standIns := [], harness := (true, "641bbffcb84d061b543eca52e0c9a63fa37ebbc14fb738bd8c83ac5a656e6eed"), looks := true }, kinds := [], alts := [], laidByText := true, laidKinds := [.data, .data, .data, .widerDeep, .widerDeep, .widerDeep, .data], laidTests := true, laidLooks := .later }
def ParserSpacedCardSaid : Prop := Claim7.holds Tryz.pinned (.plain (OpenSpec.ofChange parserSpacedSpec)) parserSpacedCard

/-- THE TIED CARD OF 'intervalmonlaw07.ParserEqual'. -/
def parserEqualCard : Claim7 := { stood := { row := parserEqualRow, standIns := [], harness := (true, "641bbffcb84d061b543eca52e0c9a63fa37ebbc14fb738bd8c83ac5a656e6eed"), looks := true }, kinds := [], alts := [], laidByText := true, laidKinds := [.data, .data, .data, .widerDeep, .widerDeep, .widerDeep, .data], laidTests := true, laidLooks := .later }
def ParserEqualCardSaid : Prop := Claim7.holds Tryz.pinned (.plain (OpenSpec.ofChange parserEqualSpec)) parserEqualCard

/-- THE SECOND FORM's CARD OF 'intervalmonlaw07.ParserParses'. -/
def parserParsesUptoCard : Claim7 := { stood := { row := parserParsesUptoRow, standIns := [], harness := (true, "641bbffcb84d061b543eca52e0c9a63fa37ebbc14fb738bd8c83ac5a656e6eed"), looks := true }, kinds := [], alts := [], laidByText := true, laidKinds := [.data, .data, .data, .widerDeep, .widerDeep, .widerDeep, .data], laidTests := true, laidLooks := .later }
def ParserParsesUptoCardSaid : Prop := Claim7.holds Tryz.pinned (.plain (OpenSpec.upto parserParsesSpec)) parserParsesUptoCard

/-- THE SECOND FORM's CARD OF 'intervalmonlaw07.ParserRaw'. -/
def parserRawUptoCard : Claim7 := { stood := { row := parserRawUptoRow, standIns := [], harness := (true, "641bbffcb84d061b543eca52e0c9a63fa37ebbc14fb738bd8c83ac5a656e6eed"), looks := true }, kinds := [], alts := [], laidByText := true, laidKinds := [.data, .data, .data, .widerDeep, .widerDeep, .widerDeep, .data], laidTests := true, laidLooks := .later }
def ParserRawUptoCardSaid : Prop := Claim7.holds Tryz.pinned (.plain (OpenSpec.upto parserRawSpec)) parserRawUptoCard

/-- THE SECOND FORM's CARD OF 'intervalmonlaw07.ParserLimits'. -/
def parserLimitsUptoCard : Claim7 := { stood := { row := parserLimitsUptoRow, standIns := [], harness := (true, "641bbffcb84d061b543eca52e0c9a63fa37ebbc14fb738bd8c83ac5a656e6eed"), looks := true }, kinds := [], alts := [], laidByText := true, laidKinds := [.data, .data, .data, .widerDeep, .widerDeep, .widerDeep, .data], laidTests := true, laidLooks := .later }
def ParserLimitsUptoCardSaid : Prop := Claim7.holds Tryz.pinned (.plain (OpenSpec.upto parserLimitsSpec)) parserLimitsUptoCard

/-- THE SECOND FORM's CARD OF 'intervalmonlaw07.ParserValid'. -/
def parserValidUptoCard : Claim7 := { stood := { row := parserValidUptoRow, standIns := [], harness := (true, "641bbffcb84d061b543eca52e0c9a63fa37ebbc14fb738bd8c83ac5a656e6eed"), looks := true }, kinds := [], alts := [], laidByText := true, laidKinds := [.data, .data, .data, .widerDeep, .widerDeep, .widerDeep, .data], laidTests := true, laidLooks := .later }
def ParserValidUptoCardSaid : Prop := Claim7.holds Tryz.pinned (.plain (OpenSpec.upto parserValidSpec)) parserValidUptoCard

/-- THE SECOND FORM's CARD OF 'intervalmonlaw07.ParserPrints'. -/
def parserPrintsUptoCard : Claim7 := { stood := { row := parserPrintsUptoRow, standIns := [], harness := (true, "641bbffcb84d061b543eca52e0c9a63fa37ebbc14fb738bd8c83ac5a656e6eed"), looks := true }, kinds := [], alts := [], laidByText := true, laidKinds := [.data, .data, .data, .widerDeep, .widerDeep, .widerDeep, .data], laidTests := true, laidLooks := .later }
def ParserPrintsUptoCardSaid : Prop := Claim7.holds Tryz.pinned (.plain (OpenSpec.upto parserPrintsSpec)) parserPrintsUptoCard

/-- THE SECOND FORM's CARD OF 'intervalmonlaw07.ParserSpaced'. -/
def parserSpacedUptoCard : Claim7 := { stood := { row := parserSpacedUptoRow, standIns := [], harness := (true, "641bbffcb84d061b543eca52e0c9a63fa37ebbc14fb738bd8c83ac5a656e6eed"), looks := true }, kinds := [], alts := [], laidByText := true, laidKinds := [.data, .data, .data, .widerDeep, .widerDeep, .widerDeep, .data], laidTests := true, laidLooks := .later }
def ParserSpacedUptoCardSaid : Prop := Claim7.holds Tryz.pinned (.plain (OpenSpec.upto parserSpacedSpec)) parserSpacedUptoCard

/-- THE SECOND FORM's CARD OF 'intervalmonlaw07.ParserEqual'. -/
def parserEqualUptoCard : Claim7 := { stood := { row := parserEqualUptoRow, standIns := [], harness := (true, "641bbffcb84d061b543eca52e0c9a63fa37ebbc14fb738bd8c83ac5a656e6eed"), looks := true }, kinds := [], alts := [], laidByText := true, laidKinds := [.data, .data, .data, .widerDeep, .widerDeep, .widerDeep, .data], laidTests := true, laidLooks := .later }
def ParserEqualUptoCardSaid : Prop := Claim7.holds Tryz.pinned (.plain (OpenSpec.upto parserEqualSpec)) parserEqualUptoCard
end Rows
end Go.Proofs.YthoibeajhdhdhaaGreatDoor
