/-
  DERIVED. GIVEN WITH THE SEED: THE CARDS: each row of YthoibeajhdhdhaaDoorRows.lean that lists a variable, with what it lists TIED to the program's text (the seventh form; the later family's looks); each row that meets fmt, with fmt's text TOLD by the authors' own Lean function (tested against real Go, not proved from fmt's source: count such statements apart). THE CARD IS WHAT COUNTS. Prove the row's statement (the work); the ties are given (YthoibeajhdhdhaaDoorTie.lean); close each card by the builder's one call (the guide's Derived/Test/ToyasCard.lean, 'card_holds'). Laid BY PROGRAM, IN A SANDBOX (cutbox-door.mjs). By AI agents, Wed Nov 11 2026. No macro, syntax, notation, axiom, sorry.
-/
import Derived.Test.YthoibeajhdhdhaaDoorRows
import GoSem.ClaimSeven
namespace Go.Proofs.YthoibeajhdhdhaaDoor
namespace Rows

/-- THE TIED CARD OF 'intervalmonlaw07.ParserRound'. -/
def parserRoundCard : Claim7 := { stood := { row := parserRoundRow, standIns := [], harness := (true, "f5ac434c4b3081edd0f0bea7d0e668a377a6731e75bc5574372cd8034d67c43f"), looks := true }, kinds := [], alts := [], laidByText := true, laidKinds := [.data, .data, .data, .widerDeep, .widerDeep, .widerDeep, .data], laidTests := true, laidLooks := .later }
def ParserRoundCardSaid : Prop := Claim7.holds Tryd.pinned (.plain (OpenSpec.ofChange parserRoundSpec)) parserRoundCard

/-- THE TIED CARD OF 'intervalmonlaw07.ParserPrecedence'. -/
def parserPrecedenceCard : Claim7 := { stood := { row := parserPrecedenceRow, standIns := [], harness := (true, "f5ac434c4b3081edd0f0bea7d0e668a377a6731e75bc5574372cd8034d67c43f"), looks := true }, kinds := [], alts := [], laidByText := true, laidKinds := [.data, .data, .data, .widerDeep, .widerDeep, .widerDeep, .data], laidTests := true, laidLooks := .later }
def ParserPrecedenceCardSaid : Prop := Claim7.holds Tryd.pinned (.plain (OpenSpec.ofChange parserPrecedenceSpec)) parserPrecedenceCard

/-- THE TIED CARD OF 'intervalmonlaw07.ParserNumbers'. -/
def parserNumbersCard : Claim7 := { stood := { row := parserNumbersRow, standIns := [], harness := (true, "f5ac434c4b3081edd0f0bea7d0e668a377a6731e75bc5574372cd8034d67c43f"), looks := true }, kinds := [], alts := [], laidByText := true, laidKinds := [.data, .data, .data, .widerDeep, .widerDeep, .widerDeep, .data], laidTests := true, laidLooks := .later }
def ParserNumbersCardSaid : Prop := Claim7.holds Tryd.pinned (.plain (OpenSpec.ofChange parserNumbersSpec)) parserNumbersCard

/-- THE SECOND FORM's CARD OF 'intervalmonlaw07.ParserRound'. -/
def parserRoundUptoCard : Claim7 := { stood := { row := parserRoundUptoRow, standIns := [], harness := (true, "f5ac434c4b3081edd0f0bea7d0e668a377a6731e75bc5574372cd8034d67c43f"), looks := true }, kinds := [], alts := [], laidByText := true, laidKinds := [.data, .data, .data, .widerDeep, .widerDeep, .widerDeep, .data], laidTests := true, laidLooks := .later }
def ParserRoundUptoCardSaid : Prop := Claim7.holds Tryd.pinned (.plain (OpenSpec.upto parserRoundSpec)) parserRoundUptoCard

/-- THE SECOND FORM's CARD OF 'intervalmonlaw07.ParserPrecedence'. -/
def parserPrecedenceUptoCard : Claim7 := { stood := { row := parserPrecedenceUptoRow, standIns := [], harness := (true, "f5ac434c4b3081edd0f0bea7d0e668a377a6731e75bc5574372cd8034d67c43f"), looks := true }, kinds := [], alts := [], laidByText := true, laidKinds := [.data, .data, .data, .widerDeep, .widerDeep, .widerDeep, .data], laidTests := true, laidLooks := .later }
def ParserPrecedenceUptoCardSaid : Prop := Claim7.holds Tryd.pinned (.plain (OpenSpec.upto parserPrecedenceSpec)) parserPrecedenceUptoCard

/-- THE SECOND FORM's CARD OF 'intervalmonlaw07.ParserNumbers'. -/
def parserNumbersUptoCard : Claim7 := { stood := { row := parserNumbersUptoRow, standIns := [], harness := (true, "f5ac434c4b3081edd0f0bea7d0e668a377a6731e75bc5574372cd8034d67c43f"), looks := true }, kinds := [], alts := [], laidByText := true, laidKinds := [.data, .data, .data, .widerDeep, .widerDeep, .widerDeep, .data], laidTests := true, laidLooks := .later }
def ParserNumbersUptoCardSaid : Prop := Claim7.holds Tryd.pinned (.plain (OpenSpec.upto parserNumbersSpec)) parserNumbersUptoCard
end Rows
end Go.Proofs.YthoibeajhdhdhaaDoor
