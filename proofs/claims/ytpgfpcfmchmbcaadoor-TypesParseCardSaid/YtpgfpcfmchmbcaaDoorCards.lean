/-
  DERIVED. GIVEN WITH THE SEED: THE CARDS: each row of YtpgfpcfmchmbcaaDoorRows.lean that lists a variable, with what it lists TIED to the program's text (the seventh form; the later family's looks); each row that meets fmt, with fmt's text TOLD by the authors' own Lean function (tested against real Go, not proved from fmt's source: count such statements apart). THE CARD IS WHAT COUNTS. Prove the row's statement (the work); the ties are given (YtpgfpcfmchmbcaaDoorTie.lean); close each card by the builder's one call (the guide's Derived/Test/ToyasCard.lean, 'card_holds'). Laid BY PROGRAM, IN A SANDBOX (cutbox-door.mjs). By AI agents, Wed Nov 11 2026. No macro, syntax, notation, axiom, sorry.
-/
import Derived.Test.YtpgfpcfmchmbcaaDoorRows
import GoSem.ClaimSeven
namespace Go.Proofs.YtpgfpcfmchmbcaaDoor
namespace Rows

/-- THE TIED CARD OF 'intervalmonlaw08.TypesRound'. -/
def typesRoundCard : Claim7 := { stood := { row := typesRoundRow, standIns := [], harness := (true, "296be0f58c4abe216961e0ebbc69b37e81d7661632d3eb0cb112319d6a1bfb5a"), looks := true }, kinds := [], alts := [], laidByText := true, laidKinds := [.data, .data, .data, .data, .sentinel, .sentinel, .widerDeep, .widerDeep, .pinned], laidTests := true, laidLooks := .later }
def TypesRoundCardSaid : Prop := Claim7.holds Tryd.pinned (.plain (OpenSpec.ofChange typesRoundSpec)) typesRoundCard

/-- THE TIED CARD OF 'intervalmonlaw08.TypesParse'. -/
def typesParseCard : Claim7 := { stood := { row := typesParseRow, standIns := [], harness := (true, "296be0f58c4abe216961e0ebbc69b37e81d7661632d3eb0cb112319d6a1bfb5a"), looks := true }, kinds := [], alts := [], laidByText := true, laidKinds := [.data, .data, .data, .data, .sentinel, .sentinel, .widerDeep, .widerDeep, .pinned], laidTests := true, laidLooks := .later }
def TypesParseCardSaid : Prop := Claim7.holds Tryd.pinned (.plain (OpenSpec.ofChange typesParseSpec)) typesParseCard

/-- THE SECOND FORM's CARD OF 'intervalmonlaw08.TypesRound'. -/
def typesRoundUptoCard : Claim7 := { stood := { row := typesRoundUptoRow, standIns := [], harness := (true, "296be0f58c4abe216961e0ebbc69b37e81d7661632d3eb0cb112319d6a1bfb5a"), looks := true }, kinds := [], alts := [], laidByText := true, laidKinds := [.data, .data, .data, .data, .sentinel, .sentinel, .widerDeep, .widerDeep, .pinned], laidTests := true, laidLooks := .later }
def TypesRoundUptoCardSaid : Prop := Claim7.holds Tryd.pinned (.plain (OpenSpec.upto typesRoundSpec)) typesRoundUptoCard

/-- THE SECOND FORM's CARD OF 'intervalmonlaw08.TypesParse'. -/
def typesParseUptoCard : Claim7 := { stood := { row := typesParseUptoRow, standIns := [], harness := (true, "296be0f58c4abe216961e0ebbc69b37e81d7661632d3eb0cb112319d6a1bfb5a"), looks := true }, kinds := [], alts := [], laidByText := true, laidKinds := [.data, .data, .data, .data, .sentinel, .sentinel, .widerDeep, .widerDeep, .pinned], laidTests := true, laidLooks := .later }
def TypesParseUptoCardSaid : Prop := Claim7.holds Tryd.pinned (.plain (OpenSpec.upto typesParseSpec)) typesParseUptoCard
end Rows
end Go.Proofs.YtpgfpcfmchmbcaaDoor
