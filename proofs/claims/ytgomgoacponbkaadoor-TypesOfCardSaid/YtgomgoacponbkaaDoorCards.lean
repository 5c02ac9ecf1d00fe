/-
  DERIVED. GIVEN WITH THE SEED: THE CARDS: each row of YtgomgoacponbkaaDoorRows.lean that lists a variable, with what it lists TIED to the program's text (the seventh form; the later family's looks); each row that meets fmt, with fmt's text TOLD by the authors' own Lean function (tested against real Go, not proved from fmt's source: count such statements apart). THE CARD IS WHAT COUNTS. Prove the row's statement (the work); the ties are given (YtgomgoacponbkaaDoorTie.lean); close each card by the builder's one call (the guide's Derived/Test/ToyasCard.lean, 'card_holds'). Laid BY PROGRAM, IN A SANDBOX (cutbox-door.mjs). By AI agents, Wed Nov 11 2026. No macro, syntax, notation, axiom, sorry.
-/
import Derived.Test.YtgomgoacponbkaaDoorRows
import GoSem.ClaimSeven
namespace Go.Proofs.YtgomgoacponbkaaDoor
namespace Rows

/-- THE TIED CARD OF 'intervalmonlaw08.TypesUnits'. -/
def typesUnitsCard : Claim7 := { stood := { row := typesUnitsRow, standIns := [], harness := (true, "664358e85878af30d1ff9dd46aecf3a782f69303c77597fc318d727230651de0"), looks := false }, kinds := [], alts := [], laidByText := true, laidKinds := [.data, .data, .data, .widerDeep, .widerDeep], laidTests := true, laidLooks := .later }
def TypesUnitsCardSaid : Prop := Claim7.holds Tryd.pinned (.plain (OpenSpec.ofChange typesUnitsSpec)) typesUnitsCard

/-- THE TIED CARD OF 'intervalmonlaw08.TypesOf'. -/
def typesOfCard : Claim7 := { stood := { row := typesOfRow, standIns := [], harness := (true, "664358e85878af30d1ff9dd46aecf3a782f69303c77597fc318d727230651de0"), looks := false }, kinds := [], alts := [], laidByText := true, laidKinds := [.data, .data, .data, .widerDeep, .widerDeep], laidTests := true, laidLooks := .later }
def TypesOfCardSaid : Prop := Claim7.holds Tryd.pinned (.plain (OpenSpec.ofChange typesOfSpec)) typesOfCard

/-- THE TIED CARD OF 'intervalmonlaw08.TypesAlgebra'. -/
def typesAlgebraCard : Claim7 := { stood := { row := typesAlgebraRow, standIns := [], harness := (true, "664358e85878af30d1ff9dd46aecf3a782f69303c77597fc318d727230651de0"), looks := false }, kinds := [], alts := [], laidByText := true, laidKinds := [.data, .data, .data, .widerDeep, .widerDeep], laidTests := true, laidLooks := .later }
def TypesAlgebraCardSaid : Prop := Claim7.holds Tryd.pinned (.plain (OpenSpec.ofChange typesAlgebraSpec)) typesAlgebraCard

/-- THE TIED CARD OF 'intervalmonlaw08.TypesOrder'. -/
def typesOrderCard : Claim7 := { stood := { row := typesOrderRow, standIns := [], harness := (true, "664358e85878af30d1ff9dd46aecf3a782f69303c77597fc318d727230651de0"), looks := false }, kinds := [], alts := [], laidByText := true, laidKinds := [.data, .data, .data, .widerDeep, .widerDeep], laidTests := true, laidLooks := .later }
def TypesOrderCardSaid : Prop := Claim7.holds Tryd.pinned (.plain (OpenSpec.ofChange typesOrderSpec)) typesOrderCard

/-- THE TIED CARD OF 'intervalmonlaw08.TypesBy'. -/
def typesByCard : Claim7 := { stood := { row := typesByRow, standIns := [], harness := (true, "664358e85878af30d1ff9dd46aecf3a782f69303c77597fc318d727230651de0"), looks := false }, kinds := [], alts := [], laidByText := true, laidKinds := [.data, .data, .data, .widerDeep, .widerDeep], laidTests := true, laidLooks := .later }
def TypesByCardSaid : Prop := Claim7.holds Tryd.pinned (.plain (OpenSpec.ofChange typesBySpec)) typesByCard

/-- THE TIED CARD OF 'intervalmonlaw08.TypesQuotient'. -/
def typesQuotientCard : Claim7 := { stood := { row := typesQuotientRow, standIns := [], harness := (true, "664358e85878af30d1ff9dd46aecf3a782f69303c77597fc318d727230651de0"), looks := false }, kinds := [], alts := [], laidByText := true, laidKinds := [.data, .data, .data, .widerDeep, .widerDeep], laidTests := true, laidLooks := .later }
def TypesQuotientCardSaid : Prop := Claim7.holds Tryd.pinned (.plain (OpenSpec.ofChange typesQuotientSpec)) typesQuotientCard

/-- THE SECOND FORM's CARD OF 'intervalmonlaw08.TypesUnits'. -/
def typesUnitsUptoCard : Claim7 := { stood := { row := typesUnitsUptoRow, standIns := [], harness := (true, "664358e85878af30d1ff9dd46aecf3a782f69303c77597fc318d727230651de0"), looks := false }, kinds := [], alts := [], laidByText := true, laidKinds := [.data, .data, .data, .widerDeep, .widerDeep], laidTests := true, laidLooks := .later }
def TypesUnitsUptoCardSaid : Prop := Claim7.holds Tryd.pinned (.plain (OpenSpec.upto typesUnitsSpec)) typesUnitsUptoCard

/-- THE SECOND FORM's CARD OF 'intervalmonlaw08.TypesOf'. -/
def typesOfUptoCard : Claim7 := { stood := { row := typesOfUptoRow, standIns := [], harness := (true, "664358e85878af30d1ff9dd46aecf3a782f69303c77597fc318d727230651de0"), looks := false }, kinds := [], alts := [], laidByText := true, laidKinds := [.data, .data, .data, .widerDeep, .widerDeep], laidTests := true, laidLooks := .later }
def TypesOfUptoCardSaid : Prop := Claim7.holds Tryd.pinned (.plain (OpenSpec.upto typesOfSpec)) typesOfUptoCard

/-- THE SECOND FORM's CARD OF 'intervalmonlaw08.TypesAlgebra'. -/
def typesAlgebraUptoCard : Claim7 := { stood := { row := typesAlgebraUptoRow, standIns := [], harness := (true, "664358e85878af30d1ff9dd46aecf3a782f69303c77597fc318d727230651de0"), looks := false }, kinds := [], alts := [], laidByText := true, laidKinds := [.data, .data, .data, .widerDeep, .widerDeep], laidTests := true, laidLooks := .later }
def TypesAlgebraUptoCardSaid : Prop := Claim7.holds Tryd.pinned (.plain (OpenSpec.upto typesAlgebraSpec)) typesAlgebraUptoCard

/-- THE SECOND FORM's CARD OF 'intervalmonlaw08.TypesOrder'. -/
def typesOrderUptoCard : Claim7 := { stood := { row := typesOrderUptoRow, standIns := [], harness := (true, "664358e85878af30d1ff9dd46aecf3a782f69303c77597fc318d727230651de0"), looks := false }, kinds := [], alts := [], laidByText := true, laidKinds := [.data, .data, .data, .widerDeep, .widerDeep], laidTests := true, laidLooks := .later }
def TypesOrderUptoCardSaid : Prop := Claim7.holds Tryd.pinned (.plain (OpenSpec.upto typesOrderSpec)) typesOrderUptoCard

/-- THE SECOND FORM's CARD OF 'intervalmonlaw08.TypesBy'. -/
def typesByUptoCard : Claim7 := { stood := { row := typesByUptoRow, standIns := [], harness := (true, "664358e85878af30d1ff9dd46aecf3a782f69303c77597fc318d727230651de0"), looks := false }, kinds := [], alts := [], laidByText := true, laidKinds := [.data, .data, .data, .widerDeep, .widerDeep], laidTests := true, laidLooks := .later }
def TypesByUptoCardSaid : Prop := Claim7.holds Tryd.pinned (.plain (OpenSpec.upto typesBySpec)) typesByUptoCard

/-- THE SECOND FORM's CARD OF 'intervalmonlaw08.TypesQuotient'. -/
def typesQuotientUptoCard : Claim7 := { stood := { row := typesQuotientUptoRow, standIns := [], harness := (true, "664358e85878af30d1ff9dd46aecf3a782f69303c77597fc318d727230651de0"), looks := false }, kinds := [], alts := [], laidByText := true, laidKinds := [.data, .data, .data, .widerDeep, .widerDeep], laidTests := true, laidLooks := .later }
def TypesQuotientUptoCardSaid : Prop := Claim7.holds Tryd.pinned (.plain (OpenSpec.upto typesQuotientSpec)) typesQuotientUptoCard
end Rows
end Go.Proofs.YtgomgoacponbkaaDoor
