/-
  DERIVED. GIVEN WITH THE SEED: THE CARDS: each row of YtcifgobinleldaaGreatDoorRows.lean that lists a variable, with what it lists TIED to the program's text (the seventh form; the later family's looks); each row that meets fmt, with fmt's text TOLD by the authors' own Lean function (tested against real Go, not proved from fmt's source: count such statements apart). THE CARD IS WHAT COUNTS. Prove the row's statement (the work); the ties are given (YtcifgobinleldaaGreatDoorTie.lean); close each card by the builder's one call (the guide's Derived/Test/ToyasCard.lean, 'card_holds'). Laid BY PROGRAM, IN A SANDBOX (cutbox-door.mjs). By AI agents, Wed Nov 11 2026. No macro, syntax, notation, axiom, sorry.
-/
import Derived.Test.YtcifgobinleldaaGreatDoorRows
import GoSem.ClaimSeven
namespace Go.Proofs.YtcifgobinleldaaGreatDoor
namespace Rows

/-- THE TIED CARD OF 'intervalmonlaw23.PlanEncode'. -/
def planEncodeCard : Claim7 := { stood := { row := planEncodeRow, standIns := [], harness := (true, "76457b3edba3e29e6920b60097f3912781c509928d7c22d13f6be79c96201d16"), looks := true }, kinds := [], alts := [], laidByText := true, laidKinds := [.widerDeep, .widerDeep, .widerDeep, .data], laidTests := true, laidLooks := .later }
def PlanEncodeCardSaid : Prop := Claim7.holds Tryz.pinned (.plain (OpenSpec.ofChange planEncodeSpec)) planEncodeCard

/-- THE TIED CARD OF 'intervalmonlaw23.PlanUses'. -/
def planUsesCard : Claim7 := { stood := { row := planUsesRow, standIns := [], harness := (true, "76457b3edba3e29e6920b60097f3912781c509928d7c22d13f6be79c96201d16"), looks := true }, kinds := [], alts := [], laidByText := true, laidKinds := [.widerDeep, .widerDeep, .widerDeep, .data], laidTests := true, laidLooks := .later }
def PlanUsesCardSaid : Prop := Claim7.holds Tryz.pinned (.plain (OpenSpec.ofChange planUsesSpec)) planUsesCard

/-- THE TIED CARD OF 'intervalmonlaw23.PlanDecode'. -/
def planDecodeCard : Claim7 := { stood := { row := planDecodeRow, standIns := [], harness := (true, "76457b3edba3e29e6920b60097f3912781c509928d7c22d13f6be79c96201d16"), looks := true }, kinds := [], alts := [], laidByText := true, laidKinds := [.widerDeep, .widerDeep, .widerDeep, .data], laidTests := true, laidLooks := .later }
def PlanDecodeCardSaid : Prop := Claim7.holds Tryz.pinned (.plain (OpenSpec.ofChange planDecodeSpec)) planDecodeCard

/-- THE TIED CARD OF 'intervalmonlaw23.PlanPrinted'. -/
def planPrintedCard : Claim7 := { stood := { row := planPrintedRow, standIns := [], harness := (true, "76457b3edba3e29e6920b60097f3912781c509928d7c22d13f6be79c96201d16"), looks := true }, kinds := [], alts := [], laidByText := true, laidKinds := [.data, .data, .data, .widerDeep, .widerDeep, .widerDeep, .data], laidTests := true, laidLooks := .later }
def PlanPrintedCardSaid : Prop := Claim7.holds Tryz.pinned (.plain (OpenSpec.ofChange planPrintedSpec)) planPrintedCard

/-- THE TIED CARD OF 'intervalmonlaw08.TypesSelects'. -/
def typesSelectsCard : Claim7 := { stood := { row := typesSelectsRow, standIns := [], harness := (true, "76457b3edba3e29e6920b60097f3912781c509928d7c22d13f6be79c96201d16"), looks := true }, kinds := [], alts := [], laidByText := true, laidKinds := [.data, .data, .data, .widerDeep, .widerDeep, .widerDeep, .data, .widerDeep], laidTests := true, laidLooks := .later }
def TypesSelectsCardSaid : Prop := Claim7.holds Tryz.pinned (.plain (OpenSpec.ofChange typesSelectsSpec)) typesSelectsCard

/-- THE TIED CARD OF 'intervalmonlaw08.TypesPrinted'. -/
def typesPrintedCard : Claim7 := { stood := { row := typesPrintedRow, standIns := [], harness := (true, "76457b3edba3e29e6920b60097f3912781c509928d7c22d13f6be79c96201d16"), looks := true }, kinds := [], alts := [], laidByText := true, laidKinds := [.data, .data, .data, .widerDeep, .widerDeep, .widerDeep, .data, .widerDeep], laidTests := true, laidLooks := .later }
def TypesPrintedCardSaid : Prop := Claim7.holds Tryz.pinned (.plain (OpenSpec.ofChange typesPrintedSpec)) typesPrintedCard

/-- THE TIED CARD OF 'intervalmonlaw23.PlanPostings'. -/
def planPostingsCard : Claim7 := { stood := { row := planPostingsRow, standIns := [], harness := (true, "76457b3edba3e29e6920b60097f3912781c509928d7c22d13f6be79c96201d16"), looks := true }, kinds := [], alts := [], laidByText := true, laidKinds := [.widerDeep, .widerDeep, .widerDeep, .data], laidTests := true, laidLooks := .later }
def PlanPostingsCardSaid : Prop := Claim7.holds Tryz.pinned (.plain (OpenSpec.ofChange planPostingsSpec)) planPostingsCard

/-- THE SECOND FORM's CARD OF 'intervalmonlaw23.PlanEncode'. -/
def planEncodeUptoCard : Claim7 := { stood := { row := planEncodeUptoRow, standIns := [], harness := (true, "76457b3edba3e29e6920b60097f3912781c509928d7c22d13f6be79c96201d16"), looks := true }, kinds := [], alts := [], laidByText := true, laidKinds := [.widerDeep, .widerDeep, .widerDeep, .data], laidTests := true, laidLooks := .later }
def PlanEncodeUptoCardSaid : Prop := Claim7.holds Tryz.pinned (.plain (OpenSpec.upto planEncodeSpec)) planEncodeUptoCard

/-- THE SECOND FORM's CARD OF 'intervalmonlaw23.PlanUses'. -/
def planUsesUptoCard : Claim7 := { stood := { row := planUsesUptoRow, standIns := [], harness := (true, "76457b3edba3e29e6920b60097f3912781c509928d7c22d13f6be79c96201d16"), looks := true }, kinds := [], alts := [], laidByText := true, laidKinds := [.widerDeep, .widerDeep, .widerDeep, .data], laidTests := true, laidLooks := .later }
def PlanUsesUptoCardSaid : Prop := Claim7.holds Tryz.pinned (.plain (OpenSpec.upto planUsesSpec)) planUsesUptoCard

/-- THE SECOND FORM's CARD OF 'intervalmonlaw23.PlanDecode'. -/
def planDecodeUptoCard : Claim7 := { stood := { row := planDecodeUptoRow, standIns := [], harness := (true, "76457b3edba3e29e6920b60097f3912781c509928d7c22d13f6be79c96201d16"), looks := true }, kinds := [], alts := [], laidByText := true, laidKinds := [.widerDeep, .widerDeep, .widerDeep, .data], laidTests := true, laidLooks := .later }
def PlanDecodeUptoCardSaid : Prop := Claim7.holds Tryz.pinned (.plain (OpenSpec.upto planDecodeSpec)) planDecodeUptoCard

/-- THE SECOND FORM's CARD OF 'intervalmonlaw23.PlanPrinted'. -/
def planPrintedUptoCard : Claim7 := { stood := { row := planPrintedUptoRow, standIns := [], harness := (true, "76457b3edba3e29e6920b60097f3912781c509928d7c22d13f6be79c96201d16"), looks := true }, kinds := [], alts := [], laidByText := true, laidKinds := [.data, .data, .data, .widerDeep, .widerDeep, .widerDeep, .data], laidTests := true, laidLooks := .later }
def PlanPrintedUptoCardSaid : Prop := Claim7.holds Tryz.pinned (.plain (OpenSpec.upto planPrintedSpec)) planPrintedUptoCard

/-- THE SECOND FORM's CARD OF 'intervalmonlaw08.TypesSelects'. -/
def typesSelectsUptoCard : Claim7 := { stood := { row := typesSelectsUptoRow, standIns := [], harness := (true, "76457b3edba3e29e6920b60097f3912781c509928d7c22d13f6be79c96201d16"), looks := true }, kinds := [], alts := [], laidByText := true, laidKinds := [.data, .data, .data, .widerDeep, .widerDeep, .widerDeep, .data, .widerDeep], laidTests := true, laidLooks := .later }
def TypesSelectsUptoCardSaid : Prop := Claim7.holds Tryz.pinned (.plain (OpenSpec.upto typesSelectsSpec)) typesSelectsUptoCard

/-- THE SECOND FORM's CARD OF 'intervalmonlaw08.TypesPrinted'. -/
def typesPrintedUptoCard : Claim7 := { stood := { row := typesPrintedUptoRow, standIns := [], harness := (true, "76457b3edba3e29e6920b60097f3912781c509928d7c22d13f6be79c96201d16"), looks := true }, kinds := [], alts := [], laidByText := true, laidKinds := [.data, .data, .data, .widerDeep, .widerDeep, .widerDeep, .data, .widerDeep], laidTests := true, laidLooks := .later }
def TypesPrintedUptoCardSaid : Prop := Claim7.holds Tryz.pinned (.plain (OpenSpec.upto typesPrintedSpec)) typesPrintedUptoCard

/-- THE SECOND FORM's CARD OF 'intervalmonlaw23.PlanPostings'. -/
def planPostingsUptoCard : Claim7 := { stood := { row := planPostingsUptoRow, standIns := [], harness := (true, "76457b3edba3e29e6920b60097f3912781c509928d7c22d13f6be79c96201d16"), looks := true }, kinds := [], alts := [], laidByText := true, laidKinds := [.widerDeep, .widerDeep, .widerDeep, .data], laidTests := true, laidLooks := .later }
def PlanPostingsUptoCardSaid : Prop := Claim7.holds Tryz.pinned (.plain (OpenSpec.upto planPostingsSpec)) planPostingsUptoCard
end Rows
end Go.Proofs.YtcifgobinleldaaGreatDoor
