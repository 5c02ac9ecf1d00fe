/-
  DERIVED. GIVEN WITH THE SEED: THE CARDS: each row of YtkdojgkiclndfaaGreatDoorRows.lean that lists a variable, with what it lists TIED to the program's text (the seventh form; the later family's looks); each row that meets fmt, with fmt's text TOLD by the authors' own Lean function (tested against real Go, not proved from fmt's source: count such statements apart). THE CARD IS WHAT COUNTS. Prove the row's statement (the work); the ties are given (YtkdojgkiclndfaaGreatDoorTie.lean); close each card by the builder's one call (the guide's Derived/Test/ToyasCard.lean, 'card_holds'). Laid BY PROGRAM, IN A SANDBOX (cutbox-door.mjs). By AI agents, Wed Nov 11 2026. No macro, syntax, notation, axiom, sorry.
-/
import Derived.Test.YtkdojgkiclndfaaGreatDoorRows
import GoSem.ClaimSeven
namespace Go.Proofs.YtkdojgkiclndfaaGreatDoor
namespace Rows

/-- THE TIED CARD OF 'intervalmonlaw23.PlanEncode'. -/
def planEncodeCard : Claim7 := { stood := { row := planEncodeRow, standIns := [], harness := (true, "179be96fcbc39a83b6890cc528d8127281845dd132bc83d6a05f932b68e7d436"), looks := true }, kinds := [], alts := [], laidByText := true, laidKinds := [.widerDeep, .widerDeep, .widerDeep, .data], laidTests := true, laidLooks := .later }
def PlanEncodeCardSaid : Prop := Claim7.holds Tryz.pinned (.plain (OpenSpec.ofChange planEncodeSpec)) planEncodeCard

/-- THE TIED CARD OF 'intervalmonlaw23.PlanDecode'. -/
def planDecodeCard : Claim7 := { stood := { row := planDecodeRow, standIns := [], harness := (true, "179be96fcbc39a83b6890cc528d8127281845dd132bc83d6a05f932b68e7d436"), looks := true }, kinds := [], alts := [], laidByText := true, laidKinds := [.widerDeep, .widerDeep, .widerDeep, .data], laidTests := true, laidLooks := .later }
def PlanDecodeCardSaid : Prop := Claim7.holds Tryz.pinned (.plain (OpenSpec.ofChange planDecodeSpec)) planDecodeCard

/-- THE TIED CARD OF 'intervalmonlaw23.PlanPrinted'. -/
def planPrintedCard : Claim7 := { stood := { row := planPrintedRow, standIns := [], harness := (true, "179be96fcbc39a83b6890cc528d8127281845dd132bc83d6a05f932b68e7d436"), looks := true }, kinds := [], alts := [], laidByText := true, laidKinds := [.data, .data, .data, .widerDeep, .widerDeep, .widerDeep, .data], laidTests := true, laidLooks := .later }
def PlanPrintedCardSaid : Prop := Claim7.holds Tryz.pinned (.plain (OpenSpec.ofChange planPrintedSpec)) planPrintedCard

/-- THE SECOND FORM's CARD OF 'intervalmonlaw23.PlanEncode'. -/
def planEncodeUptoCard : Claim7 := { stood := { row := planEncodeUptoRow, standIns := [], harness := (true, "179be96fcbc39a83b6890cc528d8127281845dd132bc83d6a05f932b68e7d436"), looks := true }, kinds := [], alts := [], laidByText := true, laidKinds := [.widerDeep, .widerDeep, .widerDeep, .data], laidTests := true, laidLooks := .later }
def PlanEncodeUptoCardSaid : Prop := Claim7.holds Tryz.pinned (.plain (OpenSpec.upto planEncodeSpec)) planEncodeUptoCard

/-- THE SECOND FORM's CARD OF 'intervalmonlaw23.PlanDecode'. -/
def planDecodeUptoCard : Claim7 := { stood := { row := planDecodeUptoRow, standIns := [], harness := (true, "179be96fcbc39a83b6890cc528d8127281845dd132bc83d6a05f932b68e7d436"), looks := true }, kinds := [], alts := [], laidByText := true, laidKinds := [.widerDeep, .widerDeep, .widerDeep, .data], laidTests := true, laidLooks := .later }
def PlanDecodeUptoCardSaid : Prop := Claim7.holds Tryz.pinned (.plain (OpenSpec.upto planDecodeSpec)) planDecodeUptoCard

/-- THE SECOND FORM's CARD OF 'intervalmonlaw23.PlanPrinted'. -/
def planPrintedUptoCard : Claim7 := { stood := { row := planPrintedUptoRow, standIns := [], harness := (true, "179be96fcbc39a83b6890cc528d8127281845dd132bc83d6a05f932b68e7d436"), looks := true }, kinds := [], alts := [], laidByText := true, laidKinds := [.data, .data, .data, .widerDeep, .widerDeep, .widerDeep, .data], laidTests := true, laidLooks := .later }
def PlanPrintedUptoCardSaid : Prop := Claim7.holds Tryz.pinned (.plain (OpenSpec.upto planPrintedSpec)) planPrintedUptoCard
end Rows
end Go.Proofs.YtkdojgkiclndfaaGreatDoor
