/-
  DERIVED. GIVEN WITH THE SEED: THE CARDS: each row of YtpgdijbfkahepaaGreatDoorRows.lean that lists a variable, with what it lists TIED to the program's text (the seventh form; the later family's looks); each row that meets fmt, with fmt's text TOLD by the authors' own Lean function (tested against real Go, not proved from fmt's source: count such statements apart). THE CARD IS WHAT COUNTS. Prove the row's statement (the work); the ties are given (YtpgdijbfkahepaaGreatDoorTie.lean); close each card by the builder's one call (the guide's Derived/Test/ToyasCard.lean, 'card_holds'). Laid BY PROGRAM, IN A SANDBOX (cutbox-door.mjs). By AI agents, Wed Nov 11 2026. No macro, syntax, notation, axiom, sorry.
-/
import Derived.Test.YtpgdijbfkahepaaGreatDoorRows
import GoSem.ClaimSeven
namespace Go.Proofs.YtpgdijbfkahepaaGreatDoor
namespace Rows

/-- THE TIED CARD OF 'intervalmonlaw23.PlanUses'. -/
def planUsesCard : Claim7 := { stood := { row := planUsesRow, standIns := [], harness := (true, "a9cc4b6d128fdd65f3b889d0ecd4209bb9a0d7f75081adfce42921df5511815b"), looks := true }, kinds := [], alts := [], laidByText := true, laidKinds := [.widerDeep, .widerDeep, .widerDeep, .data], laidTests := true, laidLooks := .later }
def PlanUsesCardSaid : Prop := Claim7.holds Tryz.pinned (.plain (OpenSpec.ofChange planUsesSpec)) planUsesCard

/-- THE SECOND FORM's CARD OF 'intervalmonlaw23.PlanUses'. -/
def planUsesUptoCard : Claim7 := { stood := { row := planUsesUptoRow, standIns := [], harness := (true, "a9cc4b6d128fdd65f3b889d0ecd4209bb9a0d7f75081adfce42921df5511815b"), looks := true }, kinds := [], alts := [], laidByText := true, laidKinds := [.widerDeep, .widerDeep, .widerDeep, .data], laidTests := true, laidLooks := .later }
def PlanUsesUptoCardSaid : Prop := Claim7.holds Tryz.pinned (.plain (OpenSpec.upto planUsesSpec)) planUsesUptoCard
end Rows
end Go.Proofs.YtpgdijbfkahepaaGreatDoor
