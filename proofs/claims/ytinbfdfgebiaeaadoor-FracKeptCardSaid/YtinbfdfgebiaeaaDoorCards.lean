/-
  DERIVED. GIVEN WITH THE SEED: THE CARDS: each row of YtinbfdfgebiaeaaDoorRows.lean that lists a variable, with what it lists TIED to the program's text (the seventh form; the later family's looks); each row that meets fmt, with fmt's text TOLD by the authors' own Lean function (tested against real Go, not proved from fmt's source: count such statements apart). THE CARD IS WHAT COUNTS. Prove the row's statement (the work); the ties are given (YtinbfdfgebiaeaaDoorTie.lean); close each card by the builder's one call (the guide's Derived/Test/ToyasCard.lean, 'card_holds'). Laid BY PROGRAM, IN A SANDBOX (cutbox-door.mjs). By AI agents, Wed Nov 11 2026. No macro, syntax, notation, axiom, sorry.
-/
import Derived.Test.YtinbfdfgebiaeaaDoorRows
import GoSem.ClaimSeven
namespace Go.Proofs.YtinbfdfgebiaeaaDoor
namespace Rows

/-- THE TIED CARD OF 'intervalmonlaw03.FracKept'. -/
def fracKeptCard : Claim7 := { stood := { row := fracKeptRow, standIns := [], harness := (true, "76f76bc523d53c9065bdccb79a4a9c0adef19927d68c7c27094d9ff71c3176c9"), looks := true }, kinds := [], alts := [], laidByText := true, laidKinds := [.data, .data, .data, .sentinel, .sentinel], laidTests := true, laidLooks := .later }
def FracKeptCardSaid : Prop := Claim7.holds Tryd.pinned (.plain (OpenSpec.ofChange fracKeptSpec)) fracKeptCard

/-- THE SECOND FORM's CARD OF 'intervalmonlaw03.FracKept'. -/
def fracKeptUptoCard : Claim7 := { stood := { row := fracKeptUptoRow, standIns := [], harness := (true, "76f76bc523d53c9065bdccb79a4a9c0adef19927d68c7c27094d9ff71c3176c9"), looks := true }, kinds := [], alts := [], laidByText := true, laidKinds := [.data, .data, .data, .sentinel, .sentinel], laidTests := true, laidLooks := .later }
def FracKeptUptoCardSaid : Prop := Claim7.holds Tryd.pinned (.plain (OpenSpec.upto fracKeptSpec)) fracKeptUptoCard
end Rows
end Go.Proofs.YtinbfdfgebiaeaaDoor
