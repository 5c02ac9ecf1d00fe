/-
  DERIVED. GIVEN WITH THE SEED: THE CARDS: each row of YtipafbppaaflcaaDoorRows.lean that lists a variable, with what it lists TIED to the program's text (the seventh form; the later family's looks); each row that meets fmt, with fmt's text TOLD by the authors' own Lean function (tested against real Go, not proved from fmt's source: count such statements apart). THE CARD IS WHAT COUNTS. Prove the row's statement (the work); the ties are given (YtipafbppaaflcaaDoorTie.lean); close each card by the builder's one call (the guide's Derived/Test/ToyasCard.lean, 'card_holds'). Laid BY PROGRAM, IN A SANDBOX (cutbox-door.mjs). By AI agents, Wed Nov 11 2026. No macro, syntax, notation, axiom, sorry.
-/
import Derived.Test.YtipafbppaaflcaaDoorRows
import GoSem.ClaimSeven
namespace Go.Proofs.YtipafbppaaflcaaDoor
namespace Rows

/-- THE TIED CARD OF 'intervalmonlaw23.PlanCompile'. -/
def planCompileCard : Claim7 := { stood := { row := planCompileRow, standIns := [], harness := (true, "082d433a5a9eee202015b7350e4816f29d94ab2e2d9ff42714a26fde93b1176f"), looks := true }, kinds := [], alts := [], laidByText := true, laidKinds := [.widerDeep, .widerDeep, .widerDeep, .data], laidTests := true, laidLooks := .later }
def PlanCompileCardSaid : Prop := Claim7.holds Tryd.pinned (.plain (OpenSpec.ofChange planCompileSpec)) planCompileCard

/-- THE TIED CARD OF 'intervalmonlaw23.PlanTree'. -/
def planTreeCard : Claim7 := { stood := { row := planTreeRow, standIns := [], harness := (true, "082d433a5a9eee202015b7350e4816f29d94ab2e2d9ff42714a26fde93b1176f"), looks := true }, kinds := [], alts := [], laidByText := true, laidKinds := [.widerDeep, .widerDeep, .widerDeep, .data], laidTests := true, laidLooks := .later }
def PlanTreeCardSaid : Prop := Claim7.holds Tryd.pinned (.plain (OpenSpec.ofChange planTreeSpec)) planTreeCard

/-- THE TIED CARD OF 'intervalmonlaw23.PlanLimits'. -/
def planLimitsCard : Claim7 := { stood := { row := planLimitsRow, standIns := [], harness := (true, "082d433a5a9eee202015b7350e4816f29d94ab2e2d9ff42714a26fde93b1176f"), looks := true }, kinds := [], alts := [], laidByText := true, laidKinds := [.widerDeep, .widerDeep, .widerDeep, .data], laidTests := true, laidLooks := .later }
def PlanLimitsCardSaid : Prop := Claim7.holds Tryd.pinned (.plain (OpenSpec.ofChange planLimitsSpec)) planLimitsCard

/-- THE TIED CARD OF 'intervalmonlaw23.PlanReach'. -/
def planReachCard : Claim7 := { stood := { row := planReachRow, standIns := [], harness := (true, "082d433a5a9eee202015b7350e4816f29d94ab2e2d9ff42714a26fde93b1176f"), looks := true }, kinds := [], alts := [], laidByText := true, laidKinds := [.widerDeep, .widerDeep, .widerDeep, .data], laidTests := true, laidLooks := .later }
def PlanReachCardSaid : Prop := Claim7.holds Tryd.pinned (.plain (OpenSpec.ofChange planReachSpec)) planReachCard

/-- THE TIED CARD OF 'intervalmonlaw23.PlanRound'. -/
def planRoundCard : Claim7 := { stood := { row := planRoundRow, standIns := [], harness := (true, "082d433a5a9eee202015b7350e4816f29d94ab2e2d9ff42714a26fde93b1176f"), looks := true }, kinds := [], alts := [], laidByText := true, laidKinds := [.widerDeep, .widerDeep, .widerDeep, .data], laidTests := true, laidLooks := .later }
def PlanRoundCardSaid : Prop := Claim7.holds Tryd.pinned (.plain (OpenSpec.ofChange planRoundSpec)) planRoundCard

/-- THE SECOND FORM's CARD OF 'intervalmonlaw23.PlanCompile'. -/
def planCompileUptoCard : Claim7 := { stood := { row := planCompileUptoRow, standIns := [], harness := (true, "082d433a5a9eee202015b7350e4816f29d94ab2e2d9ff42714a26fde93b1176f"), looks := true }, kinds := [], alts := [], laidByText := true, laidKinds := [.widerDeep, .widerDeep, .widerDeep, .data], laidTests := true, laidLooks := .later }
def PlanCompileUptoCardSaid : Prop := Claim7.holds Tryd.pinned (.plain (OpenSpec.upto planCompileSpec)) planCompileUptoCard

/-- THE SECOND FORM's CARD OF 'intervalmonlaw23.PlanTree'. -/
def planTreeUptoCard : Claim7 := { stood := { row := planTreeUptoRow, standIns := [], harness := (true, "082d433a5a9eee202015b7350e4816f29d94ab2e2d9ff42714a26fde93b1176f"), looks := true }, kinds := [], alts := [], laidByText := true, laidKinds := [.widerDeep, .widerDeep, .widerDeep, .data], laidTests := true, laidLooks := .later }
def PlanTreeUptoCardSaid : Prop := Claim7.holds Tryd.pinned (.plain (OpenSpec.upto planTreeSpec)) planTreeUptoCard

/-- THE SECOND FORM's CARD OF 'intervalmonlaw23.PlanLimits'. -/
def planLimitsUptoCard : Claim7 := { stood := { row := planLimitsUptoRow, standIns := [], harness := (true, "082d433a5a9eee202015b7350e4816f29d94ab2e2d9ff42714a26fde93b1176f"), looks := true }, kinds := [], alts := [], laidByText := true, laidKinds := [.widerDeep, .widerDeep, .widerDeep, .data], laidTests := true, laidLooks := .later }
def PlanLimitsUptoCardSaid : Prop := Claim7.holds Tryd.pinned (.plain (OpenSpec.upto planLimitsSpec)) planLimitsUptoCard

/-- THE SECOND FORM's CARD OF 'intervalmonlaw23.PlanReach'. -/
def planReachUptoCard : Claim7 := { stood := { row := planReachUptoRow, standIns := [], harness := (true, "082d433a5a9eee202015b7350e4816f29d94ab2e2d9ff42714a26fde93b1176f"), looks := true }, kinds := [], alts := [], laidByText := true, laidKinds := [.widerDeep, .widerDeep, .widerDeep, .data], laidTests := true, laidLooks := .later }
def PlanReachUptoCardSaid : Prop := Claim7.holds Tryd.pinned (.plain (OpenSpec.upto planReachSpec)) planReachUptoCard

/-- THE SECOND FORM's CARD OF 'intervalmonlaw23.PlanRound'. -/
def planRoundUptoCard : Claim7 := { stood := { row := planRoundUptoRow, standIns := [], harness := (true, "082d433a5a9eee202015b7350e4816f29d94ab2e2d9ff42714a26fde93b1176f"), looks := true }, kinds := [], alts := [], laidByText := true, laidKinds := [.widerDeep, .widerDeep, .widerDeep, .data], laidTests := true, laidLooks := .later }
def PlanRoundUptoCardSaid : Prop := Claim7.holds Tryd.pinned (.plain (OpenSpec.upto planRoundSpec)) planRoundUptoCard
end Rows
end Go.Proofs.YtipafbppaaflcaaDoor
