/-
  DERIVED. GIVEN WITH THE SEED: THE PROGRAM's TIES (one call each: nine closed facts by the kernel) AND EACH ROW's TIE, after the 31st guide's Derived/Test/Toyas{Tie, Card}.lean. No idea stands in it: it is a product of the set-up. Laid BY PROGRAM, IN A SANDBOX (cutbox-door.mjs). By AI agents, Wed Nov 11 2026. No macro, syntax, notation, axiom, sorry.
-/
import Derived.Test.YtpgdijbfkahepaaGreatDoorRows
import Derived.LaidByTextLater
import Derived.SevenTiedAt
import Derived.LaidSub
import Derived.LaidOnce
namespace Go.Proofs.YtpgdijbfkahepaaGreatDoor
open Go
set_option maxRecDepth 100000
theorem seatTie1 : Tryz.prog.laidByTextLater [("intervalmon/parser.groupWords", Rows.laid_intervalmon_parser_groupWords), ("intervalmon/parser.functionWords", Rows.laid_intervalmon_parser_functionWords), ("intervalmon/parser.matchSymbols", Rows.laid_intervalmon_parser_matchSymbols), ("intervalmon/parser.operators", Rows.laid_intervalmon_parser_operators)] [.widerDeep, .widerDeep, .widerDeep, .data] true :=
  Program.laidByTextLater_by_one 29 8 9 (by kernel_rfl) (by kernel_rfl) (by kernel_rfl) (by kernel_rfl) (by kernel_rfl) (by kernel_rfl) (fun _ _ => by kernel_rfl)
theorem noOwnUnsafe : Tryz.pinned.checked.prog.headLifts.contains "ownunsafe" = false := by kernel_rfl
theorem tie : Tryz.prog.laidByTextLater [("intervalmon/parser.groupWords", Rows.laid_intervalmon_parser_groupWords), ("intervalmon/parser.functionWords", Rows.laid_intervalmon_parser_functionWords), ("intervalmon/parser.matchSymbols", Rows.laid_intervalmon_parser_matchSymbols), ("intervalmon/parser.operators", Rows.laid_intervalmon_parser_operators)] [.widerDeep, .widerDeep, .widerDeep, .data] true :=
  Program.laidByTextLater.sub seatTie1 ["intervalmon/parser.groupWords", "intervalmon/parser.functionWords", "intervalmon/parser.matchSymbols", "intervalmon/parser.operators"] (by kernel_rfl) (by kernel_rfl)
theorem planUses_row_tie : Rows.planUsesRow.laidByTextAt .later Tryz.pinned [.widerDeep, .widerDeep, .widerDeep, .data] true :=
  OpenClaim.laidByTextAt_later rfl rfl tie noOwnUnsafe
theorem planUsesUpto_row_tie : Rows.planUsesUptoRow.laidByTextAt .later Tryz.pinned [.widerDeep, .widerDeep, .widerDeep, .data] true :=
  OpenClaim.laidByTextAt_later rfl rfl tie noOwnUnsafe
end Go.Proofs.YtpgdijbfkahepaaGreatDoor
