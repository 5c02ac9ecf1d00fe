/-
  DERIVED. GIVEN WITH THE SEED: THE PROGRAM's TIES (one call each: nine closed facts by the kernel) AND EACH ROW's TIE, after the 31st guide's Derived/Test/Toyas{Tie, Card}.lean. No idea stands in it: it is a product of the set-up. Laid BY PROGRAM, IN A SANDBOX (cutbox-door.mjs). By AI agents, Wed Nov 11 2026. No macro, syntax, notation, axiom, sorry.
-/
import Derived.Test.YtkdojgkiclndfaaGreatDoorRows
import Derived.LaidByTextLater
import Derived.SevenTiedAt
import Derived.LaidSub
import Derived.LaidOnce
namespace Go.Proofs.YtkdojgkiclndfaaGreatDoor
open Go
set_option maxRecDepth 100000
theorem seatTie1 : Tryz.prog.laidByTextLater [("math/bits.deBruijn32tab", Rows.laid_math_bits_deBruijn32tab), ("math/bits.deBruijn64tab", Rows.laid_math_bits_deBruijn64tab), ("internal/strconv.uint64pow10", Rows.laid_internal_strconv_uint64pow10), ("intervalmon/parser.groupWords", Rows.laid_intervalmon_parser_groupWords), ("intervalmon/parser.functionWords", Rows.laid_intervalmon_parser_functionWords), ("intervalmon/parser.matchSymbols", Rows.laid_intervalmon_parser_matchSymbols), ("intervalmon/parser.operators", Rows.laid_intervalmon_parser_operators)] [.data, .data, .data, .widerDeep, .widerDeep, .widerDeep, .data] true :=
  Program.laidByTextLater_by_one 44 8 65 (by kernel_rfl) (by kernel_rfl) (by kernel_rfl) (by kernel_rfl) (by kernel_rfl) (by kernel_rfl) (fun _ _ => by kernel_rfl)
theorem noOwnUnsafe : Tryz.pinned.checked.prog.headLifts.contains "ownunsafe" = false := by kernel_rfl
theorem tie : Tryz.prog.laidByTextLater [("intervalmon/parser.groupWords", Rows.laid_intervalmon_parser_groupWords), ("intervalmon/parser.functionWords", Rows.laid_intervalmon_parser_functionWords), ("intervalmon/parser.matchSymbols", Rows.laid_intervalmon_parser_matchSymbols), ("intervalmon/parser.operators", Rows.laid_intervalmon_parser_operators)] [.widerDeep, .widerDeep, .widerDeep, .data] true :=
  Program.laidByTextLater.sub seatTie1 ["intervalmon/parser.groupWords", "intervalmon/parser.functionWords", "intervalmon/parser.matchSymbols", "intervalmon/parser.operators"] (by kernel_rfl) (by kernel_rfl)
theorem planEncode_row_tie : Rows.planEncodeRow.laidByTextAt .later Tryz.pinned [.widerDeep, .widerDeep, .widerDeep, .data] true :=
  OpenClaim.laidByTextAt_later rfl rfl tie noOwnUnsafe
theorem planDecode_row_tie : Rows.planDecodeRow.laidByTextAt .later Tryz.pinned [.widerDeep, .widerDeep, .widerDeep, .data] true :=
  OpenClaim.laidByTextAt_later rfl rfl tie noOwnUnsafe
theorem tie2 : Tryz.prog.laidByTextLater [("math/bits.deBruijn32tab", Rows.laid_math_bits_deBruijn32tab), ("math/bits.deBruijn64tab", Rows.laid_math_bits_deBruijn64tab), ("internal/strconv.uint64pow10", Rows.laid_internal_strconv_uint64pow10), ("intervalmon/parser.groupWords", Rows.laid_intervalmon_parser_groupWords), ("intervalmon/parser.functionWords", Rows.laid_intervalmon_parser_functionWords), ("intervalmon/parser.matchSymbols", Rows.laid_intervalmon_parser_matchSymbols), ("intervalmon/parser.operators", Rows.laid_intervalmon_parser_operators)] [.data, .data, .data, .widerDeep, .widerDeep, .widerDeep, .data] true :=
  Program.laidByTextLater.sub seatTie1 ["math/bits.deBruijn32tab", "math/bits.deBruijn64tab", "internal/strconv.uint64pow10", "intervalmon/parser.groupWords", "intervalmon/parser.functionWords", "intervalmon/parser.matchSymbols", "intervalmon/parser.operators"] (by kernel_rfl) (by kernel_rfl)
theorem planPrinted_row_tie : Rows.planPrintedRow.laidByTextAt .later Tryz.pinned [.data, .data, .data, .widerDeep, .widerDeep, .widerDeep, .data] true :=
  OpenClaim.laidByTextAt_later rfl rfl tie2 noOwnUnsafe
theorem planEncodeUpto_row_tie : Rows.planEncodeUptoRow.laidByTextAt .later Tryz.pinned [.widerDeep, .widerDeep, .widerDeep, .data] true :=
  OpenClaim.laidByTextAt_later rfl rfl tie noOwnUnsafe
theorem planDecodeUpto_row_tie : Rows.planDecodeUptoRow.laidByTextAt .later Tryz.pinned [.widerDeep, .widerDeep, .widerDeep, .data] true :=
  OpenClaim.laidByTextAt_later rfl rfl tie noOwnUnsafe
theorem planPrintedUpto_row_tie : Rows.planPrintedUptoRow.laidByTextAt .later Tryz.pinned [.data, .data, .data, .widerDeep, .widerDeep, .widerDeep, .data] true :=
  OpenClaim.laidByTextAt_later rfl rfl tie2 noOwnUnsafe
end Go.Proofs.YtkdojgkiclndfaaGreatDoor
