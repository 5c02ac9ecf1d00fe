/-
  NARROWER THAN 'FOR EVERY INPUT', by the rows' own cells (each row's printed sentence says how): ParserParses: laid · ParserRaw: laid · ParserLimits: laid · ParserValid: loops, laid · ParserPrints: laid · ParserSpaced: laid · ParserEqual: loops, laid.
  DERIVED. THE GIVEN ROWS OF THIS SEAT. 7 by the template 'for every input the law returns true; each argument reads behind the call as it read before'; 0 by the template 'total and deterministic' (their statements: YthoibeajhdhdhaaGreatDoorTotals.lean).
  GIVEN WITH THE SEED: the statements are not yours to turn. If you find one false, say at which input.
  Laid BY PROGRAM, IN A SANDBOX (cutbox-rows.mjs): the forced cells as the released guide's own fill.sh prints them over the translation 3a92c509ec65dac1… (all of the seat's roots in one cut). By AI agents, Wed Nov 11 2026. No macro, syntax, notation, axiom, sorry.
-/
import Derived.Test.YthoibeajhdhdhaaGreatDoorChecked
import GoSem.Claim
import GoSem.ClaimJoined
import GoSem.ClaimMapViews
import Derived.JoinedTies
import Derived.KernelRfl
namespace Go.Proofs.YthoibeajhdhdhaaGreatDoor
/- THE CELL 'sum', in the pinned program and in every row, IS THE sha256 OF THE DUMP (.gsa) THAT YthoibeajhdhdhaaGreatDoorProg.lean LOADS. Nothing in Lean hashes anything: it is a label: what it is worth is what the hold of that sum in a sandbox is worth. -/
noncomputable def Tryz.pinned : Pinned := { name := "ythoibeajhdhdhaagreatdoor", sum := "3a92c509ec65dac13aabd34de6841148ac756581c0dac9e2ed529da55d4aceb1", checked := Tryz.checked }
namespace Rows
def none {H : Type} : Left H := { results := [], args := [] }

/- WHAT THE LISTED PACKAGE-LEVEL VARIABLES READ AS WHEN THE CALL BEGINS. Each datum BY PROGRAM (the guide's laid-datum.mjs) off the statement by which the dump's own 'gosem.cut.vars' lays the variable. In a bare row this is a premise. The card (YthoibeajhdhdhaaGreatDoorCards.lean) ties it to the program's text. -/
def laid_math_bits_deBruijn32tab {H : Type} : DataW H := .agg [.lit (.int .u8 0), .lit (.int .u8 1), .lit (.int .u8 28), .lit (.int .u8 2), .lit (.int .u8 29), .lit (.int .u8 14), .lit (.int .u8 24), .lit (.int .u8 3), .lit (.int .u8 30), .lit (.int .u8 22), .lit (.int .u8 20), .lit (.int .u8 15), .lit (.int .u8 25), .lit (.int .u8 17), .lit (.int .u8 4), .lit (.int .u8 8), .lit (.int .u8 31), .lit (.int .u8 27), .lit (.int .u8 13), .lit (.int .u8 23), .lit (.int .u8 21), .lit (.int .u8 19), .lit (.int .u8 16), .lit (.int .u8 7), .lit (.int .u8 26), .lit (.int .u8 12), .lit (.int .u8 18), .lit (.int .u8 6), .lit (.int .u8 11), .lit (.int .u8 5), .lit (.int .u8 10), .lit (.int .u8 9)]
def laid_math_bits_deBruijn64tab {H : Type} : DataW H := .agg [.lit (.int .u8 0), .lit (.int .u8 1), .lit (.int .u8 56), .lit (.int .u8 2), .lit (.int .u8 57), .lit (.int .u8 49), .lit (.int .u8 28), .lit (.int .u8 3), .lit (.int .u8 61), .lit (.int .u8 58), .lit (.int .u8 42), .lit (.int .u8 50), .lit (.int .u8 38), .lit (.int .u8 29), .lit (.int .u8 17), .lit (.int .u8 4), .lit (.int .u8 62), .lit (.int .u8 47), .lit (.int .u8 59), .lit (.int .u8 36), .lit (.int .u8 45), .lit (.int .u8 43), .lit (.int .u8 51), .lit (.int .u8 22), .lit (.int .u8 53), .lit (.int .u8 39), .lit (.int .u8 33), .lit (.int .u8 30), .lit (.int .u8 24), .lit (.int .u8 18), .lit (.int .u8 12), .lit (.int .u8 5), .lit (.int .u8 63), .lit (.int .u8 55), .lit (.int .u8 48), .lit (.int .u8 27), .lit (.int .u8 60), .lit (.int .u8 41), .lit (.int .u8 37), .lit (.int .u8 16), .lit (.int .u8 46), .lit (.int .u8 35), .lit (.int .u8 44), .lit (.int .u8 21), .lit (.int .u8 52), .lit (.int .u8 32), .lit (.int .u8 23), .lit (.int .u8 11), .lit (.int .u8 54), .lit (.int .u8 26), .lit (.int .u8 40), .lit (.int .u8 15), .lit (.int .u8 34), .lit (.int .u8 20), .lit (.int .u8 31), .lit (.int .u8 10), .lit (.int .u8 25), .lit (.int .u8 14), .lit (.int .u8 19), .lit (.int .u8 9), .lit (.int .u8 13), .lit (.int .u8 8), .lit (.int .u8 7), .lit (.int .u8 6)]
def laid_internal_strconv_uint64pow10 {H : Type} : DataW H := .agg [.lit (.int .u64 1), .lit (.int .u64 10), .lit (.int .u64 100), .lit (.int .u64 1000), .lit (.int .u64 10000), .lit (.int .u64 100000), .lit (.int .u64 1000000), .lit (.int .u64 10000000), .lit (.int .u64 100000000), .lit (.int .u64 1000000000), .lit (.int .u64 10000000000), .lit (.int .u64 100000000000), .lit (.int .u64 1000000000000), .lit (.int .u64 10000000000000), .lit (.int .u64 100000000000000), .lit (.int .u64 1000000000000000), .lit (.int .u64 10000000000000000), .lit (.int .u64 100000000000000000), .lit (.int .u64 1000000000000000000), .lit (.int .u64 10000000000000000000)]
def laid_intervalmon_parser_groupWords {H : Type} : DataW H := .agg [.lit (.string [115, 117, 109]), .lit (.string [109, 105, 110]), .lit (.string [109, 97, 120]), .lit (.string [99, 111, 117, 110, 116]), .lit (.string [107, 116, 104])]
def laid_intervalmon_parser_functionWords {H : Type} : DataW H := .agg [.lit (.string [108, 97, 115, 116]), .lit (.string [108, 101, 97, 115, 116]), .lit (.string [103, 114, 101, 97, 116, 101, 115, 116]), .lit (.string [116, 111, 116, 97, 108]), .lit (.string [109, 101, 97, 110]), .lit (.string [105, 110, 99, 114, 101, 97, 115, 101]), .lit (.string [114, 97, 116, 101]), .lit (.string [107, 116, 104])]
def laid_intervalmon_parser_matchSymbols {H : Type} : DataW H := .agg [.lit (.string [61]), .lit (.string [33, 61]), .lit (.string [94, 61])]
def laid_intervalmon_parser_operators {H : Type} : DataW H := .agg [.lit (.string [43]), .lit (.string [45]), .lit (.string [42]), .lit (.string [47])]

/-- 'intervalmonlaw07.ParserParses': WHATEVER THE INPUT: true; the input reads as it did. -/
def parserParsesSpec : ChangeSpec := { name := "parserParses", fn := fun _ => fun
  | [d1, d2, d3, d4, d5] => { results := [.lit (.bool true)], args := [d1, d2, d3, d4, d5] }
  | _ => none }
def parserParsesRow : OpenClaim := { program := "ythoibeajhdhdhaagreatdoor", sum := "3a92c509ec65dac13aabd34de6841148ac756581c0dac9e2ed529da55d4aceb1", func := "intervalmon/intervalmonlaw07.ParserParses", spec := "parserParses", inPlace := ["internal/bytealg.IndexByteString", "internal/abi.NoEscape", "internal/bytealg.MakeNoZero"], unfollowed := true, recurses := true, named := ["intervalmon/parser.groupWords", "intervalmon/parser.matchSymbols", "intervalmon/parser.functionWords", "intervalmon/parser.operators", "internal/strconv.uint64pow10", "math/bits.deBruijn32tab", "math/bits.deBruijn64tab"], apart := false, laid := [("math/bits.deBruijn32tab", laid_math_bits_deBruijn32tab), ("math/bits.deBruijn64tab", laid_math_bits_deBruijn64tab), ("internal/strconv.uint64pow10", laid_internal_strconv_uint64pow10), ("intervalmon/parser.groupWords", laid_intervalmon_parser_groupWords), ("intervalmon/parser.functionWords", laid_intervalmon_parser_functionWords), ("intervalmon/parser.matchSymbols", laid_intervalmon_parser_matchSymbols), ("intervalmon/parser.operators", laid_intervalmon_parser_operators)] }
def ParserParsesSaid : Prop := parserParsesRow.holds Tryz.pinned (OpenSpec.ofChange parserParsesSpec)

/-- ITS FALSE NEIGHBOUR: 'it returns false'. Refute it at one input. -/
def parserParsesWrong : ChangeSpec := { name := "parserParses", fn := fun _ => fun
  | [d1, d2, d3, d4, d5] => { results := [.lit (.bool false)], args := [d1, d2, d3, d4, d5] }
  | _ => none }
def ParserParsesWrongFalsely : Prop := parserParsesRow.holds Tryz.pinned (OpenSpec.ofChange parserParsesWrong)

/-- 'intervalmonlaw07.ParserRaw': WHATEVER THE INPUT: true; the input reads as it did. -/
def parserRawSpec : ChangeSpec := { name := "parserRaw", fn := fun _ => fun
  | [d] => { results := [.lit (.bool true)], args := [d] }
  | _ => none }
def parserRawRow : OpenClaim := { program := "ythoibeajhdhdhaagreatdoor", sum := "3a92c509ec65dac13aabd34de6841148ac756581c0dac9e2ed529da55d4aceb1", func := "intervalmon/intervalmonlaw07.ParserRaw", spec := "parserRaw", inPlace := ["internal/bytealg.IndexByteString", "internal/abi.NoEscape", "internal/bytealg.MakeNoZero"], unfollowed := true, recurses := true, named := ["intervalmon/parser.groupWords", "intervalmon/parser.matchSymbols", "intervalmon/parser.functionWords", "intervalmon/parser.operators", "internal/strconv.uint64pow10", "math/bits.deBruijn32tab", "math/bits.deBruijn64tab"], apart := false, laid := [("math/bits.deBruijn32tab", laid_math_bits_deBruijn32tab), ("math/bits.deBruijn64tab", laid_math_bits_deBruijn64tab), ("internal/strconv.uint64pow10", laid_internal_strconv_uint64pow10), ("intervalmon/parser.groupWords", laid_intervalmon_parser_groupWords), ("intervalmon/parser.functionWords", laid_intervalmon_parser_functionWords), ("intervalmon/parser.matchSymbols", laid_intervalmon_parser_matchSymbols), ("intervalmon/parser.operators", laid_intervalmon_parser_operators)] }
def ParserRawSaid : Prop := parserRawRow.holds Tryz.pinned (OpenSpec.ofChange parserRawSpec)

/-- ITS FALSE NEIGHBOUR: 'it returns false'. Refute it at one input. -/
def parserRawWrong : ChangeSpec := { name := "parserRaw", fn := fun _ => fun
  | [d] => { results := [.lit (.bool false)], args := [d] }
  | _ => none }
def ParserRawWrongFalsely : Prop := parserRawRow.holds Tryz.pinned (OpenSpec.ofChange parserRawWrong)

/-- 'intervalmonlaw07.ParserLimits': WHATEVER THE INPUT: true; the input reads as it did. -/
def parserLimitsSpec : ChangeSpec := { name := "parserLimits", fn := fun _ => fun
  | [d1, d2, d3] => { results := [.lit (.bool true)], args := [d1, d2, d3] }
  | _ => none }
def parserLimitsRow : OpenClaim := { program := "ythoibeajhdhdhaagreatdoor", sum := "3a92c509ec65dac13aabd34de6841148ac756581c0dac9e2ed529da55d4aceb1", func := "intervalmon/intervalmonlaw07.ParserLimits", spec := "parserLimits", inPlace := ["internal/bytealg.IndexByteString", "internal/abi.NoEscape", "internal/bytealg.MakeNoZero"], unfollowed := true, recurses := true, named := ["intervalmon/parser.groupWords", "intervalmon/parser.matchSymbols", "intervalmon/parser.functionWords", "intervalmon/parser.operators", "internal/strconv.uint64pow10", "math/bits.deBruijn32tab", "math/bits.deBruijn64tab"], apart := false, laid := [("math/bits.deBruijn32tab", laid_math_bits_deBruijn32tab), ("math/bits.deBruijn64tab", laid_math_bits_deBruijn64tab), ("internal/strconv.uint64pow10", laid_internal_strconv_uint64pow10), ("intervalmon/parser.groupWords", laid_intervalmon_parser_groupWords), ("intervalmon/parser.functionWords", laid_intervalmon_parser_functionWords), ("intervalmon/parser.matchSymbols", laid_intervalmon_parser_matchSymbols), ("intervalmon/parser.operators", laid_intervalmon_parser_operators)] }
def ParserLimitsSaid : Prop := parserLimitsRow.holds Tryz.pinned (OpenSpec.ofChange parserLimitsSpec)

/-- ITS FALSE NEIGHBOUR: 'it returns false'. Refute it at one input. -/
def parserLimitsWrong : ChangeSpec := { name := "parserLimits", fn := fun _ => fun
  | [d1, d2, d3] => { results := [.lit (.bool false)], args := [d1, d2, d3] }
  | _ => none }
def ParserLimitsWrongFalsely : Prop := parserLimitsRow.holds Tryz.pinned (OpenSpec.ofChange parserLimitsWrong)

/-- 'intervalmonlaw07.ParserValid': WHATEVER THE INPUT: true; the input reads as it did. -/
def parserValidSpec : ChangeSpec := { name := "parserValid", fn := fun _ => fun
  | [d1, d2, d3, d4, d5] => { results := [.lit (.bool true)], args := [d1, d2, d3, d4, d5] }
  | _ => none }
def parserValidRow : OpenClaim := { program := "ythoibeajhdhdhaagreatdoor", sum := "3a92c509ec65dac13aabd34de6841148ac756581c0dac9e2ed529da55d4aceb1", func := "intervalmon/intervalmonlaw07.ParserValid", spec := "parserValid", inPlace := ["internal/bytealg.IndexByteString", "internal/abi.NoEscape", "internal/bytealg.MakeNoZero"], unfollowed := true, recurses := true, named := ["intervalmon/parser.groupWords", "intervalmon/parser.matchSymbols", "intervalmon/parser.functionWords", "intervalmon/parser.operators", "internal/strconv.uint64pow10", "math/bits.deBruijn32tab", "math/bits.deBruijn64tab"], loops := true, apart := false, laid := [("math/bits.deBruijn32tab", laid_math_bits_deBruijn32tab), ("math/bits.deBruijn64tab", laid_math_bits_deBruijn64tab), ("internal/strconv.uint64pow10", laid_internal_strconv_uint64pow10), ("intervalmon/parser.groupWords", laid_intervalmon_parser_groupWords), ("intervalmon/parser.functionWords", laid_intervalmon_parser_functionWords), ("intervalmon/parser.matchSymbols", laid_intervalmon_parser_matchSymbols), ("intervalmon/parser.operators", laid_intervalmon_parser_operators)] }
def ParserValidSaid : Prop := parserValidRow.holds Tryz.pinned (OpenSpec.ofChange parserValidSpec)

/-- ITS FALSE NEIGHBOUR: 'it returns false'. Refute it at one input. -/
def parserValidWrong : ChangeSpec := { name := "parserValid", fn := fun _ => fun
  | [d1, d2, d3, d4, d5] => { results := [.lit (.bool false)], args := [d1, d2, d3, d4, d5] }
  | _ => none }
def ParserValidWrongFalsely : Prop := parserValidRow.holds Tryz.pinned (OpenSpec.ofChange parserValidWrong)

/-- 'intervalmonlaw07.ParserPrints': WHATEVER THE INPUT: true; the input reads as it did. -/
def parserPrintsSpec : ChangeSpec := { name := "parserPrints", fn := fun _ => fun
  | [d1, d2, d3, d4, d5, d6] => { results := [.lit (.bool true)], args := [d1, d2, d3, d4, d5, d6] }
  | _ => none }
def parserPrintsRow : OpenClaim := { program := "ythoibeajhdhdhaagreatdoor", sum := "3a92c509ec65dac13aabd34de6841148ac756581c0dac9e2ed529da55d4aceb1", func := "intervalmon/intervalmonlaw07.ParserPrints", spec := "parserPrints", inPlace := ["internal/abi.NoEscape", "internal/bytealg.MakeNoZero", "internal/bytealg.IndexByteString"], unfollowed := true, recurses := true, named := ["intervalmon/parser.groupWords", "intervalmon/parser.operators", "internal/strconv.uint64pow10", "math/bits.deBruijn32tab", "math/bits.deBruijn64tab", "intervalmon/parser.matchSymbols", "intervalmon/parser.functionWords"], apart := false, laid := [("math/bits.deBruijn32tab", laid_math_bits_deBruijn32tab), ("math/bits.deBruijn64tab", laid_math_bits_deBruijn64tab), ("internal/strconv.uint64pow10", laid_internal_strconv_uint64pow10), ("intervalmon/parser.groupWords", laid_intervalmon_parser_groupWords), ("intervalmon/parser.functionWords", laid_intervalmon_parser_functionWords), ("intervalmon/parser.matchSymbols", laid_intervalmon_parser_matchSymbols), ("intervalmon/parser.operators", laid_intervalmon_parser_operators)] }
def ParserPrintsSaid : Prop := parserPrintsRow.holds Tryz.pinned (OpenSpec.ofChange parserPrintsSpec)

/-- ITS FALSE NEIGHBOUR: 'it returns false'. Refute it at one input. -/
def parserPrintsWrong : ChangeSpec := { name := "parserPrints", fn := fun _ => fun
  | [d1, d2, d3, d4, d5, d6] => { results := [.lit (.bool false)], args := [d1, d2, d3, d4, d5, d6] }
  | _ => none }
def ParserPrintsWrongFalsely : Prop := parserPrintsRow.holds Tryz.pinned (OpenSpec.ofChange parserPrintsWrong)

/-- 'intervalmonlaw07.ParserSpaced': WHATEVER THE INPUT: true; the input reads as it did. -/
def parserSpacedSpec : ChangeSpec := { name := "parserSpaced", fn := fun _ => fun
  | [d1, d2] => { results := [.lit (.bool true)], args := [d1, d2] }
  | _ => none }
def parserSpacedRow : OpenClaim := { program := "ythoibeajhdhdhaagreatdoor", sum := "3a92c509ec65dac13aabd34de6841148ac756581c0dac9e2ed529da55d4aceb1", func := "intervalmon/intervalmonlaw07.ParserSpaced", spec := "parserSpaced", inPlace := ["internal/abi.NoEscape", "internal/bytealg.MakeNoZero", "internal/bytealg.IndexByteString"], unfollowed := true, recurses := true, named := ["intervalmon/parser.groupWords", "intervalmon/parser.operators", "internal/strconv.uint64pow10", "math/bits.deBruijn32tab", "math/bits.deBruijn64tab", "intervalmon/parser.matchSymbols", "intervalmon/parser.functionWords"], apart := false, laid := [("math/bits.deBruijn32tab", laid_math_bits_deBruijn32tab), ("math/bits.deBruijn64tab", laid_math_bits_deBruijn64tab), ("internal/strconv.uint64pow10", laid_internal_strconv_uint64pow10), ("intervalmon/parser.groupWords", laid_intervalmon_parser_groupWords), ("intervalmon/parser.functionWords", laid_intervalmon_parser_functionWords), ("intervalmon/parser.matchSymbols", laid_intervalmon_parser_matchSymbols), ("intervalmon/parser.operators", laid_intervalmon_parser_operators)] }
def ParserSpacedSaid : Prop := parserSpacedRow.holds Tryz.pinned (OpenSpec.ofChange parserSpacedSpec)

/-- ITS FALSE NEIGHBOUR: 'it returns false'. Refute it at one input. -/
def parserSpacedWrong : ChangeSpec := { name := "parserSpaced", fn := fun _ => fun
  | [d1, d2] => { results := [.lit (.bool false)], args := [d1, d2] }
  | _ => none }
def ParserSpacedWrongFalsely : Prop := parserSpacedRow.holds Tryz.pinned (OpenSpec.ofChange parserSpacedWrong)

/-- 'intervalmonlaw07.ParserEqual': WHATEVER THE INPUT: true; the input reads as it did. -/
def parserEqualSpec : ChangeSpec := { name := "parserEqual", fn := fun _ => fun
  | [d1, d2, d3, d4, d5, d6] => { results := [.lit (.bool true)], args := [d1, d2, d3, d4, d5, d6] }
  | _ => none }
def parserEqualRow : OpenClaim := { program := "ythoibeajhdhdhaagreatdoor", sum := "3a92c509ec65dac13aabd34de6841148ac756581c0dac9e2ed529da55d4aceb1", func := "intervalmon/intervalmonlaw07.ParserEqual", spec := "parserEqual", inPlace := ["internal/bytealg.IndexByteString", "internal/abi.NoEscape", "internal/bytealg.MakeNoZero"], unfollowed := true, recurses := true, named := ["intervalmon/parser.groupWords", "intervalmon/parser.matchSymbols", "intervalmon/parser.functionWords", "intervalmon/parser.operators", "internal/strconv.uint64pow10", "math/bits.deBruijn32tab", "math/bits.deBruijn64tab"], loops := true, apart := false, laid := [("math/bits.deBruijn32tab", laid_math_bits_deBruijn32tab), ("math/bits.deBruijn64tab", laid_math_bits_deBruijn64tab), ("internal/strconv.uint64pow10", laid_internal_strconv_uint64pow10), ("intervalmon/parser.groupWords", laid_intervalmon_parser_groupWords), ("intervalmon/parser.functionWords", laid_intervalmon_parser_functionWords), ("intervalmon/parser.matchSymbols", laid_intervalmon_parser_matchSymbols), ("intervalmon/parser.operators", laid_intervalmon_parser_operators)] }
def ParserEqualSaid : Prop := parserEqualRow.holds Tryz.pinned (OpenSpec.ofChange parserEqualSpec)

/-- ITS FALSE NEIGHBOUR: 'it returns false'. Refute it at one input. -/
def parserEqualWrong : ChangeSpec := { name := "parserEqual", fn := fun _ => fun
  | [d1, d2, d3, d4, d5, d6] => { results := [.lit (.bool false)], args := [d1, d2, d3, d4, d5, d6] }
  | _ => none }
def ParserEqualWrongFalsely : Prop := parserEqualRow.holds Tryz.pinned (OpenSpec.ofChange parserEqualWrong)

/- THE SECOND FORM. 'bulk': how many values and letters a reading holds, each counted each time it is reached (what is shared counts as often as it is met; a slice's spare places count too). A statement '..UptoSaid' is the law's where the arguments, and the package variables that the reading takes, are together of bulk at most 1048576: NARROWER than '..Said'. Prove '..Said' where nothing that the law and all that it calls make is longer than what came in: it says more and counts as full. Else prove '..UptoSaid'. A law counts once. -/
mutual
def uptoBulk {H : Type} : DataW H → Nat
  | .lit (.string bytes) => bytes.length + 1
  | .lit _ => 1
  | .nil => 1
  | .ptr d => uptoBulk d + 1
  | .slice elems spare => uptoBulkAll elems + uptoBulkAll spare + 1
  | .agg parts => uptoBulkAll parts + 1
  | .iface _ d => uptoBulk d + 1
  | .map entries => uptoBulkEntries entries + 1
  | .held _ => 1
def uptoBulkAll {H : Type} : List (DataW H) → Nat
  | [] => 0
  | d :: r => uptoBulk d + uptoBulkAll r
def uptoBulkEntries {H : Type} : List (Lit × DataW H) → Nat
  | [] => 0
  | x :: r => uptoBulkEntry x + uptoBulkEntries r
def uptoBulkEntry {H : Type} : Lit × DataW H → Nat
  | (.string bytes, d) => bytes.length + uptoBulk d + 1
  | (_, d) => uptoBulk d + 1
 end
def uptoSmall : (H : Type) → List (DataW H) → Bool := fun _ ds => decide (uptoBulkAll ds ≤ 1048576)
def OpenSpec.upto (s : _root_.Go.ChangeSpec) : _root_.Go.OpenSpec := { _root_.Go.OpenSpec.ofChange s with cond := some uptoSmall }

/-- 'intervalmonlaw07.ParserParses', WHERE WHAT IT READS IS OF BULK AT MOST 1048576: true; the input reads as it did. -/
def parserParsesUptoRow : OpenClaim := { program := "ythoibeajhdhdhaagreatdoor", sum := "3a92c509ec65dac13aabd34de6841148ac756581c0dac9e2ed529da55d4aceb1", func := "intervalmon/intervalmonlaw07.ParserParses", spec := "parserParses", inPlace := ["internal/bytealg.IndexByteString", "internal/abi.NoEscape", "internal/bytealg.MakeNoZero"], unfollowed := true, recurses := true, named := ["intervalmon/parser.groupWords", "intervalmon/parser.matchSymbols", "intervalmon/parser.functionWords", "intervalmon/parser.operators", "internal/strconv.uint64pow10", "math/bits.deBruijn32tab", "math/bits.deBruijn64tab"], apart := false, laid := [("math/bits.deBruijn32tab", laid_math_bits_deBruijn32tab), ("math/bits.deBruijn64tab", laid_math_bits_deBruijn64tab), ("internal/strconv.uint64pow10", laid_internal_strconv_uint64pow10), ("intervalmon/parser.groupWords", laid_intervalmon_parser_groupWords), ("intervalmon/parser.functionWords", laid_intervalmon_parser_functionWords), ("intervalmon/parser.matchSymbols", laid_intervalmon_parser_matchSymbols), ("intervalmon/parser.operators", laid_intervalmon_parser_operators)], narrowed := true }
def ParserParsesUptoSaid : Prop := parserParsesUptoRow.holds Tryz.pinned (OpenSpec.upto parserParsesSpec)

/-- 'intervalmonlaw07.ParserRaw', WHERE WHAT IT READS IS OF BULK AT MOST 1048576: true; the input reads as it did. -/
def parserRawUptoRow : OpenClaim := { program := "ythoibeajhdhdhaagreatdoor", sum := "3a92c509ec65dac13aabd34de6841148ac756581c0dac9e2ed529da55d4aceb1", func := "intervalmon/intervalmonlaw07.ParserRaw", spec := "parserRaw", inPlace := ["internal/bytealg.IndexByteString", "internal/abi.NoEscape", "internal/bytealg.MakeNoZero"], unfollowed := true, recurses := true, named := ["intervalmon/parser.groupWords", "intervalmon/parser.matchSymbols", "intervalmon/parser.functionWords", "intervalmon/parser.operators", "internal/strconv.uint64pow10", "math/bits.deBruijn32tab", "math/bits.deBruijn64tab"], apart := false, laid := [("math/bits.deBruijn32tab", laid_math_bits_deBruijn32tab), ("math/bits.deBruijn64tab", laid_math_bits_deBruijn64tab), ("internal/strconv.uint64pow10", laid_internal_strconv_uint64pow10), ("intervalmon/parser.groupWords", laid_intervalmon_parser_groupWords), ("intervalmon/parser.functionWords", laid_intervalmon_parser_functionWords), ("intervalmon/parser.matchSymbols", laid_intervalmon_parser_matchSymbols), ("intervalmon/parser.operators", laid_intervalmon_parser_operators)], narrowed := true }
def ParserRawUptoSaid : Prop := parserRawUptoRow.holds Tryz.pinned (OpenSpec.upto parserRawSpec)

/-- 'intervalmonlaw07.ParserLimits', WHERE WHAT IT READS IS OF BULK AT MOST 1048576: true; the input reads as it did. -/
def parserLimitsUptoRow : OpenClaim := { program := "ythoibeajhdhdhaagreatdoor", sum := "3a92c509ec65dac13aabd34de6841148ac756581c0dac9e2ed529da55d4aceb1", func := "intervalmon/intervalmonlaw07.ParserLimits", spec := "parserLimits", inPlace := ["internal/bytealg.IndexByteString", "internal/abi.NoEscape", "internal/bytealg.MakeNoZero"], unfollowed := true, recurses := true, named := ["intervalmon/parser.groupWords", "intervalmon/parser.matchSymbols", "intervalmon/parser.functionWords", "intervalmon/parser.operators", "internal/strconv.uint64pow10", "math/bits.deBruijn32tab", "math/bits.deBruijn64tab"], apart := false, laid := [("math/bits.deBruijn32tab", laid_math_bits_deBruijn32tab), ("math/bits.deBruijn64tab", laid_math_bits_deBruijn64tab), ("internal/strconv.uint64pow10", laid_internal_strconv_uint64pow10), ("intervalmon/parser.groupWords", laid_intervalmon_parser_groupWords), ("intervalmon/parser.functionWords", laid_intervalmon_parser_functionWords), ("intervalmon/parser.matchSymbols", laid_intervalmon_parser_matchSymbols), ("intervalmon/parser.operators", laid_intervalmon_parser_operators)], narrowed := true }
def ParserLimitsUptoSaid : Prop := parserLimitsUptoRow.holds Tryz.pinned (OpenSpec.upto parserLimitsSpec)

/-- 'intervalmonlaw07.ParserValid', WHERE WHAT IT READS IS OF BULK AT MOST 1048576: true; the input reads as it did. -/
def parserValidUptoRow : OpenClaim := { program := "ythoibeajhdhdhaagreatdoor", sum := "3a92c509ec65dac13aabd34de6841148ac756581c0dac9e2ed529da55d4aceb1", func := "intervalmon/intervalmonlaw07.ParserValid", spec := "parserValid", inPlace := ["internal/bytealg.IndexByteString", "internal/abi.NoEscape", "internal/bytealg.MakeNoZero"], unfollowed := true, recurses := true, named := ["intervalmon/parser.groupWords", "intervalmon/parser.matchSymbols", "intervalmon/parser.functionWords", "intervalmon/parser.operators", "internal/strconv.uint64pow10", "math/bits.deBruijn32tab", "math/bits.deBruijn64tab"], loops := true, apart := false, laid := [("math/bits.deBruijn32tab", laid_math_bits_deBruijn32tab), ("math/bits.deBruijn64tab", laid_math_bits_deBruijn64tab), ("internal/strconv.uint64pow10", laid_internal_strconv_uint64pow10), ("intervalmon/parser.groupWords", laid_intervalmon_parser_groupWords), ("intervalmon/parser.functionWords", laid_intervalmon_parser_functionWords), ("intervalmon/parser.matchSymbols", laid_intervalmon_parser_matchSymbols), ("intervalmon/parser.operators", laid_intervalmon_parser_operators)], narrowed := true }
def ParserValidUptoSaid : Prop := parserValidUptoRow.holds Tryz.pinned (OpenSpec.upto parserValidSpec)

/-- 'intervalmonlaw07.ParserPrints', WHERE WHAT IT READS IS OF BULK AT MOST 1048576: true; the input reads as it did. -/
def parserPrintsUptoRow : OpenClaim := { program := "ythoibeajhdhdhaagreatdoor", sum := "3a92c509ec65dac13aabd34de6841148ac756581c0dac9e2ed529da55d4aceb1", func := "intervalmon/intervalmonlaw07.ParserPrints", spec := "parserPrints", inPlace := ["internal/abi.NoEscape", "internal/bytealg.MakeNoZero", "internal/bytealg.IndexByteString"], unfollowed := true, recurses := true, named := ["intervalmon/parser.groupWords", "intervalmon/parser.operators", "internal/strconv.uint64pow10", "math/bits.deBruijn32tab", "math/bits.deBruijn64tab", "intervalmon/parser.matchSymbols", "intervalmon/parser.functionWords"], apart := false, laid := [("math/bits.deBruijn32tab", laid_math_bits_deBruijn32tab), ("math/bits.deBruijn64tab", laid_math_bits_deBruijn64tab), ("internal/strconv.uint64pow10", laid_internal_strconv_uint64pow10), ("intervalmon/parser.groupWords", laid_intervalmon_parser_groupWords), ("intervalmon/parser.functionWords", laid_intervalmon_parser_functionWords), ("intervalmon/parser.matchSymbols", laid_intervalmon_parser_matchSymbols), ("intervalmon/parser.operators", laid_intervalmon_parser_operators)], narrowed := true }
def ParserPrintsUptoSaid : Prop := parserPrintsUptoRow.holds Tryz.pinned (OpenSpec.upto parserPrintsSpec)

/-- 'intervalmonlaw07.ParserSpaced', WHERE WHAT IT READS IS OF BULK AT MOST 1048576: true; the input reads as it did. -/
def parserSpacedUptoRow : OpenClaim := { program := "ythoibeajhdhdhaagreatdoor", sum := "3a92c509ec65dac13aabd34de6841148ac756581c0dac9e2ed529da55d4aceb1", func := "intervalmon/intervalmonlaw07.ParserSpaced", spec := "parserSpaced", inPlace := ["internal/abi.NoEscape", "internal/bytealg.MakeNoZero", "internal/bytealg.IndexByteString"], unfollowed := true, recurses := true, named := ["intervalmon/parser.groupWords", "intervalmon/parser.operators", "internal/strconv.uint64pow10", "math/bits.deBruijn32tab", "math/bits.deBruijn64tab", "intervalmon/parser.matchSymbols", "intervalmon/parser.functionWords"], apart := false, laid := [("math/bits.deBruijn32tab", laid_math_bits_deBruijn32tab), ("math/bits.deBruijn64tab", laid_math_bits_deBruijn64tab), ("internal/strconv.uint64pow10", laid_internal_strconv_uint64pow10), ("intervalmon/parser.groupWords", laid_intervalmon_parser_groupWords), ("intervalmon/parser.functionWords", laid_intervalmon_parser_functionWords), ("intervalmon/parser.matchSymbols", laid_intervalmon_parser_matchSymbols), ("intervalmon/parser.operators", laid_intervalmon_parser_operators)], narrowed := true }
def ParserSpacedUptoSaid : Prop := parserSpacedUptoRow.holds Tryz.pinned (OpenSpec.upto parserSpacedSpec)

/-- 'intervalmonlaw07.ParserEqual', WHERE WHAT IT READS IS OF BULK AT MOST 1048576: true; the input reads as it did. -/
def parserEqualUptoRow : OpenClaim := { program := "ythoibeajhdhdhaagreatdoor", sum := "3a92c509ec65dac13aabd34de6841148ac756581c0dac9e2ed529da55d4aceb1", func := "intervalmon/intervalmonlaw07.ParserEqual", spec := "parserEqual", inPlace := ["internal/bytealg.IndexByteString", "internal/abi.NoEscape", "internal/bytealg.MakeNoZero"], unfollowed := true, recurses := true, named := ["intervalmon/parser.groupWords", "intervalmon/parser.matchSymbols", "intervalmon/parser.functionWords", "intervalmon/parser.operators", "internal/strconv.uint64pow10", "math/bits.deBruijn32tab", "math/bits.deBruijn64tab"], loops := true, apart := false, laid := [("math/bits.deBruijn32tab", laid_math_bits_deBruijn32tab), ("math/bits.deBruijn64tab", laid_math_bits_deBruijn64tab), ("internal/strconv.uint64pow10", laid_internal_strconv_uint64pow10), ("intervalmon/parser.groupWords", laid_intervalmon_parser_groupWords), ("intervalmon/parser.functionWords", laid_intervalmon_parser_functionWords), ("intervalmon/parser.matchSymbols", laid_intervalmon_parser_matchSymbols), ("intervalmon/parser.operators", laid_intervalmon_parser_operators)], narrowed := true }
def ParserEqualUptoSaid : Prop := parserEqualUptoRow.holds Tryz.pinned (OpenSpec.upto parserEqualSpec)

end Rows
end Go.Proofs.YthoibeajhdhdhaaGreatDoor
