/-
  NARROWER THAN 'FOR EVERY INPUT', by the rows' own cells (each row's printed sentence says how): PlanEncode: laid · PlanDecode: laid · PlanPrinted: laid.
  DERIVED. THE GIVEN ROWS OF THIS SEAT. 3 by the template 'for every input the law returns true; each argument reads behind the call as it read before'; 0 by the template 'total and deterministic' (their statements: YtkdojgkiclndfaaGreatDoorTotals.lean).
  GIVEN WITH THE SEED: the statements are not yours to turn. If you find one false, say at which input.
  Laid BY PROGRAM, IN A SANDBOX (cutbox-rows.mjs): the forced cells as the released guide's own fill.sh prints them over the translation 7f143c4162aed416… (all of the seat's roots in one cut). By AI agents, Wed Nov 11 2026. No macro, syntax, notation, axiom, sorry.
-/
import Derived.Test.YtkdojgkiclndfaaGreatDoorChecked
import GoSem.Claim
import GoSem.ClaimJoined
import GoSem.ClaimMapViews
import Derived.JoinedTies
import Derived.KernelRfl
namespace Go.Proofs.YtkdojgkiclndfaaGreatDoor
/- THE CELL 'sum', in the pinned program and in every row, IS THE sha256 OF THE DUMP (.gsa) THAT YtkdojgkiclndfaaGreatDoorProg.lean LOADS. Nothing in Lean hashes anything: it is a label: what it is worth is what the hold of that sum in a sandbox is worth. -/
noncomputable def Tryz.pinned : Pinned := { name := "ytkdojgkiclndfaagreatdoor", sum := "7f143c4162aed416e59bebcda0b9614c3b674c878c996580c5b62d2c62164887", checked := Tryz.checked }
namespace Rows
def none {H : Type} : Left H := { results := [], args := [] }

/- WHAT THE LISTED PACKAGE-LEVEL VARIABLES READ AS WHEN THE CALL BEGINS. Each datum BY PROGRAM (the guide's laid-datum.mjs) off the statement by which the dump's own 'gosem.cut.vars' lays the variable. In a bare row this is a premise. The card (YtkdojgkiclndfaaGreatDoorCards.lean) ties it to the program's text. -/
def laid_intervalmon_parser_groupWords {H : Type} : DataW H := .agg [.lit (.string [115, 117, 109]), .lit (.string [109, 105, 110]), .lit (.string [109, 97, 120]), .lit (.string [99, 111, 117, 110, 116]), .lit (.string [107, 116, 104])]
def laid_intervalmon_parser_functionWords {H : Type} : DataW H := .agg [.lit (.string [108, 97, 115, 116]), .lit (.string [108, 101, 97, 115, 116]), .lit (.string [103, 114, 101, 97, 116, 101, 115, 116]), .lit (.string [116, 111, 116, 97, 108]), .lit (.string [109, 101, 97, 110]), .lit (.string [105, 110, 99, 114, 101, 97, 115, 101]), .lit (.string [114, 97, 116, 101]), .lit (.string [107, 116, 104])]
def laid_intervalmon_parser_matchSymbols {H : Type} : DataW H := .agg [.lit (.string [61]), .lit (.string [33, 61]), .lit (.string [94, 61])]
def laid_intervalmon_parser_operators {H : Type} : DataW H := .agg [.lit (.string [43]), .lit (.string [45]), .lit (.string [42]), .lit (.string [47])]
def laid_math_bits_deBruijn32tab {H : Type} : DataW H := .agg [.lit (.int .u8 0), .lit (.int .u8 1), .lit (.int .u8 28), .lit (.int .u8 2), .lit (.int .u8 29), .lit (.int .u8 14), .lit (.int .u8 24), .lit (.int .u8 3), .lit (.int .u8 30), .lit (.int .u8 22), .lit (.int .u8 20), .lit (.int .u8 15), .lit (.int .u8 25), .lit (.int .u8 17), .lit (.int .u8 4), .lit (.int .u8 8), .lit (.int .u8 31), .lit (.int .u8 27), .lit (.int .u8 13), .lit (.int .u8 23), .lit (.int .u8 21), .lit (.int .u8 19), .lit (.int .u8 16), .lit (.int .u8 7), .lit (.int .u8 26), .lit (.int .u8 12), .lit (.int .u8 18), .lit (.int .u8 6), .lit (.int .u8 11), .lit (.int .u8 5), .lit (.int .u8 10), .lit (.int .u8 9)]
def laid_math_bits_deBruijn64tab {H : Type} : DataW H := .agg [.lit (.int .u8 0), .lit (.int .u8 1), .lit (.int .u8 56), .lit (.int .u8 2), .lit (.int .u8 57), .lit (.int .u8 49), .lit (.int .u8 28), .lit (.int .u8 3), .lit (.int .u8 61), .lit (.int .u8 58), .lit (.int .u8 42), .lit (.int .u8 50), .lit (.int .u8 38), .lit (.int .u8 29), .lit (.int .u8 17), .lit (.int .u8 4), .lit (.int .u8 62), .lit (.int .u8 47), .lit (.int .u8 59), .lit (.int .u8 36), .lit (.int .u8 45), .lit (.int .u8 43), .lit (.int .u8 51), .lit (.int .u8 22), .lit (.int .u8 53), .lit (.int .u8 39), .lit (.int .u8 33), .lit (.int .u8 30), .lit (.int .u8 24), .lit (.int .u8 18), .lit (.int .u8 12), .lit (.int .u8 5), .lit (.int .u8 63), .lit (.int .u8 55), .lit (.int .u8 48), .lit (.int .u8 27), .lit (.int .u8 60), .lit (.int .u8 41), .lit (.int .u8 37), .lit (.int .u8 16), .lit (.int .u8 46), .lit (.int .u8 35), .lit (.int .u8 44), .lit (.int .u8 21), .lit (.int .u8 52), .lit (.int .u8 32), .lit (.int .u8 23), .lit (.int .u8 11), .lit (.int .u8 54), .lit (.int .u8 26), .lit (.int .u8 40), .lit (.int .u8 15), .lit (.int .u8 34), .lit (.int .u8 20), .lit (.int .u8 31), .lit (.int .u8 10), .lit (.int .u8 25), .lit (.int .u8 14), .lit (.int .u8 19), .lit (.int .u8 9), .lit (.int .u8 13), .lit (.int .u8 8), .lit (.int .u8 7), .lit (.int .u8 6)]
def laid_internal_strconv_uint64pow10 {H : Type} : DataW H := .agg [.lit (.int .u64 1), .lit (.int .u64 10), .lit (.int .u64 100), .lit (.int .u64 1000), .lit (.int .u64 10000), .lit (.int .u64 100000), .lit (.int .u64 1000000), .lit (.int .u64 10000000), .lit (.int .u64 100000000), .lit (.int .u64 1000000000), .lit (.int .u64 10000000000), .lit (.int .u64 100000000000), .lit (.int .u64 1000000000000), .lit (.int .u64 10000000000000), .lit (.int .u64 100000000000000), .lit (.int .u64 1000000000000000), .lit (.int .u64 10000000000000000), .lit (.int .u64 100000000000000000), .lit (.int .u64 1000000000000000000), .lit (.int .u64 10000000000000000000)]

/-- 'intervalmonlaw23.PlanEncode': WHATEVER THE INPUT: true; the input reads as it did. -/
def planEncodeSpec : ChangeSpec := { name := "planEncode", fn := fun _ => fun
  | [d1, d2, d3, d4] => { results := [.lit (.bool true)], args := [d1, d2, d3, d4] }
  | _ => none }
def planEncodeRow : OpenClaim := { program := "ytkdojgkiclndfaagreatdoor", sum := "7f143c4162aed416e59bebcda0b9614c3b674c878c996580c5b62d2c62164887", func := "intervalmon/intervalmonlaw23.PlanEncode", spec := "planEncode", inPlace := ["internal/bytealg.IndexByteString"], unfollowed := true, recurses := true, named := ["intervalmon/parser.groupWords", "intervalmon/parser.matchSymbols", "intervalmon/parser.functionWords", "intervalmon/parser.operators"], apart := false, laid := [("intervalmon/parser.groupWords", laid_intervalmon_parser_groupWords), ("intervalmon/parser.functionWords", laid_intervalmon_parser_functionWords), ("intervalmon/parser.matchSymbols", laid_intervalmon_parser_matchSymbols), ("intervalmon/parser.operators", laid_intervalmon_parser_operators)] }
def PlanEncodeSaid : Prop := planEncodeRow.holds Tryz.pinned (OpenSpec.ofChange planEncodeSpec)

/-- ITS FALSE NEIGHBOUR: 'it returns false'. Refute it at one input. -/
def planEncodeWrong : ChangeSpec := { name := "planEncode", fn := fun _ => fun
  | [d1, d2, d3, d4] => { results := [.lit (.bool false)], args := [d1, d2, d3, d4] }
  | _ => none }
def PlanEncodeWrongFalsely : Prop := planEncodeRow.holds Tryz.pinned (OpenSpec.ofChange planEncodeWrong)

/-- 'intervalmonlaw23.PlanDecode': WHATEVER THE INPUT: true; the input reads as it did. -/
def planDecodeSpec : ChangeSpec := { name := "planDecode", fn := fun _ => fun
  | [d1, d2, d3, d4] => { results := [.lit (.bool true)], args := [d1, d2, d3, d4] }
  | _ => none }
def planDecodeRow : OpenClaim := { program := "ytkdojgkiclndfaagreatdoor", sum := "7f143c4162aed416e59bebcda0b9614c3b674c878c996580c5b62d2c62164887", func := "intervalmon/intervalmonlaw23.PlanDecode", spec := "planDecode", inPlace := ["internal/bytealg.IndexByteString"], unfollowed := true, recurses := true, named := ["intervalmon/parser.groupWords", "intervalmon/parser.matchSymbols", "intervalmon/parser.functionWords", "intervalmon/parser.operators"], apart := false, laid := [("intervalmon/parser.groupWords", laid_intervalmon_parser_groupWords), ("intervalmon/parser.functionWords", laid_intervalmon_parser_functionWords), ("intervalmon/parser.matchSymbols", laid_intervalmon_parser_matchSymbols), ("intervalmon/parser.operators", laid_intervalmon_parser_operators)] }
def PlanDecodeSaid : Prop := planDecodeRow.holds Tryz.pinned (OpenSpec.ofChange planDecodeSpec)

/-- ITS FALSE NEIGHBOUR: 'it returns false'. Refute it at one input. -/
def planDecodeWrong : ChangeSpec := { name := "planDecode", fn := fun _ => fun
  | [d1, d2, d3, d4] => { results := [.lit (.bool false)], args := [d1, d2, d3, d4] }
  | _ => none }
def PlanDecodeWrongFalsely : Prop := planDecodeRow.holds Tryz.pinned (OpenSpec.ofChange planDecodeWrong)

/-- 'intervalmonlaw23.PlanPrinted': WHATEVER THE INPUT: true; the input reads as it did. -/
def planPrintedSpec : ChangeSpec := { name := "planPrinted", fn := fun _ => fun
  | [d] => { results := [.lit (.bool true)], args := [d] }
  | _ => none }
def planPrintedRow : OpenClaim := { program := "ytkdojgkiclndfaagreatdoor", sum := "7f143c4162aed416e59bebcda0b9614c3b674c878c996580c5b62d2c62164887", func := "intervalmon/intervalmonlaw23.PlanPrinted", spec := "planPrinted", inPlace := ["internal/abi.NoEscape", "internal/bytealg.MakeNoZero", "internal/bytealg.IndexByteString"], unfollowed := true, recurses := true, named := ["intervalmon/parser.groupWords", "intervalmon/parser.operators", "internal/strconv.uint64pow10", "math/bits.deBruijn32tab", "math/bits.deBruijn64tab", "intervalmon/parser.matchSymbols", "intervalmon/parser.functionWords"], apart := false, laid := [("math/bits.deBruijn32tab", laid_math_bits_deBruijn32tab), ("math/bits.deBruijn64tab", laid_math_bits_deBruijn64tab), ("internal/strconv.uint64pow10", laid_internal_strconv_uint64pow10), ("intervalmon/parser.groupWords", laid_intervalmon_parser_groupWords), ("intervalmon/parser.functionWords", laid_intervalmon_parser_functionWords), ("intervalmon/parser.matchSymbols", laid_intervalmon_parser_matchSymbols), ("intervalmon/parser.operators", laid_intervalmon_parser_operators)] }
def PlanPrintedSaid : Prop := planPrintedRow.holds Tryz.pinned (OpenSpec.ofChange planPrintedSpec)

/-- ITS FALSE NEIGHBOUR: 'it returns false'. Refute it at one input. -/
def planPrintedWrong : ChangeSpec := { name := "planPrinted", fn := fun _ => fun
  | [d] => { results := [.lit (.bool false)], args := [d] }
  | _ => none }
def PlanPrintedWrongFalsely : Prop := planPrintedRow.holds Tryz.pinned (OpenSpec.ofChange planPrintedWrong)

/- THE SECOND FORM. 'bulk': how many values and letters a reading holds, each counted each time it is reached (what is shared counts as often as it is met; a slice's spare places count too). A statement '..UptoSaid' is the law's where the arguments, and the package variables that the reading takes, are together of bulk at most 1048576: NARROWER than '..Said'. Prove '..Said' where nothing that the law and all that it calls make is longer than what came in: it says more and counts as full. Else prove '..UptoSaid'. A law counts once. -/
mutual
def uptoBulk {H : Type} : DataW H → Nat
  | .lit (.string bytes) => bytes.length + 1
  | .lit _ => 1
  | .nil => 1
  | .ptr d => uptoBulk d + 1
  | .slice elems spare => uptoBulkAll elems + uptoBulkAll spare + 1
  | .agg parts => uptoBulkAll parts + 1
  | .iface _ d => uptoBulk d + 1
  | .map entries => uptoBulkEntries entries + 1
  | .held _ => 1
def uptoBulkAll {H : Type} : List (DataW H) → Nat
  | [] => 0
  | d :: r => uptoBulk d + uptoBulkAll r
def uptoBulkEntries {H : Type} : List (Lit × DataW H) → Nat
  | [] => 0
  | x :: r => uptoBulkEntry x + uptoBulkEntries r
def uptoBulkEntry {H : Type} : Lit × DataW H → Nat
  | (.string bytes, d) => bytes.length + uptoBulk d + 1
  | (_, d) => uptoBulk d + 1
 end
def uptoSmall : (H : Type) → List (DataW H) → Bool := fun _ ds => decide (uptoBulkAll ds ≤ 1048576)
def OpenSpec.upto (s : _root_.Go.ChangeSpec) : _root_.Go.OpenSpec := { _root_.Go.OpenSpec.ofChange s with cond := some uptoSmall }

/-- 'intervalmonlaw23.PlanEncode', WHERE WHAT IT READS IS OF BULK AT MOST 1048576: true; the input reads as it did. -/
def planEncodeUptoRow : OpenClaim := { program := "ytkdojgkiclndfaagreatdoor", sum := "7f143c4162aed416e59bebcda0b9614c3b674c878c996580c5b62d2c62164887", func := "intervalmon/intervalmonlaw23.PlanEncode", spec := "planEncode", inPlace := ["internal/bytealg.IndexByteString"], unfollowed := true, recurses := true, named := ["intervalmon/parser.groupWords", "intervalmon/parser.matchSymbols", "intervalmon/parser.functionWords", "intervalmon/parser.operators"], apart := false, laid := [("intervalmon/parser.groupWords", laid_intervalmon_parser_groupWords), ("intervalmon/parser.functionWords", laid_intervalmon_parser_functionWords), ("intervalmon/parser.matchSymbols", laid_intervalmon_parser_matchSymbols), ("intervalmon/parser.operators", laid_intervalmon_parser_operators)], narrowed := true }
def PlanEncodeUptoSaid : Prop := planEncodeUptoRow.holds Tryz.pinned (OpenSpec.upto planEncodeSpec)

/-- 'intervalmonlaw23.PlanDecode', WHERE WHAT IT READS IS OF BULK AT MOST 1048576: true; the input reads as it did. -/
def planDecodeUptoRow : OpenClaim := { program := "ytkdojgkiclndfaagreatdoor", sum := "7f143c4162aed416e59bebcda0b9614c3b674c878c996580c5b62d2c62164887", func := "intervalmon/intervalmonlaw23.PlanDecode", spec := "planDecode", inPlace := ["internal/bytealg.IndexByteString"], unfollowed := true, recurses := true, named := ["intervalmon/parser.groupWords", "intervalmon/parser.matchSymbols", "intervalmon/parser.functionWords", "intervalmon/parser.operators"], apart := false, laid := [("intervalmon/parser.groupWords", laid_intervalmon_parser_groupWords), ("intervalmon/parser.functionWords", laid_intervalmon_parser_functionWords), ("intervalmon/parser.matchSymbols", laid_intervalmon_parser_matchSymbols), ("intervalmon/parser.operators", laid_intervalmon_parser_operators)], narrowed := true }
def PlanDecodeUptoSaid : Prop := planDecodeUptoRow.holds Tryz.pinned (OpenSpec.upto planDecodeSpec)

/-- 'intervalmonlaw23.PlanPrinted', WHERE WHAT IT READS IS OF BULK AT MOST 1048576: true; the input reads as it did. -/
def planPrintedUptoRow : OpenClaim := { program := "ytkdojgkiclndfaagreatdoor", sum := "7f143c4162aed416e59bebcda0b9614c3b674c878c996580c5b62d2c62164887", func := "intervalmon/intervalmonlaw23.PlanPrinted", spec := "planPrinted", inPlace := ["internal/abi.NoEscape", "internal/bytealg.MakeNoZero", "internal/bytealg.IndexByteString"], unfollowed := true, recurses := true, named := ["intervalmon/parser.groupWords", "intervalmon/parser.operators", "internal/strconv.uint64pow10", "math/bits.deBruijn32tab", "math/bits.deBruijn64tab", "intervalmon/parser.matchSymbols", "intervalmon/parser.functionWords"], apart := false, laid := [("math/bits.deBruijn32tab", laid_math_bits_deBruijn32tab), ("math/bits.deBruijn64tab", laid_math_bits_deBruijn64tab), ("internal/strconv.uint64pow10", laid_internal_strconv_uint64pow10), ("intervalmon/parser.groupWords", laid_intervalmon_parser_groupWords), ("intervalmon/parser.functionWords", laid_intervalmon_parser_functionWords), ("intervalmon/parser.matchSymbols", laid_intervalmon_parser_matchSymbols), ("intervalmon/parser.operators", laid_intervalmon_parser_operators)], narrowed := true }
def PlanPrintedUptoSaid : Prop := planPrintedUptoRow.holds Tryz.pinned (OpenSpec.upto planPrintedSpec)

end Rows
end Go.Proofs.YtkdojgkiclndfaaGreatDoor
