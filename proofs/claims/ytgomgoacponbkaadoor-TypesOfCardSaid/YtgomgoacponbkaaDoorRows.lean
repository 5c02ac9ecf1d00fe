/-
  NARROWER THAN 'FOR EVERY INPUT', by the rows' own cells (each row's printed sentence says how): TypesUnits: laid · TypesOf: laid · TypesAlgebra: laid · TypesOrder: laid · TypesBy: loops, laid · TypesQuotient: laid.
  DERIVED. THE GIVEN ROWS OF THIS SEAT. 6 by the template 'for every input the law returns true; each argument reads behind the call as it read before'; 0 by the template 'total and deterministic' (their statements: YtgomgoacponbkaaDoorTotals.lean).
  GIVEN WITH THE SEED: the statements are not yours to turn. If you find one false, say at which input.
  Laid BY PROGRAM, IN A SANDBOX (cutbox-rows.mjs): the forced cells as the released guide's own fill.sh prints them over the translation 10bf945f398984ce… (all of the seat's roots in one cut). By AI agents, Wed Nov 11 2026. No macro, syntax, notation, axiom, sorry.
-/
import Derived.Test.YtgomgoacponbkaaDoorChecked
import GoSem.Claim
import GoSem.ClaimJoined
import GoSem.ClaimMapViews
import Derived.JoinedTies
import Derived.KernelRfl
namespace Go.Proofs.YtgomgoacponbkaaDoor
/- THE CELL 'sum', in the pinned program and in every row, IS THE sha256 OF THE DUMP (.gsa) THAT YtgomgoacponbkaaDoorProg.lean LOADS. Nothing in Lean hashes anything: it is a label: what it is worth is what the hold of that sum in a sandbox is worth. -/
noncomputable def Tryd.pinned : Pinned := { name := "ytgomgoacponbkaadoor", sum := "10bf945f398984ceda986b48c00d376aca50a75a7aed410704b01c799a0a0a27", checked := Tryd.checked }
namespace Rows
def none {H : Type} : Left H := { results := [], args := [] }

/- WHAT THE LISTED PACKAGE-LEVEL VARIABLES READ AS WHEN THE CALL BEGINS. Each datum BY PROGRAM (the guide's laid-datum.mjs) off the statement by which the dump's own 'gosem.cut.vars' lays the variable. In a bare row this is a premise. The card (YtgomgoacponbkaaDoorCards.lean) ties it to the program's text. -/
def laid_math_bits_deBruijn32tab {H : Type} : DataW H := .agg [.lit (.int .u8 0), .lit (.int .u8 1), .lit (.int .u8 28), .lit (.int .u8 2), .lit (.int .u8 29), .lit (.int .u8 14), .lit (.int .u8 24), .lit (.int .u8 3), .lit (.int .u8 30), .lit (.int .u8 22), .lit (.int .u8 20), .lit (.int .u8 15), .lit (.int .u8 25), .lit (.int .u8 17), .lit (.int .u8 4), .lit (.int .u8 8), .lit (.int .u8 31), .lit (.int .u8 27), .lit (.int .u8 13), .lit (.int .u8 23), .lit (.int .u8 21), .lit (.int .u8 19), .lit (.int .u8 16), .lit (.int .u8 7), .lit (.int .u8 26), .lit (.int .u8 12), .lit (.int .u8 18), .lit (.int .u8 6), .lit (.int .u8 11), .lit (.int .u8 5), .lit (.int .u8 10), .lit (.int .u8 9)]
def laid_math_bits_deBruijn64tab {H : Type} : DataW H := .agg [.lit (.int .u8 0), .lit (.int .u8 1), .lit (.int .u8 56), .lit (.int .u8 2), .lit (.int .u8 57), .lit (.int .u8 49), .lit (.int .u8 28), .lit (.int .u8 3), .lit (.int .u8 61), .lit (.int .u8 58), .lit (.int .u8 42), .lit (.int .u8 50), .lit (.int .u8 38), .lit (.int .u8 29), .lit (.int .u8 17), .lit (.int .u8 4), .lit (.int .u8 62), .lit (.int .u8 47), .lit (.int .u8 59), .lit (.int .u8 36), .lit (.int .u8 45), .lit (.int .u8 43), .lit (.int .u8 51), .lit (.int .u8 22), .lit (.int .u8 53), .lit (.int .u8 39), .lit (.int .u8 33), .lit (.int .u8 30), .lit (.int .u8 24), .lit (.int .u8 18), .lit (.int .u8 12), .lit (.int .u8 5), .lit (.int .u8 63), .lit (.int .u8 55), .lit (.int .u8 48), .lit (.int .u8 27), .lit (.int .u8 60), .lit (.int .u8 41), .lit (.int .u8 37), .lit (.int .u8 16), .lit (.int .u8 46), .lit (.int .u8 35), .lit (.int .u8 44), .lit (.int .u8 21), .lit (.int .u8 52), .lit (.int .u8 32), .lit (.int .u8 23), .lit (.int .u8 11), .lit (.int .u8 54), .lit (.int .u8 26), .lit (.int .u8 40), .lit (.int .u8 15), .lit (.int .u8 34), .lit (.int .u8 20), .lit (.int .u8 31), .lit (.int .u8 10), .lit (.int .u8 25), .lit (.int .u8 14), .lit (.int .u8 19), .lit (.int .u8 9), .lit (.int .u8 13), .lit (.int .u8 8), .lit (.int .u8 7), .lit (.int .u8 6)]
def laid_internal_strconv_uint64pow10 {H : Type} : DataW H := .agg [.lit (.int .u64 1), .lit (.int .u64 10), .lit (.int .u64 100), .lit (.int .u64 1000), .lit (.int .u64 10000), .lit (.int .u64 100000), .lit (.int .u64 1000000), .lit (.int .u64 10000000), .lit (.int .u64 100000000), .lit (.int .u64 1000000000), .lit (.int .u64 10000000000), .lit (.int .u64 100000000000), .lit (.int .u64 1000000000000), .lit (.int .u64 10000000000000), .lit (.int .u64 100000000000000), .lit (.int .u64 1000000000000000), .lit (.int .u64 10000000000000000), .lit (.int .u64 100000000000000000), .lit (.int .u64 1000000000000000000), .lit (.int .u64 10000000000000000000)]
def laid_intervalmon_parser_groupWords {H : Type} : DataW H := .agg [.lit (.string [115, 117, 109]), .lit (.string [109, 105, 110]), .lit (.string [109, 97, 120]), .lit (.string [99, 111, 117, 110, 116]), .lit (.string [107, 116, 104])]
def laid_intervalmon_types_unitNames {H : Type} : DataW H := .agg [.lit (.string [105, 116, 101, 109]), .lit (.string [98, 121, 116, 101]), .lit (.string [116, 105, 99, 107])]

/-- 'intervalmonlaw08.TypesUnits': WHATEVER THE INPUT: true; the input reads as it did. -/
def typesUnitsSpec : ChangeSpec := { name := "typesUnits", fn := fun _ => fun
  | [d1, d2, d3, d4] => { results := [.lit (.bool true)], args := [d1, d2, d3, d4] }
  | _ => none }
def typesUnitsRow : OpenClaim := { program := "ytgomgoacponbkaadoor", sum := "10bf945f398984ceda986b48c00d376aca50a75a7aed410704b01c799a0a0a27", func := "intervalmon/intervalmonlaw08.TypesUnits", spec := "typesUnits", recurses := true, named := ["intervalmon/types.unitNames", "internal/strconv.uint64pow10", "math/bits.deBruijn32tab", "math/bits.deBruijn64tab", "intervalmon/parser.groupWords"], apart := false, laid := [("math/bits.deBruijn32tab", laid_math_bits_deBruijn32tab), ("math/bits.deBruijn64tab", laid_math_bits_deBruijn64tab), ("internal/strconv.uint64pow10", laid_internal_strconv_uint64pow10), ("intervalmon/parser.groupWords", laid_intervalmon_parser_groupWords), ("intervalmon/types.unitNames", laid_intervalmon_types_unitNames)] }
def TypesUnitsSaid : Prop := typesUnitsRow.holds Tryd.pinned (OpenSpec.ofChange typesUnitsSpec)

/-- ITS FALSE NEIGHBOUR: 'it returns false'. Refute it at one input. -/
def typesUnitsWrong : ChangeSpec := { name := "typesUnits", fn := fun _ => fun
  | [d1, d2, d3, d4] => { results := [.lit (.bool false)], args := [d1, d2, d3, d4] }
  | _ => none }
def TypesUnitsWrongFalsely : Prop := typesUnitsRow.holds Tryd.pinned (OpenSpec.ofChange typesUnitsWrong)

/-- 'intervalmonlaw08.TypesOf': WHATEVER THE INPUT: true; the input reads as it did. -/
def typesOfSpec : ChangeSpec := { name := "typesOf", fn := fun _ => fun
  | [d1, d2, d3, d4, d5] => { results := [.lit (.bool true)], args := [d1, d2, d3, d4, d5] }
  | _ => none }
def typesOfRow : OpenClaim := { program := "ytgomgoacponbkaadoor", sum := "10bf945f398984ceda986b48c00d376aca50a75a7aed410704b01c799a0a0a27", func := "intervalmon/intervalmonlaw08.TypesOf", spec := "typesOf", recurses := true, named := ["intervalmon/parser.groupWords", "intervalmon/types.unitNames", "internal/strconv.uint64pow10", "math/bits.deBruijn32tab", "math/bits.deBruijn64tab"], apart := false, laid := [("math/bits.deBruijn32tab", laid_math_bits_deBruijn32tab), ("math/bits.deBruijn64tab", laid_math_bits_deBruijn64tab), ("internal/strconv.uint64pow10", laid_internal_strconv_uint64pow10), ("intervalmon/parser.groupWords", laid_intervalmon_parser_groupWords), ("intervalmon/types.unitNames", laid_intervalmon_types_unitNames)] }
def TypesOfSaid : Prop := typesOfRow.holds Tryd.pinned (OpenSpec.ofChange typesOfSpec)

/-- ITS FALSE NEIGHBOUR: 'it returns false'. Refute it at one input. -/
def typesOfWrong : ChangeSpec := { name := "typesOf", fn := fun _ => fun
  | [d1, d2, d3, d4, d5] => { results := [.lit (.bool false)], args := [d1, d2, d3, d4, d5] }
  | _ => none }
def TypesOfWrongFalsely : Prop := typesOfRow.holds Tryd.pinned (OpenSpec.ofChange typesOfWrong)

/-- 'intervalmonlaw08.TypesAlgebra': WHATEVER THE INPUT: true; the input reads as it did. -/
def typesAlgebraSpec : ChangeSpec := { name := "typesAlgebra", fn := fun _ => fun
  | [d1, d2, d3] => { results := [.lit (.bool true)], args := [d1, d2, d3] }
  | _ => none }
def typesAlgebraRow : OpenClaim := { program := "ytgomgoacponbkaadoor", sum := "10bf945f398984ceda986b48c00d376aca50a75a7aed410704b01c799a0a0a27", func := "intervalmon/intervalmonlaw08.TypesAlgebra", spec := "typesAlgebra", recurses := true, named := ["intervalmon/parser.groupWords", "intervalmon/types.unitNames", "internal/strconv.uint64pow10", "math/bits.deBruijn32tab", "math/bits.deBruijn64tab"], apart := false, laid := [("math/bits.deBruijn32tab", laid_math_bits_deBruijn32tab), ("math/bits.deBruijn64tab", laid_math_bits_deBruijn64tab), ("internal/strconv.uint64pow10", laid_internal_strconv_uint64pow10), ("intervalmon/parser.groupWords", laid_intervalmon_parser_groupWords), ("intervalmon/types.unitNames", laid_intervalmon_types_unitNames)] }
def TypesAlgebraSaid : Prop := typesAlgebraRow.holds Tryd.pinned (OpenSpec.ofChange typesAlgebraSpec)

/-- ITS FALSE NEIGHBOUR: 'it returns false'. Refute it at one input. -/
def typesAlgebraWrong : ChangeSpec := { name := "typesAlgebra", fn := fun _ => fun
  | [d1, d2, d3] => { results := [.lit (.bool false)], args := [d1, d2, d3] }
  | _ => none }
def TypesAlgebraWrongFalsely : Prop := typesAlgebraRow.holds Tryd.pinned (OpenSpec.ofChange typesAlgebraWrong)

/-- 'intervalmonlaw08.TypesOrder': WHATEVER THE INPUT: true; the input reads as it did. -/
def typesOrderSpec : ChangeSpec := { name := "typesOrder", fn := fun _ => fun
  | [d1, d2, d3, d4] => { results := [.lit (.bool true)], args := [d1, d2, d3, d4] }
  | _ => none }
def typesOrderRow : OpenClaim := { program := "ytgomgoacponbkaadoor", sum := "10bf945f398984ceda986b48c00d376aca50a75a7aed410704b01c799a0a0a27", func := "intervalmon/intervalmonlaw08.TypesOrder", spec := "typesOrder", recurses := true, named := ["intervalmon/parser.groupWords", "intervalmon/types.unitNames", "internal/strconv.uint64pow10", "math/bits.deBruijn32tab", "math/bits.deBruijn64tab"], apart := false, laid := [("math/bits.deBruijn32tab", laid_math_bits_deBruijn32tab), ("math/bits.deBruijn64tab", laid_math_bits_deBruijn64tab), ("internal/strconv.uint64pow10", laid_internal_strconv_uint64pow10), ("intervalmon/parser.groupWords", laid_intervalmon_parser_groupWords), ("intervalmon/types.unitNames", laid_intervalmon_types_unitNames)] }
def TypesOrderSaid : Prop := typesOrderRow.holds Tryd.pinned (OpenSpec.ofChange typesOrderSpec)

/-- ITS FALSE NEIGHBOUR: 'it returns false'. Refute it at one input. -/
def typesOrderWrong : ChangeSpec := { name := "typesOrder", fn := fun _ => fun
  | [d1, d2, d3, d4] => { results := [.lit (.bool false)], args := [d1, d2, d3, d4] }
  | _ => none }
def TypesOrderWrongFalsely : Prop := typesOrderRow.holds Tryd.pinned (OpenSpec.ofChange typesOrderWrong)

/-- 'intervalmonlaw08.TypesBy': WHATEVER THE INPUT: true; the input reads as it did. -/
def typesBySpec : ChangeSpec := { name := "typesBy", fn := fun _ => fun
  | [d1, d2, d3, d4, d5] => { results := [.lit (.bool true)], args := [d1, d2, d3, d4, d5] }
  | _ => none }
def typesByRow : OpenClaim := { program := "ytgomgoacponbkaadoor", sum := "10bf945f398984ceda986b48c00d376aca50a75a7aed410704b01c799a0a0a27", func := "intervalmon/intervalmonlaw08.TypesBy", spec := "typesBy", recurses := true, named := ["intervalmon/parser.groupWords", "intervalmon/types.unitNames", "internal/strconv.uint64pow10", "math/bits.deBruijn32tab", "math/bits.deBruijn64tab"], loops := true, apart := false, laid := [("math/bits.deBruijn32tab", laid_math_bits_deBruijn32tab), ("math/bits.deBruijn64tab", laid_math_bits_deBruijn64tab), ("internal/strconv.uint64pow10", laid_internal_strconv_uint64pow10), ("intervalmon/parser.groupWords", laid_intervalmon_parser_groupWords), ("intervalmon/types.unitNames", laid_intervalmon_types_unitNames)] }
def TypesBySaid : Prop := typesByRow.holds Tryd.pinned (OpenSpec.ofChange typesBySpec)

/-- ITS FALSE NEIGHBOUR: 'it returns false'. Refute it at one input. -/
def typesByWrong : ChangeSpec := { name := "typesBy", fn := fun _ => fun
  | [d1, d2, d3, d4, d5] => { results := [.lit (.bool false)], args := [d1, d2, d3, d4, d5] }
  | _ => none }
def TypesByWrongFalsely : Prop := typesByRow.holds Tryd.pinned (OpenSpec.ofChange typesByWrong)

/-- 'intervalmonlaw08.TypesQuotient': WHATEVER THE INPUT: true; the input reads as it did. -/
def typesQuotientSpec : ChangeSpec := { name := "typesQuotient", fn := fun _ => fun
  | [d1, d2] => { results := [.lit (.bool true)], args := [d1, d2] }
  | _ => none }
def typesQuotientRow : OpenClaim := { program := "ytgomgoacponbkaadoor", sum := "10bf945f398984ceda986b48c00d376aca50a75a7aed410704b01c799a0a0a27", func := "intervalmon/intervalmonlaw08.TypesQuotient", spec := "typesQuotient", recurses := true, named := ["intervalmon/parser.groupWords", "intervalmon/types.unitNames", "internal/strconv.uint64pow10", "math/bits.deBruijn32tab", "math/bits.deBruijn64tab"], apart := false, laid := [("math/bits.deBruijn32tab", laid_math_bits_deBruijn32tab), ("math/bits.deBruijn64tab", laid_math_bits_deBruijn64tab), ("internal/strconv.uint64pow10", laid_internal_strconv_uint64pow10), ("intervalmon/parser.groupWords", laid_intervalmon_parser_groupWords), ("intervalmon/types.unitNames", laid_intervalmon_types_unitNames)] }
def TypesQuotientSaid : Prop := typesQuotientRow.holds Tryd.pinned (OpenSpec.ofChange typesQuotientSpec)

/-- ITS FALSE NEIGHBOUR: 'it returns false'. Refute it at one input. -/
def typesQuotientWrong : ChangeSpec := { name := "typesQuotient", fn := fun _ => fun
  | [d1, d2] => { results := [.lit (.bool false)], args := [d1, d2] }
  | _ => none }
def TypesQuotientWrongFalsely : Prop := typesQuotientRow.holds Tryd.pinned (OpenSpec.ofChange typesQuotientWrong)

/- THE SECOND FORM. 'bulk': how many values and letters a reading holds, each counted each time it is reached (what is shared counts as often as it is met; a slice's spare places count too). A statement '..UptoSaid' is the law's where the arguments, and the package variables that the reading takes, are together of bulk at most 1048576: NARROWER than '..Said'. Prove '..Said' where nothing that the law and all that it calls make is longer than what came in: it says more and counts as full. Else prove '..UptoSaid'. A law counts once. -/
mutual
def uptoBulk {H : Type} : DataW H → Nat
  | .lit (.string bytes) => bytes.length + 1
  | .lit _ => 1
  | .nil => 1
  | .ptr d => uptoBulk d + 1
  | .slice elems spare => uptoBulkAll elems + uptoBulkAll spare + 1
  | .agg parts => uptoBulkAll parts + 1
  | .iface _ d => uptoBulk d + 1
  | .map entries => uptoBulkEntries entries + 1
  | .held _ => 1
def uptoBulkAll {H : Type} : List (DataW H) → Nat
  | [] => 0
  | d :: r => uptoBulk d + uptoBulkAll r
def uptoBulkEntries {H : Type} : List (Lit × DataW H) → Nat
  | [] => 0
  | x :: r => uptoBulkEntry x + uptoBulkEntries r
def uptoBulkEntry {H : Type} : Lit × DataW H → Nat
  | (.string bytes, d) => bytes.length + uptoBulk d + 1
  | (_, d) => uptoBulk d + 1
 end
def uptoSmall : (H : Type) → List (DataW H) → Bool := fun _ ds => decide (uptoBulkAll ds ≤ 1048576)
def OpenSpec.upto (s : _root_.Go.ChangeSpec) : _root_.Go.OpenSpec := { _root_.Go.OpenSpec.ofChange s with cond := some uptoSmall }

/-- 'intervalmonlaw08.TypesUnits', WHERE WHAT IT READS IS OF BULK AT MOST 1048576: true; the input reads as it did. -/
def typesUnitsUptoRow : OpenClaim := { program := "ytgomgoacponbkaadoor", sum := "10bf945f398984ceda986b48c00d376aca50a75a7aed410704b01c799a0a0a27", func := "intervalmon/intervalmonlaw08.TypesUnits", spec := "typesUnits", recurses := true, named := ["intervalmon/types.unitNames", "internal/strconv.uint64pow10", "math/bits.deBruijn32tab", "math/bits.deBruijn64tab", "intervalmon/parser.groupWords"], apart := false, laid := [("math/bits.deBruijn32tab", laid_math_bits_deBruijn32tab), ("math/bits.deBruijn64tab", laid_math_bits_deBruijn64tab), ("internal/strconv.uint64pow10", laid_internal_strconv_uint64pow10), ("intervalmon/parser.groupWords", laid_intervalmon_parser_groupWords), ("intervalmon/types.unitNames", laid_intervalmon_types_unitNames)], narrowed := true }
def TypesUnitsUptoSaid : Prop := typesUnitsUptoRow.holds Tryd.pinned (OpenSpec.upto typesUnitsSpec)

/-- 'intervalmonlaw08.TypesOf', WHERE WHAT IT READS IS OF BULK AT MOST 1048576: true; the input reads as it did. -/
def typesOfUptoRow : OpenClaim := { program := "ytgomgoacponbkaadoor", sum := "10bf945f398984ceda986b48c00d376aca50a75a7aed410704b01c799a0a0a27", func := "intervalmon/intervalmonlaw08.TypesOf", spec := "typesOf", recurses := true, named := ["intervalmon/parser.groupWords", "intervalmon/types.unitNames", "internal/strconv.uint64pow10", "math/bits.deBruijn32tab", "math/bits.deBruijn64tab"], apart := false, laid := [("math/bits.deBruijn32tab", laid_math_bits_deBruijn32tab), ("math/bits.deBruijn64tab", laid_math_bits_deBruijn64tab), ("internal/strconv.uint64pow10", laid_internal_strconv_uint64pow10), ("intervalmon/parser.groupWords", laid_intervalmon_parser_groupWords), ("intervalmon/types.unitNames", laid_intervalmon_types_unitNames)], narrowed := true }
def TypesOfUptoSaid : Prop := typesOfUptoRow.holds Tryd.pinned (OpenSpec.upto typesOfSpec)

/-- 'intervalmonlaw08.TypesAlgebra', WHERE WHAT IT READS IS OF BULK AT MOST 1048576: true; the input reads as it did. -/
def typesAlgebraUptoRow : OpenClaim := { program := "ytgomgoacponbkaadoor", sum := "10bf945f398984ceda986b48c00d376aca50a75a7aed410704b01c799a0a0a27", func := "intervalmon/intervalmonlaw08.TypesAlgebra", spec := "typesAlgebra", recurses := true, named := ["intervalmon/parser.groupWords", "intervalmon/types.unitNames", "internal/strconv.uint64pow10", "math/bits.deBruijn32tab", "math/bits.deBruijn64tab"], apart := false, laid := [("math/bits.deBruijn32tab", laid_math_bits_deBruijn32tab), ("math/bits.deBruijn64tab", laid_math_bits_deBruijn64tab), ("internal/strconv.uint64pow10", laid_internal_strconv_uint64pow10), ("intervalmon/parser.groupWords", laid_intervalmon_parser_groupWords), ("intervalmon/types.unitNames", laid_intervalmon_types_unitNames)], narrowed := true }
def TypesAlgebraUptoSaid : Prop := typesAlgebraUptoRow.holds Tryd.pinned (OpenSpec.upto typesAlgebraSpec)

/-- 'intervalmonlaw08.TypesOrder', WHERE WHAT IT READS IS OF BULK AT MOST 1048576: true; the input reads as it did. -/
def typesOrderUptoRow : OpenClaim := { program := "ytgomgoacponbkaadoor", sum := "10bf945f398984ceda986b48c00d376aca50a75a7aed410704b01c799a0a0a27", func := "intervalmon/intervalmonlaw08.TypesOrder", spec := "typesOrder", recurses := true, named := ["intervalmon/parser.groupWords", "intervalmon/types.unitNames", "internal/strconv.uint64pow10", "math/bits.deBruijn32tab", "math/bits.deBruijn64tab"], apart := false, laid := [("math/bits.deBruijn32tab", laid_math_bits_deBruijn32tab), ("math/bits.deBruijn64tab", laid_math_bits_deBruijn64tab), ("internal/strconv.uint64pow10", laid_internal_strconv_uint64pow10), ("intervalmon/parser.groupWords", laid_intervalmon_parser_groupWords), ("intervalmon/types.unitNames", laid_intervalmon_types_unitNames)], narrowed := true }
def TypesOrderUptoSaid : Prop := typesOrderUptoRow.holds Tryd.pinned (OpenSpec.upto typesOrderSpec)

/-- 'intervalmonlaw08.TypesBy', WHERE WHAT IT READS IS OF BULK AT MOST 1048576: true; the input reads as it did. -/
def typesByUptoRow : OpenClaim := { program := "ytgomgoacponbkaadoor", sum := "10bf945f398984ceda986b48c00d376aca50a75a7aed410704b01c799a0a0a27", func := "intervalmon/intervalmonlaw08.TypesBy", spec := "typesBy", recurses := true, named := ["intervalmon/parser.groupWords", "intervalmon/types.unitNames", "internal/strconv.uint64pow10", "math/bits.deBruijn32tab", "math/bits.deBruijn64tab"], loops := true, apart := false, laid := [("math/bits.deBruijn32tab", laid_math_bits_deBruijn32tab), ("math/bits.deBruijn64tab", laid_math_bits_deBruijn64tab), ("internal/strconv.uint64pow10", laid_internal_strconv_uint64pow10), ("intervalmon/parser.groupWords", laid_intervalmon_parser_groupWords), ("intervalmon/types.unitNames", laid_intervalmon_types_unitNames)], narrowed := true }
def TypesByUptoSaid : Prop := typesByUptoRow.holds Tryd.pinned (OpenSpec.upto typesBySpec)

/-- 'intervalmonlaw08.TypesQuotient', WHERE WHAT IT READS IS OF BULK AT MOST 1048576: true; the input reads as it did. -/
def typesQuotientUptoRow : OpenClaim := { program := "ytgomgoacponbkaadoor", sum := "10bf945f398984ceda986b48c00d376aca50a75a7aed410704b01c799a0a0a27", func := "intervalmon/intervalmonlaw08.TypesQuotient", spec := "typesQuotient", recurses := true, named := ["intervalmon/parser.groupWords", "intervalmon/types.unitNames", "internal/strconv.uint64pow10", "math/bits.deBruijn32tab", "math/bits.deBruijn64tab"], apart := false, laid := [("math/bits.deBruijn32tab", laid_math_bits_deBruijn32tab), ("math/bits.deBruijn64tab", laid_math_bits_deBruijn64tab), ("internal/strconv.uint64pow10", laid_internal_strconv_uint64pow10), ("intervalmon/parser.groupWords", laid_intervalmon_parser_groupWords), ("intervalmon/types.unitNames", laid_intervalmon_types_unitNames)], narrowed := true }
def TypesQuotientUptoSaid : Prop := typesQuotientUptoRow.holds Tryd.pinned (OpenSpec.upto typesQuotientSpec)

end Rows
end Go.Proofs.YtgomgoacponbkaaDoor
