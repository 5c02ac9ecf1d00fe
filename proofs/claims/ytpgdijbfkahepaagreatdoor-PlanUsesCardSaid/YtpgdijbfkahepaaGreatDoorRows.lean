/-
  NARROWER THAN 'FOR EVERY INPUT', by the rows' own cells (each row's printed sentence says how): PlanUses: laid.
  DERIVED. THE GIVEN ROWS OF THIS SEAT. 1 by the template 'for every input the law returns true; each argument reads behind the call as it read before'; 0 by the template 'total and deterministic' (their statements: YtpgdijbfkahepaaGreatDoorTotals.lean).
  GIVEN WITH THE SEED: the statements are not yours to turn. If you find one false, say at which input.
  Laid BY PROGRAM, IN A SANDBOX (cutbox-rows.mjs): the forced cells as the released guide's own fill.sh prints them over the translation eaa7622b54a85348… (all of the seat's roots in one cut). By AI agents, Wed Nov 11 2026. No macro, syntax, notation, axiom, sorry.
-/
import Derived.Test.YtpgdijbfkahepaaGreatDoorChecked
import GoSem.Claim
import GoSem.ClaimJoined
import GoSem.ClaimMapViews
import Derived.JoinedTies
import Derived.KernelRfl
namespace Go.Proofs.YtpgdijbfkahepaaGreatDoor
/- THE CELL 'sum', in the pinned program and in every row, IS THE sha256 OF THE DUMP (.gsa) THAT YtpgdijbfkahepaaGreatDoorProg.lean LOADS. Nothing in Lean hashes anything: it is a label: what it is worth is what the hold of that sum in a sandbox is worth. -/
noncomputable def Tryz.pinned : Pinned := { name := "ytpgdijbfkahepaagreatdoor", sum := "eaa7622b54a8534865b6b1850cbc36cd96e5f400785920ab0e45fe26f9185ef1", checked := Tryz.checked }
namespace Rows
def none {H : Type} : Left H := { results := [], args := [] }

/- WHAT THE LISTED PACKAGE-LEVEL VARIABLES READ AS WHEN THE CALL BEGINS. Each datum BY PROGRAM (the guide's laid-datum.mjs) off the statement by which the dump's own 'gosem.cut.vars' lays the variable. In a bare row this is a premise. The card (YtpgdijbfkahepaaGreatDoorCards.lean) ties it to the program's text. -/
def laid_intervalmon_parser_groupWords {H : Type} : DataW H := .agg [.lit (.string [115, 117, 109]), .lit (.string [109, 105, 110]), .lit (.string [109, 97, 120]), .lit (.string [99, 111, 117, 110, 116]), .lit (.string [107, 116, 104])]
def laid_intervalmon_parser_functionWords {H : Type} : DataW H := .agg [.lit (.string [108, 97, 115, 116]), .lit (.string [108, 101, 97, 115, 116]), .lit (.string [103, 114, 101, 97, 116, 101, 115, 116]), .lit (.string [116, 111, 116, 97, 108]), .lit (.string [109, 101, 97, 110]), .lit (.string [105, 110, 99, 114, 101, 97, 115, 101]), .lit (.string [114, 97, 116, 101]), .lit (.string [107, 116, 104])]
def laid_intervalmon_parser_matchSymbols {H : Type} : DataW H := .agg [.lit (.string [61]), .lit (.string [33, 61]), .lit (.string [94, 61])]
def laid_intervalmon_parser_operators {H : Type} : DataW H := .agg [.lit (.string [43]), .lit (.string [45]), .lit (.string [42]), .lit (.string [47])]

/-- 'intervalmonlaw23.PlanUses': WHATEVER THE INPUT: true; the input reads as it did. -/
def planUsesSpec : ChangeSpec := { name := "planUses", fn := fun _ => fun
  | [d1, d2, d3, d4, d5] => { results := [.lit (.bool true)], args := [d1, d2, d3, d4, d5] }
  | _ => none }
def planUsesRow : OpenClaim := { program := "ytpgdijbfkahepaagreatdoor", sum := "eaa7622b54a8534865b6b1850cbc36cd96e5f400785920ab0e45fe26f9185ef1", func := "intervalmon/intervalmonlaw23.PlanUses", spec := "planUses", inPlace := ["internal/bytealg.IndexByteString"], unfollowed := true, recurses := true, named := ["intervalmon/parser.groupWords", "intervalmon/parser.matchSymbols", "intervalmon/parser.functionWords", "intervalmon/parser.operators"], apart := false, laid := [("intervalmon/parser.groupWords", laid_intervalmon_parser_groupWords), ("intervalmon/parser.functionWords", laid_intervalmon_parser_functionWords), ("intervalmon/parser.matchSymbols", laid_intervalmon_parser_matchSymbols), ("intervalmon/parser.operators", laid_intervalmon_parser_operators)] }
def PlanUsesSaid : Prop := planUsesRow.holds Tryz.pinned (OpenSpec.ofChange planUsesSpec)

/-- ITS FALSE NEIGHBOUR: 'it returns false'. Refute it at one input. -/
def planUsesWrong : ChangeSpec := { name := "planUses", fn := fun _ => fun
  | [d1, d2, d3, d4, d5] => { results := [.lit (.bool false)], args := [d1, d2, d3, d4, d5] }
  | _ => none }
def PlanUsesWrongFalsely : Prop := planUsesRow.holds Tryz.pinned (OpenSpec.ofChange planUsesWrong)

/- THE SECOND FORM. 'bulk': how many values and letters a reading holds, each counted each time it is reached (what is shared counts as often as it is met; a slice's spare places count too). A statement '..UptoSaid' is the law's where the arguments, and the package variables that the reading takes, are together of bulk at most 1048576: NARROWER than '..Said'. Prove '..Said' where nothing that the law and all that it calls make is longer than what came in: it says more and counts as full. Else prove '..UptoSaid'. A law counts once. -/
mutual
def uptoBulk {H : Type} : DataW H → Nat
  | .lit (.string bytes) => bytes.length + 1
  | .lit _ => 1
  | .nil => 1
  | .ptr d => uptoBulk d + 1
  | .slice elems spare => uptoBulkAll elems + uptoBulkAll spare + 1
  | .agg parts => uptoBulkAll parts + 1
  | .iface _ d => uptoBulk d + 1
  | .map entries => uptoBulkEntries entries + 1
  | .held _ => 1
def uptoBulkAll {H : Type} : List (DataW H) → Nat
  | [] => 0
  | d :: r => uptoBulk d + uptoBulkAll r
def uptoBulkEntries {H : Type} : List (Lit × DataW H) → Nat
  | [] => 0
  | x :: r => uptoBulkEntry x + uptoBulkEntries r
def uptoBulkEntry {H : Type} : Lit × DataW H → Nat
  | (.string bytes, d) => bytes.length + uptoBulk d + 1
  | (_, d) => uptoBulk d + 1
 end
def uptoSmall : (H : Type) → List (DataW H) → Bool := fun _ ds => decide (uptoBulkAll ds ≤ 1048576)
def OpenSpec.upto (s : _root_.Go.ChangeSpec) : _root_.Go.OpenSpec := { _root_.Go.OpenSpec.ofChange s with cond := some uptoSmall }

/-- 'intervalmonlaw23.PlanUses', WHERE WHAT IT READS IS OF BULK AT MOST 1048576: true; the input reads as it did. -/
def planUsesUptoRow : OpenClaim := { program := "ytpgdijbfkahepaagreatdoor", sum := "eaa7622b54a8534865b6b1850cbc36cd96e5f400785920ab0e45fe26f9185ef1", func := "intervalmon/intervalmonlaw23.PlanUses", spec := "planUses", inPlace := ["internal/bytealg.IndexByteString"], unfollowed := true, recurses := true, named := ["intervalmon/parser.groupWords", "intervalmon/parser.matchSymbols", "intervalmon/parser.functionWords", "intervalmon/parser.operators"], apart := false, laid := [("intervalmon/parser.groupWords", laid_intervalmon_parser_groupWords), ("intervalmon/parser.functionWords", laid_intervalmon_parser_functionWords), ("intervalmon/parser.matchSymbols", laid_intervalmon_parser_matchSymbols), ("intervalmon/parser.operators", laid_intervalmon_parser_operators)], narrowed := true }
def PlanUsesUptoSaid : Prop := planUsesUptoRow.holds Tryz.pinned (OpenSpec.upto planUsesSpec)

end Rows
end Go.Proofs.YtpgdijbfkahepaaGreatDoor
