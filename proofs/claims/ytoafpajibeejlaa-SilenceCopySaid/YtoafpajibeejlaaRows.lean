/-
  No cell of these rows narrows 'for every input' (looked for: loops, veiled, ifaces, maps, wideKeys, modest, calm, conditions, laid).
  DERIVED. THE GIVEN ROWS OF THIS SEAT. 8 by the template 'for every input the law returns true; each argument reads behind the call as it read before'; 0 by the template 'total and deterministic' (their statements: YtoafpajibeejlaaTotals.lean).
  GIVEN WITH THE SEED: the statements are not yours to turn. If you find one false, say at which input.
  Laid BY PROGRAM, IN A SANDBOX (cutbox-rows.mjs): the forced cells as the released guide's own fill.sh prints them over the translation fe88a10c4ee1199b… (all of the seat's roots in one cut). By AI agents, Wed Nov 11 2026. No macro, syntax, notation, axiom, sorry.
-/
import Derived.Test.YtoafpajibeejlaaChecked
import GoSem.Claim
import GoSem.ClaimJoined
import GoSem.ClaimMapViews
import Derived.JoinedTies
import Derived.KernelRfl
namespace Go.Proofs.Ytoafpajibeejlaa
/- THE CELL 'sum', in the pinned program and in every row, IS THE sha256 OF THE DUMP (.gsa) THAT YtoafpajibeejlaaProg.lean LOADS. Nothing in Lean hashes anything: it is a label: what it is worth is what the hold of that sum in a sandbox is worth. -/
noncomputable def Try.pinned : Pinned := { name := "ytoafpajibeejlaa", sum := "fe88a10c4ee1199b0d59b805e6a3a3712c2a33b0a2eafcea966925ada2505028", checked := Try.checked }
namespace Rows
def none {H : Type} : Left H := { results := [], args := [] }

/-- 'intervalmonlaw30.SilenceOpen': WHATEVER THE INPUT: true; the input reads as it did. -/
def silenceOpenSpec : ChangeSpec := { name := "silenceOpen", fn := fun _ => fun
  | [d1, d2, d3, d4, d5] => { results := [.lit (.bool true)], args := [d1, d2, d3, d4, d5] }
  | _ => none }
def silenceOpenRow : OpenClaim := { program := "ytoafpajibeejlaa", sum := "fe88a10c4ee1199b0d59b805e6a3a3712c2a33b0a2eafcea966925ada2505028", func := "intervalmon/intervalmonlaw30.SilenceOpen", spec := "silenceOpen", unfollowed := true, recurses := true, apart := false }
def SilenceOpenSaid : Prop := silenceOpenRow.holds Try.pinned (OpenSpec.ofChange silenceOpenSpec)

/-- ITS FALSE NEIGHBOUR: 'it returns false'. Refute it at one input. -/
def silenceOpenWrong : ChangeSpec := { name := "silenceOpen", fn := fun _ => fun
  | [d1, d2, d3, d4, d5] => { results := [.lit (.bool false)], args := [d1, d2, d3, d4, d5] }
  | _ => none }
def SilenceOpenWrongFalsely : Prop := silenceOpenRow.holds Try.pinned (OpenSpec.ofChange silenceOpenWrong)

/-- 'intervalmonlaw30.SilenceCovers': WHATEVER THE INPUT: true; the input reads as it did. -/
def silenceCoversSpec : ChangeSpec := { name := "silenceCovers", fn := fun _ => fun
  | [d1, d2, d3, d4, d5] => { results := [.lit (.bool true)], args := [d1, d2, d3, d4, d5] }
  | _ => none }
def silenceCoversRow : OpenClaim := { program := "ytoafpajibeejlaa", sum := "fe88a10c4ee1199b0d59b805e6a3a3712c2a33b0a2eafcea966925ada2505028", func := "intervalmon/intervalmonlaw30.SilenceCovers", spec := "silenceCovers", unfollowed := true, recurses := true, apart := false }
def SilenceCoversSaid : Prop := silenceCoversRow.holds Try.pinned (OpenSpec.ofChange silenceCoversSpec)

/-- ITS FALSE NEIGHBOUR: 'it returns false'. Refute it at one input. -/
def silenceCoversWrong : ChangeSpec := { name := "silenceCovers", fn := fun _ => fun
  | [d1, d2, d3, d4, d5] => { results := [.lit (.bool false)], args := [d1, d2, d3, d4, d5] }
  | _ => none }
def SilenceCoversWrongFalsely : Prop := silenceCoversRow.holds Try.pinned (OpenSpec.ofChange silenceCoversWrong)

/-- 'intervalmonlaw30.SilenceExpires': WHATEVER THE INPUT: true; the input reads as it did. -/
def silenceExpiresSpec : ChangeSpec := { name := "silenceExpires", fn := fun _ => fun
  | [d1, d2, d3] => { results := [.lit (.bool true)], args := [d1, d2, d3] }
  | _ => none }
def silenceExpiresRow : OpenClaim := { program := "ytoafpajibeejlaa", sum := "fe88a10c4ee1199b0d59b805e6a3a3712c2a33b0a2eafcea966925ada2505028", func := "intervalmon/intervalmonlaw30.SilenceExpires", spec := "silenceExpires", unfollowed := true, recurses := true, apart := false }
def SilenceExpiresSaid : Prop := silenceExpiresRow.holds Try.pinned (OpenSpec.ofChange silenceExpiresSpec)

/-- ITS FALSE NEIGHBOUR: 'it returns false'. Refute it at one input. -/
def silenceExpiresWrong : ChangeSpec := { name := "silenceExpires", fn := fun _ => fun
  | [d1, d2, d3] => { results := [.lit (.bool false)], args := [d1, d2, d3] }
  | _ => none }
def SilenceExpiresWrongFalsely : Prop := silenceExpiresRow.holds Try.pinned (OpenSpec.ofChange silenceExpiresWrong)

/-- 'intervalmonlaw30.SilenceLimit': WHATEVER THE INPUT: true; the input reads as it did. -/
def silenceLimitSpec : ChangeSpec := { name := "silenceLimit", fn := fun _ => fun
  | [d1, d2, d3] => { results := [.lit (.bool true)], args := [d1, d2, d3] }
  | _ => none }
def silenceLimitRow : OpenClaim := { program := "ytoafpajibeejlaa", sum := "fe88a10c4ee1199b0d59b805e6a3a3712c2a33b0a2eafcea966925ada2505028", func := "intervalmon/intervalmonlaw30.SilenceLimit", spec := "silenceLimit", unfollowed := true, recurses := true, apart := false }
def SilenceLimitSaid : Prop := silenceLimitRow.holds Try.pinned (OpenSpec.ofChange silenceLimitSpec)

/-- ITS FALSE NEIGHBOUR: 'it returns false'. Refute it at one input. -/
def silenceLimitWrong : ChangeSpec := { name := "silenceLimit", fn := fun _ => fun
  | [d1, d2, d3] => { results := [.lit (.bool false)], args := [d1, d2, d3] }
  | _ => none }
def SilenceLimitWrongFalsely : Prop := silenceLimitRow.holds Try.pinned (OpenSpec.ofChange silenceLimitWrong)

/-- 'intervalmonlaw30.SilenceCap': WHATEVER THE INPUT: true; the input reads as it did. -/
def silenceCapSpec : ChangeSpec := { name := "silenceCap", fn := fun _ => fun
  | [d] => { results := [.lit (.bool true)], args := [d] }
  | _ => none }
def silenceCapRow : OpenClaim := { program := "ytoafpajibeejlaa", sum := "fe88a10c4ee1199b0d59b805e6a3a3712c2a33b0a2eafcea966925ada2505028", func := "intervalmon/intervalmonlaw30.SilenceCap", spec := "silenceCap", unfollowed := true, recurses := true, apart := false }
def SilenceCapSaid : Prop := silenceCapRow.holds Try.pinned (OpenSpec.ofChange silenceCapSpec)

/-- ITS FALSE NEIGHBOUR: 'it returns false'. Refute it at one input. -/
def silenceCapWrong : ChangeSpec := { name := "silenceCap", fn := fun _ => fun
  | [d] => { results := [.lit (.bool false)], args := [d] }
  | _ => none }
def SilenceCapWrongFalsely : Prop := silenceCapRow.holds Try.pinned (OpenSpec.ofChange silenceCapWrong)

/-- 'intervalmonlaw30.SilenceLeast': WHATEVER THE INPUT: true; the input reads as it did. -/
def silenceLeastSpec : ChangeSpec := { name := "silenceLeast", fn := fun _ => fun
  | [d] => { results := [.lit (.bool true)], args := [d] }
  | _ => none }
def silenceLeastRow : OpenClaim := { program := "ytoafpajibeejlaa", sum := "fe88a10c4ee1199b0d59b805e6a3a3712c2a33b0a2eafcea966925ada2505028", func := "intervalmon/intervalmonlaw30.SilenceLeast", spec := "silenceLeast", unfollowed := true, recurses := true, apart := false }
def SilenceLeastSaid : Prop := silenceLeastRow.holds Try.pinned (OpenSpec.ofChange silenceLeastSpec)

/-- ITS FALSE NEIGHBOUR: 'it returns false'. Refute it at one input. -/
def silenceLeastWrong : ChangeSpec := { name := "silenceLeast", fn := fun _ => fun
  | [d] => { results := [.lit (.bool false)], args := [d] }
  | _ => none }
def SilenceLeastWrongFalsely : Prop := silenceLeastRow.holds Try.pinned (OpenSpec.ofChange silenceLeastWrong)

/-- 'intervalmonlaw30.SilenceScript': WHATEVER THE INPUT: true; the input reads as it did. -/
def silenceScriptSpec : ChangeSpec := { name := "silenceScript", fn := fun _ => fun
  | [d] => { results := [.lit (.bool true)], args := [d] }
  | _ => none }
def silenceScriptRow : OpenClaim := { program := "ytoafpajibeejlaa", sum := "fe88a10c4ee1199b0d59b805e6a3a3712c2a33b0a2eafcea966925ada2505028", func := "intervalmon/intervalmonlaw30.SilenceScript", spec := "silenceScript", unfollowed := true, recurses := true, apart := false }
def SilenceScriptSaid : Prop := silenceScriptRow.holds Try.pinned (OpenSpec.ofChange silenceScriptSpec)

/-- ITS FALSE NEIGHBOUR: 'it returns false'. Refute it at one input. -/
def silenceScriptWrong : ChangeSpec := { name := "silenceScript", fn := fun _ => fun
  | [d] => { results := [.lit (.bool false)], args := [d] }
  | _ => none }
def SilenceScriptWrongFalsely : Prop := silenceScriptRow.holds Try.pinned (OpenSpec.ofChange silenceScriptWrong)

/-- 'intervalmonlaw30.SilenceCopy': WHATEVER THE INPUT: true; the input reads as it did. -/
def silenceCopySpec : ChangeSpec := { name := "silenceCopy", fn := fun _ => fun
  | [d1, d2] => { results := [.lit (.bool true)], args := [d1, d2] }
  | _ => none }
def silenceCopyRow : OpenClaim := { program := "ytoafpajibeejlaa", sum := "fe88a10c4ee1199b0d59b805e6a3a3712c2a33b0a2eafcea966925ada2505028", func := "intervalmon/intervalmonlaw30.SilenceCopy", spec := "silenceCopy", unfollowed := true, recurses := true, apart := false }
def SilenceCopySaid : Prop := silenceCopyRow.holds Try.pinned (OpenSpec.ofChange silenceCopySpec)

/-- ITS FALSE NEIGHBOUR: 'it returns false'. Refute it at one input. -/
def silenceCopyWrong : ChangeSpec := { name := "silenceCopy", fn := fun _ => fun
  | [d1, d2] => { results := [.lit (.bool false)], args := [d1, d2] }
  | _ => none }
def SilenceCopyWrongFalsely : Prop := silenceCopyRow.holds Try.pinned (OpenSpec.ofChange silenceCopyWrong)

/- THE SECOND FORM. 'bulk': how many values and letters a reading holds, each counted each time it is reached (what is shared counts as often as it is met; a slice's spare places count too). A statement '..UptoSaid' is the law's where the arguments, and the package variables that the reading takes, are together of bulk at most 1048576: NARROWER than '..Said'. Prove '..Said' where nothing that the law and all that it calls make is longer than what came in: it says more and counts as full. Else prove '..UptoSaid'. A law counts once. -/
mutual
def uptoBulk {H : Type} : DataW H → Nat
  | .lit (.string bytes) => bytes.length + 1
  | .lit _ => 1
  | .nil => 1
  | .ptr d => uptoBulk d + 1
  | .slice elems spare => uptoBulkAll elems + uptoBulkAll spare + 1
  | .agg parts => uptoBulkAll parts + 1
  | .iface _ d => uptoBulk d + 1
  | .map entries => uptoBulkEntries entries + 1
  | .held _ => 1
def uptoBulkAll {H : Type} : List (DataW H) → Nat
  | [] => 0
  | d :: r => uptoBulk d + uptoBulkAll r
def uptoBulkEntries {H : Type} : List (Lit × DataW H) → Nat
  | [] => 0
  | x :: r => uptoBulkEntry x + uptoBulkEntries r
def uptoBulkEntry {H : Type} : Lit × DataW H → Nat
  | (.string bytes, d) => bytes.length + uptoBulk d + 1
  | (_, d) => uptoBulk d + 1
 end
def uptoSmall : (H : Type) → List (DataW H) → Bool := fun _ ds => decide (uptoBulkAll ds ≤ 1048576)
def OpenSpec.upto (s : _root_.Go.ChangeSpec) : _root_.Go.OpenSpec := { _root_.Go.OpenSpec.ofChange s with cond := some uptoSmall }

/-- 'intervalmonlaw30.SilenceOpen', WHERE WHAT IT READS IS OF BULK AT MOST 1048576: true; the input reads as it did. -/
def silenceOpenUptoRow : OpenClaim := { program := "ytoafpajibeejlaa", sum := "fe88a10c4ee1199b0d59b805e6a3a3712c2a33b0a2eafcea966925ada2505028", func := "intervalmon/intervalmonlaw30.SilenceOpen", spec := "silenceOpen", unfollowed := true, recurses := true, apart := false, narrowed := true }
def SilenceOpenUptoSaid : Prop := silenceOpenUptoRow.holds Try.pinned (OpenSpec.upto silenceOpenSpec)

/-- 'intervalmonlaw30.SilenceCovers', WHERE WHAT IT READS IS OF BULK AT MOST 1048576: true; the input reads as it did. -/
def silenceCoversUptoRow : OpenClaim := { program := "ytoafpajibeejlaa", sum := "fe88a10c4ee1199b0d59b805e6a3a3712c2a33b0a2eafcea966925ada2505028", func := "intervalmon/intervalmonlaw30.SilenceCovers", spec := "silenceCovers", unfollowed := true, recurses := true, apart := false, narrowed := true }
def SilenceCoversUptoSaid : Prop := silenceCoversUptoRow.holds Try.pinned (OpenSpec.upto silenceCoversSpec)

/-- 'intervalmonlaw30.SilenceExpires', WHERE WHAT IT READS IS OF BULK AT MOST 1048576: true; the input reads as it did. -/
def silenceExpiresUptoRow : OpenClaim := { program := "ytoafpajibeejlaa", sum := "fe88a10c4ee1199b0d59b805e6a3a3712c2a33b0a2eafcea966925ada2505028", func := "intervalmon/intervalmonlaw30.SilenceExpires", spec := "silenceExpires", unfollowed := true, recurses := true, apart := false, narrowed := true }
def SilenceExpiresUptoSaid : Prop := silenceExpiresUptoRow.holds Try.pinned (OpenSpec.upto silenceExpiresSpec)

/-- 'intervalmonlaw30.SilenceLimit', WHERE WHAT IT READS IS OF BULK AT MOST 1048576: true; the input reads as it did. -/
def silenceLimitUptoRow : OpenClaim := { program := "ytoafpajibeejlaa", sum := "fe88a10c4ee1199b0d59b805e6a3a3712c2a33b0a2eafcea966925ada2505028", func := "intervalmon/intervalmonlaw30.SilenceLimit", spec := "silenceLimit", unfollowed := true, recurses := true, apart := false, narrowed := true }
def SilenceLimitUptoSaid : Prop := silenceLimitUptoRow.holds Try.pinned (OpenSpec.upto silenceLimitSpec)

/-- 'intervalmonlaw30.SilenceCap', WHERE WHAT IT READS IS OF BULK AT MOST 1048576: true; the input reads as it did. -/
def silenceCapUptoRow : OpenClaim := { program := "ytoafpajibeejlaa", sum := "fe88a10c4ee1199b0d59b805e6a3a3712c2a33b0a2eafcea966925ada2505028", func := "intervalmon/intervalmonlaw30.SilenceCap", spec := "silenceCap", unfollowed := true, recurses := true, apart := false, narrowed := true }
def SilenceCapUptoSaid : Prop := silenceCapUptoRow.holds Try.pinned (OpenSpec.upto silenceCapSpec)

/-- 'intervalmonlaw30.SilenceLeast', WHERE WHAT IT READS IS OF BULK AT MOST 1048576: true; the input reads as it did. -/
def silenceLeastUptoRow : OpenClaim := { program := "ytoafpajibeejlaa", sum := "fe88a10c4ee1199b0d59b805e6a3a3712c2a33b0a2eafcea966925ada2505028", func := "intervalmon/intervalmonlaw30.SilenceLeast", spec := "silenceLeast", unfollowed := true, recurses := true, apart := false, narrowed := true }
def SilenceLeastUptoSaid : Prop := silenceLeastUptoRow.holds Try.pinned (OpenSpec.upto silenceLeastSpec)

/-- 'intervalmonlaw30.SilenceScript', WHERE WHAT IT READS IS OF BULK AT MOST 1048576: true; the input reads as it did. -/
def silenceScriptUptoRow : OpenClaim := { program := "ytoafpajibeejlaa", sum := "fe88a10c4ee1199b0d59b805e6a3a3712c2a33b0a2eafcea966925ada2505028", func := "intervalmon/intervalmonlaw30.SilenceScript", spec := "silenceScript", unfollowed := true, recurses := true, apart := false, narrowed := true }
def SilenceScriptUptoSaid : Prop := silenceScriptUptoRow.holds Try.pinned (OpenSpec.upto silenceScriptSpec)

/-- 'intervalmonlaw30.SilenceCopy', WHERE WHAT IT READS IS OF BULK AT MOST 1048576: true; the input reads as it did. -/
def silenceCopyUptoRow : OpenClaim := { program := "ytoafpajibeejlaa", sum := "fe88a10c4ee1199b0d59b805e6a3a3712c2a33b0a2eafcea966925ada2505028", func := "intervalmon/intervalmonlaw30.SilenceCopy", spec := "silenceCopy", unfollowed := true, recurses := true, apart := false, narrowed := true }
def SilenceCopyUptoSaid : Prop := silenceCopyUptoRow.holds Try.pinned (OpenSpec.upto silenceCopySpec)

end Rows
end Go.Proofs.Ytoafpajibeejlaa
