/- Blocks of eight digits; From, Less of the reference. -/
import Derived.Test.YtinbfdfgebiaeaaDoorNm
import Derived.Test.YtinbfdfgebiaeaaDoorFa
set_option linter.unusedVariables false
set_option linter.unusedSimpArgs false
namespace Go.Proofs.YtinbfdfgebiaeaaDoor
open Go.RowKit DigM

/-- eight cells -/
abbrev d8 (f : Nat → Nat) : Array Value := #[.int .u64 (f 0 : Nat), .int .u64 (f 1 : Nat), .int .u64 (f 2 : Nat), .int .u64 (f 3 : Nat), .int .u64 (f 4 : Nat), .int .u64 (f 5 : Nat), .int .u64 (f 6 : Nat), .int .u64 (f 7 : Nat)]
/-- the number n as a value -/
abbrev nv (n : Nat) : Value := .agg (d8 (dg n))
theorem d8_congr {f g : Nat → Nat} (h : ∀ j, j < 8 → f j = g j) : d8 f = d8 g := by
  simp only [d8, h 0 (by omega), h 1 (by omega), h 2 (by omega), h 3 (by omega), h 4 (by omega), h 5 (by omega), h 6 (by omega), h 7 (by omega)]
theorem lt8 {j : Nat} (h : j < 8) : j = 0 ∨ j = 1 ∨ j = 2 ∨ j = 3 ∨ j = 4 ∨ j = 5 ∨ j = 6 ∨ j = 7 := by omega
/-- the call gives the number n -/
def RetN (n : Nat) (w : World) (e : Ending) (w' : World) : Prop := e = .returned (nv n) ∧ Below w.heap.size w w'

theorem from_cells (n : Nat) (h : n < 18446744073709551616) : nv n = .agg #[.int .u64 ((n % 4294967296 : Nat) : Int), .int .u64 ((n / 4294967296 : Nat) : Int), .int .u64 0, .int .u64 0, .int .u64 0, .int .u64 0, .int .u64 0, .int .u64 0] := by
  simp [nv, d8, dg_from n _ h]

/-- what Less answers -/
def lessN (a b : Nat) : Int := if a < b then -1 else if b < a then 1 else 0
end Go.Proofs.YtinbfdfgebiaeaaDoor
