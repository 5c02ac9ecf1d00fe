/- Units: Mul and Div of package types. -/
import Derived.Test.YtpgfpcfmchmbcaaDoorBk
import Derived.Deep.RegionHeld3
import Derived.Deep.DeepCutAuto
set_option linter.unusedVariables false
set_option linter.unusedSimpArgs false
namespace Go.Proofs.YtpgfpcfmchmbcaaDoor
open Go.RowKit

def W64 (x : Int) : Int := IntKind.i64.wrap x
theorem W64_eq (x : Int) : W64 x = (x + 9223372036854775808) % 18446744073709551616 - 9223372036854775808 := by
  simp [W64, IntKind.wrap, IntKind.bits, IntKind.signed]; omega
theorem W64_in {x : Int} (h1 : -9223372036854775808 ≤ x) (h2 : x ≤ 9223372036854775807) : W64 x = x := by rw [W64_eq]; omega
theorem W64_bd (x : Int) : -9223372036854775808 ≤ W64 x ∧ W64 x ≤ 9223372036854775807 := by rw [W64_eq]; omega
theorem W64_addl (x y : Int) : W64 (W64 x + y) = W64 (x + y) := by simp only [W64_eq]; omega
theorem W64_addr (x y : Int) : W64 (x + W64 y) = W64 (x + y) := by simp only [W64_eq]; omega
theorem W64_subl (x y : Int) : W64 (W64 x - y) = W64 (x - y) := by simp only [W64_eq]; omega
theorem W64_comm (x y : Int) : W64 (x + y) = W64 (y + x) := by rw [Int.add_comm]
theorem W64_assoc (x y z : Int) : W64 (W64 (x + y) + z) = W64 (x + W64 (y + z)) := by rw [W64_addl, W64_addr, Int.add_assoc]
theorem W64_undo {x y : Int} (h1 : -9223372036854775808 ≤ x) (h2 : x ≤ 9223372036854775807) : W64 (W64 (x + y) - y) = x := by
  rw [W64_subl, Int.add_sub_cancel, W64_in h1 h2]
theorem W64_redo {x y : Int} (h1 : -9223372036854775808 ≤ x) (h2 : x ≤ 9223372036854775807) : W64 (W64 (x - y) + y) = x := by
  rw [W64_addl, Int.sub_add_cancel, W64_in h1 h2]
end Go.Proofs.YtpgfpcfmchmbcaaDoor
