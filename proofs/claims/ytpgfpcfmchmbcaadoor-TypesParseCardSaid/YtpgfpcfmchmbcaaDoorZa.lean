/- The reference's Mul and Div of units; the law's unit; the numerals 2 and 3. -/
import Derived.Test.YtpgfpcfmchmbcaaDoorYk
set_option linter.unusedVariables false
set_option linter.unusedSimpArgs false
namespace Go.Proofs.YtpgfpcfmchmbcaaDoor
open Go.RowKit

set_option maxHeartbeats 1000000 in
set_option maxRecDepth 100000 in
theorem itoa2 (w : World) : Calls Tryd.prog 17 #[.int .i64 2] w (fun e w' => e = .returned (.string ⟨#[50]⟩) ∧ w' = w) := by
  go_enter Tryd.func17, Tryd.ntmps17
  go_wp2
  go_ret
  exact ⟨by rfl, rfl⟩
set_option maxHeartbeats 1000000 in
set_option maxRecDepth 100000 in
theorem itoa3 (w : World) : Calls Tryd.prog 17 #[.int .i64 3] w (fun e w' => e = .returned (.string ⟨#[51]⟩) ∧ w' = w) := by
  go_enter Tryd.func17, Tryd.ntmps17
  go_wp2
  go_ret
  exact ⟨by rfl, rfl⟩
end Go.Proofs.YtpgfpcfmchmbcaaDoor
