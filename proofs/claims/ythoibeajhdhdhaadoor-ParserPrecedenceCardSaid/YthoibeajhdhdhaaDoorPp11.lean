/- Contracts, packed: Qi Yh Yi Yj Qt Qj Yk Qu. -/
import Derived.Test.YthoibeajhdhdhaaDoorPp7
import Derived.Test.YthoibeajhdhdhaaDoorPp10
set_option linter.unusedVariables false
set_option linter.unusedSimpArgs false
namespace Go.Proofs.YthoibeajhdhdhaaDoor
section
open Go.RowKit
end
section
open Go.RowKit
end
section
open Go.RowKit
end
section
open Go.RowKit
end
section
open Go.RowKit FracM
end
section
open Go.RowKit
end
section
open Go.RowKit
end
section
open Go.RowKit FracM

theorem okU_in {u : U3} (h : okU u = true) : (-3 ≤ u.1 ∧ u.1 ≤ 3) ∧ (-3 ≤ u.2.1 ∧ u.2.1 ≤ 3) ∧ (-3 ≤ u.2.2 ∧ u.2.2 ≤ 3) := by
  simpa [okU, in3, and_assoc] using h
theorem sub_self (u : U3) : subU u u = u0 := by
  unfold subU u0; simp only [Int.sub_self]; rfl
theorem add_zero {u : U3} (h : okU u = true) : addU u0 u = u := by
  obtain ⟨h1, h2, h3⟩ := okU_in h
  obtain ⟨a, b, c⟩ := u
  simp only at h1 h2 h3
  unfold addU u0
  simp only [Int.zero_add]
  rw [W64_in (by omega) (by omega), W64_in (by omega) (by omega), W64_in (by omega) (by omega)]
end
end Go.Proofs.YthoibeajhdhdhaaDoor
