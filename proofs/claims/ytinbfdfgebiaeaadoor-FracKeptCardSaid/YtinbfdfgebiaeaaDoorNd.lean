/- half, Times of the reference. -/
import Derived.Test.YtinbfdfgebiaeaaDoorNc
set_option linter.unusedVariables false
set_option linter.unusedSimpArgs false
namespace Go.Proofs.YtinbfdfgebiaeaaDoor
open Go.RowKit DigM

theorem dg_add_pow (x c i j : Nat) (h : j < i) : dg (x + 4294967296 ^ i * c) j = dg x j := by
  unfold dg
  obtain ⟨m, rfl⟩ : ∃ m, i = j + 1 + m := ⟨i - (j + 1), by omega⟩
  rw [show x + 4294967296 ^ (j + 1 + m) * c = x + 4294967296 ^ j * (4294967296 * (4294967296 ^ m * c)) by rw [Nat.pow_add, Nat.pow_succ]; grind, Nat.add_mul_div_left _ _ (pow_pos' j), Nat.add_mul_mod_self_left]
theorem tx_low (a b i j : Nat) (h : j < i) : dg (tx a b (i + 1)) j = dg (tx a b i) j := by
  rw [← tx_succ, Nat.mul_assoc]; exact dg_add_pow _ _ _ _ h
theorem mx_row (a b i j : Nat) : dg (tx a b i) j = mx (tx a b (i + 1)) (tx a b i) (i + 0) j := by
  unfold mx
  split
  · rename_i h; exact (tx_low _ _ _ _ (by omega)).symm
  · rfl
theorem row_dg (a b i k : Nat) : (ty (tx a b i) a b i k + dg (tx a b i) (i + k) + dg a i * dg b k) % 4294967296 = dg (tx a b (i + 1)) (i + k) := by
  rw [times_dg, tx_succ]
end Go.Proofs.YtinbfdfgebiaeaaDoor
