/- Decimal of the reference. -/
import Derived.Test.YtinbfdfgebiaeaaDoorTm
import Derived.Laws.Concat
set_option linter.unusedVariables false
set_option linter.unusedSimpArgs false
namespace Go.Proofs.YtinbfdfgebiaeaaDoor
open Go.RowKit FracM

def bs (l : List UInt8) : ByteArray := ⟨l.toArray⟩
theorem bs_size (l : List UInt8) : (bs l).size = l.length := bsz l
theorem bs_app (a b : List UInt8) : bs a ++ bs b = bs (a ++ b) := by
  unfold bs; apply ByteArray.ext; simp
abbrev tenD : ByteArray := ⟨#[48, 49, 50, 51, 52, 53, 54, 55, 56, 57]⟩
theorem ten_at {d : Nat} (h : d < 10) : tenD.extract d (d + 1) = bs [UInt8.ofNat (48 + d)] := by
  have : d = 0 ∨ d = 1 ∨ d = 2 ∨ d = 3 ∨ d = 4 ∨ d = 5 ∨ d = 6 ∨ d = 7 ∨ d = 8 ∨ d = 9 := by omega
  rcases this with rfl | rfl | rfl | rfl | rfl | rfl | rfl | rfl | rfl | rfl <;> decide
def DecRel (n : Int) (u v : Value) : Prop :=
  ∃ (l : List UInt8) (k : Int), u = .string (bs l) ∧ v = .int .i64 k ∧ -9223372036854775808 ≤ k ∧ k ≤ 9223372036854775807 ∧ preD n.natAbs = preD k.natAbs ++ l
theorem dec_len (u : Nat) (h : u ≤ 9223372036854775808) : (preD u).length ≤ 21 := by
  by_cases h0 : u = 0
  · subst h0; simp [preD]
  · rw [preD_pos h0]
    have h1 := Lib.itoa_length_le (-(u : Int)) (by omega) (by omega)
    rw [Lib.itoa_neg u (by omega)] at h1
    simp at h1; omega
end Go.Proofs.YtinbfdfgebiaeaaDoor
