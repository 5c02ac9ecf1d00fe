/- Uint of the reader of package wire. -/
import Derived.Test.YtinbfdfgebiaeaaDoorHe
set_option linter.unusedVariables false
set_option linter.unusedSimpArgs false
namespace Go.Proofs.YtinbfdfgebiaeaaDoor
open Go.RowKit

theorem drop_step {α : Type} {l : List α} {k : Nat} {x : α} {r : List α} (h : l.drop k = x :: r) : l[k]? = some x ∧ l.drop (k + 1) = r := by
  have h1 : (l.drop k)[0]? = some x := by rw [h]; rfl
  rw [List.getElem?_drop, Nat.add_zero] at h1
  refine ⟨h1, ?_⟩
  rw [← List.drop_drop, h]; rfl
/-- what has been read and what is left of a number -/
structure UR (n i acc m : Nat) : Prop where
  i9 : i ≤ 9
  lt : acc < 2 ^ (7 * i)
  sum : n = acc + m * 2 ^ (7 * i)
  pos : i = 0 ∨ m ≠ 0
theorem UR.small {n i acc m : Nat} (h : UR n i acc m) (hn : n < 18446744073709551616) (h9 : i = 9) : m < 2 := by
  have hs := h.sum
  rw [h9] at hs
  omega
theorem UR.step {n i acc m : Nat} (h : UR n i acc m) (hn : n < 18446744073709551616) (hm : ¬ m < 128) : UR n (i + 1) (acc + m % 128 * 2 ^ (7 * i)) (m / 128) := by
  have hi : i < 9 := by
    rcases Nat.lt_or_ge i 9 with h9 | h9
    · exact h9
    · have : i = 9 := by have := h.i9; omega
      have := h.small hn this; omega
  have hlt := h.lt
  have e : 2 ^ (7 * (i + 1)) = 128 * 2 ^ (7 * i) := by rw [Nat.mul_add, Nat.pow_add, Nat.mul_comm]
  have hm1 : m % 128 * 2 ^ (7 * i) ≤ 127 * 2 ^ (7 * i) := Nat.mul_le_mul_right _ (by omega)
  refine ⟨by omega, by rw [e]; omega, ?_, .inr (by omega)⟩
  rw [e, h.sum]
  have : m = m % 128 + 128 * (m / 128) := by omega
  have h2 : m * 2 ^ (7 * i) = m % 128 * 2 ^ (7 * i) + m / 128 * (128 * 2 ^ (7 * i)) := by
    conv => lhs; rw [this]
    rw [Nat.add_mul, Nat.mul_comm 128 (m / 128), Nat.mul_assoc]
  omega
/-- a set of bits beside another -/
theorem or_add (i acc y : Nat) (h9 : i ≤ 9) (h : acc < 2 ^ (7 * i)) (hy : acc + y * 2 ^ (7 * i) < 18446744073709551616) : bits .or .u64 (acc : Int) ((y : Int) * 2 ^ (7 * i) % 18446744073709551616) = ((acc + y * 2 ^ (7 * i) : Nat) : Int) := by
  have hy2 : y * 2 ^ (7 * i) < 18446744073709551616 := by omega
  have e : (y : Int) * 2 ^ (7 * i) % 18446744073709551616 = ((y * 2 ^ (7 * i) : Nat) : Int) := by
    rw [show (y : Int) * 2 ^ (7 * i) = ((y * 2 ^ (7 * i) : Nat) : Int) by simp]
    omega
  rw [e]
  have ha : acc < 18446744073709551616 := by omega
  unfold bits
  simp only
  have hb : (BitVec.ofInt IntKind.u64.bits (acc : Int) ||| BitVec.ofInt IntKind.u64.bits ((y * 2 ^ (7 * i) : Nat) : Int)).toNat = acc + y * 2 ^ (7 * i) := by
    rw [BitVec.toNat_or, BitVec.ofInt_natCast, BitVec.ofInt_natCast, BitVec.toNat_ofNat, BitVec.toNat_ofNat]
    rw [Nat.mod_eq_of_lt (by simpa [IntKind.bits] using ha), Nat.mod_eq_of_lt (by simpa [IntKind.bits] using hy2)]
    rw [Nat.or_comm, Nat.add_comm, ← Nat.shiftLeft_eq, Nat.shiftLeft_add_eq_or_of_lt h]
  rw [hb, IntKind.wrap_u64]
  omega
theorem or_step (i acc x : Nat) (hx : x < 256) (h9 : i ≤ 9) (h : acc < 2 ^ (7 * i)) (hy : acc + x % 128 * 2 ^ (7 * i) < 18446744073709551616) :
    bits .or .u64 (acc : Int) (IntKind.u64.wrap (IntKind.u64.wrap (bits .and .u8 (x : Int) 127) * 2 ^ (7 * i))) = ((acc + x % 128 * 2 ^ (7 * i) : Nat) : Int) := by
  rw [and127 x hx, IntKind.wrap_u64, IntKind.wrap_u64, show ((x % 128 : Nat) : Int) % 18446744073709551616 = ((x % 128 : Nat) : Int) by omega]
  exact or_add i acc (x % 128) h9 h hy
end Go.Proofs.YtinbfdfgebiaeaaDoor
