/- Numbers of package wire, mixing of package hash: what they compute; no program in sight. -/
import Derived.Test.YtinbfdfgebiaeaaDoorBk
import Derived.Laws.Bits64
import Derived.Laws.BitsLemmas
set_option linter.unusedVariables false
set_option linter.unusedSimpArgs false
namespace Go.Proofs.YtinbfdfgebiaeaaDoor
open Go.RowKit

def zig (n : Int) : Nat := if 0 ≤ n then (2 * n).toNat else (-2 * n - 1).toNat
def zag (z : Nat) : Int := if z % 2 = 0 then ((z / 2 : Nat) : Int) else -((z / 2 : Nat) : Int) - 1
theorem zig_lt {n : Int} (h1 : -9223372036854775808 ≤ n) (h2 : n ≤ 9223372036854775807) : zig n < 18446744073709551616 := by
  unfold zig; split <;> omega
theorem zag_zig (n : Int) : zag (zig n) = n := by
  unfold zag zig
  by_cases h : 0 ≤ n
  · rw [if_pos h, if_pos (by omega)]; omega
  · rw [if_neg h, if_neg (by omega)]; omega
theorem xor_ones (a : Nat) (ha : a < 18446744073709551616) : a ^^^ 18446744073709551615 = 18446744073709551615 - a := by
  have h := congrArg BitVec.toNat (BitVec.xor_allOnes (x := BitVec.ofNat 64 a))
  rw [BitVec.toNat_xor, BitVec.toNat_not, BitVec.toNat_ofNat, Nat.mod_eq_of_lt (by simpa using ha)] at h
  simpa using h
/-- the zigzag form, as the program computes it -/
theorem zig_eq {n : Int} (h1 : -9223372036854775808 ≤ n) (h2 : n ≤ 9223372036854775807) : bits .xor .u64 (n * 2 % 18446744073709551616) (n / 9223372036854775808 % 18446744073709551616) = (zig n : Nat) := by
  by_cases h : 0 ≤ n
  · have e1 : n * 2 % 18446744073709551616 = ((2 * n).toNat : Nat) := by omega
    have e2 : n / 9223372036854775808 % 18446744073709551616 = ((0 : Nat) : Int) := by omega
    rw [e1, e2, bits_xor_u64_nat _ _ (by omega) (by omega), Nat.xor_zero]
    unfold zig; rw [if_pos h]
  · have e1 : n * 2 % 18446744073709551616 = ((18446744073709551616 + 2 * n).toNat : Nat) := by omega
    have e2 : n / 9223372036854775808 % 18446744073709551616 = ((18446744073709551615 : Nat) : Int) := by omega
    rw [e1, e2, bits_xor_u64_nat _ _ (by omega) (by omega), xor_ones _ (by omega)]
    unfold zig; rw [if_neg h]; omega
def uv (n : Nat) : List Nat := if n < 128 then [n] else (n % 128 + 128) :: uv (n / 128)
termination_by n
theorem uv_small {n : Nat} (h : n < 128) : uv n = [n] := by rw [uv, if_pos h]
theorem uv_big {n : Nat} (h : ¬ n < 128) : uv n = (n % 128 + 128) :: uv (n / 128) := by rw [uv, if_neg h]
theorem uv_byte (n : Nat) : ∀ x ∈ uv n, x < 256 := by
  induction n using Nat.strongRecOn with
  | _ n ih =>
    intro x hx
    by_cases h : n < 128
    · rw [uv_small h] at hx; simp at hx; omega
    · rw [uv_big h] at hx
      rcases List.mem_cons.1 hx with rfl | hx
      · omega
      · exact ih _ (by omega) x hx
theorem uv_ne (n : Nat) : uv n ≠ [] := by
  by_cases h : n < 128
  · rw [uv_small h]; simp
  · rw [uv_big h]; simp
theorem uv_len (k : Nat) : ∀ n, n < 128 ^ (k + 1) → (uv n).length ≤ k + 1 := by
  induction k with
  | zero => intro n h; rw [uv_small (by simpa using h)]; simp
  | succ k ih =>
    intro n h
    by_cases h1 : n < 128
    · rw [uv_small h1]; simp
    · rw [uv_big h1]
      have := ih (n / 128) (by rw [Nat.pow_succ] at h; exact Nat.div_lt_of_lt_mul (by rw [Nat.mul_comm]; exact h))
      simp; omega
theorem or128 (x : Nat) (h : x < 256) : bits .or .u8 (x : Int) 128 = ((x % 128 + 128 : Nat) : Int) := by
  have : ∀ y : Fin 256, bits .or .u8 ((y.1 : Nat) : Int) 128 = ((y.1 % 128 + 128 : Nat) : Int) := by decide +kernel
  exact this ⟨x, h⟩
theorem and127 (x : Nat) (h : x < 256) : bits .and .u8 (x : Int) 127 = ((x % 128 : Nat) : Int) := by
  have : ∀ y : Fin 256, bits .and .u8 ((y.1 : Nat) : Int) 127 = ((y.1 % 128 : Nat) : Int) := by decide +kernel
  exact this ⟨x, h⟩

abbrev fac : Nat := 11400714819323198485
abbrev two64 : Nat := 18446744073709551616
def mixN (s w : Nat) : Nat := ((s ^^^ w) * fac % two64) ^^^ ((s ^^^ w) * fac % two64) / 4294967296
theorem mix_lt (s w : Nat) : mixN s w < two64 := by
  unfold mixN
  have h1 : (s ^^^ w) * fac % two64 < 2 ^ 64 := Nat.mod_lt _ (by decide)
  have h2 : ((s ^^^ w) * fac % two64) / 4294967296 < 2 ^ 64 := Nat.lt_of_le_of_lt (Nat.div_le_self _ _) h1
  exact Nat.xor_lt_two_pow h1 h2
/-- the second half of the mixing undoes itself -/
theorem half_inv (x : Nat) (hx : x < two64) : (x ^^^ x / 4294967296) ^^^ (x ^^^ x / 4294967296) / 4294967296 = x := by
  have e : ∀ y : Nat, y / 4294967296 = y >>> 32 := fun y => by rw [Nat.shiftRight_eq_div_pow]
  rw [e, e]
  apply Nat.eq_of_testBit_eq
  intro i
  simp only [Nat.testBit_xor, Nat.testBit_shiftRight]
  have h : x.testBit (32 + (32 + i)) = false := Nat.testBit_lt_two_pow (Nat.lt_of_lt_of_le hx (by rw [show two64 = 2 ^ 64 from rfl]; exact Nat.pow_le_pow_right (by omega) (by omega)))
  rw [h]
  cases x.testBit i <;> cases x.testBit (32 + i) <;> rfl
abbrev inv : Nat := 17428512612931826493
theorem fac_inv : fac * inv % two64 = 1 := by decide +kernel
theorem mul_inj {x y : Nat} (hx : x < two64) (hy : y < two64) (h : x * fac % two64 = y * fac % two64) : x = y := by
  have k : ∀ z, z < two64 → (z * fac % two64) * inv % two64 = z := fun z hz => by
    rw [Nat.mod_mul_mod, Nat.mul_assoc, Nat.mul_mod, fac_inv, Nat.mul_one, Nat.mod_mod, Nat.mod_eq_of_lt hz]
  rw [← k x hx, ← k y hy, h]
theorem mix_inj {s w s' w' : Nat} (h1 : s < two64) (h2 : w < two64) (h3 : s' < two64) (h4 : w' < two64) (h : mixN s w = mixN s' w') : s ^^^ w = s' ^^^ w' := by
  have hm : ∀ z, z * fac % two64 < two64 := fun z => Nat.mod_lt _ (by decide)
  have h5 : (s ^^^ w) * fac % two64 = (s' ^^^ w') * fac % two64 := by
    rw [← half_inv _ (hm (s ^^^ w)), ← half_inv _ (hm (s' ^^^ w'))]
    unfold mixN at h
    rw [h]
  exact mul_inj (Nat.xor_lt_two_pow (n := 64) h1 h2) (Nat.xor_lt_two_pow (n := 64) h3 h4) h5
theorem xor_inj {x a b : Nat} (h : x ^^^ a = x ^^^ b) : a = b := by
  have := congrArg (fun z => x ^^^ z) h
  simpa [← Nat.xor_assoc] using this
theorem mix_left {s s' w : Nat} (h1 : s < two64) (h2 : w < two64) (h3 : s' < two64) (h : mixN s w = mixN s' w) : s = s' := by
  have := mix_inj h1 h2 h3 h2 h
  exact xor_inj (by rw [Nat.xor_comm w s, Nat.xor_comm w s']; exact this)
theorem mix_right {s w w' : Nat} (h1 : s < two64) (h2 : w < two64) (h3 : w' < two64) (h : mixN s w = mixN s w') : w = w' := xor_inj (mix_inj h1 h2 h1 h3 h)
/-- the word of an integer -/
def wd (n : Int) : Nat := (n % 18446744073709551616).toNat
theorem wd_lt (n : Int) : wd n < two64 := by unfold wd two64; omega
theorem wd_inj {a b : Int} (a1 : -9223372036854775808 ≤ a) (a2 : a ≤ 9223372036854775807) (b1 : -9223372036854775808 ≤ b) (b2 : b ≤ 9223372036854775807) (h : wd a = wd b) : a = b := by unfold wd at h; omega
/-- the word of the label "frac" -/
abbrev fracW : Nat := 1667330662
def sumH (a d : Int) : Nat := mixN (mixN (mixN (mixN (mixN (mixN 0 fracW) 4) 2) (wd a)) (wd d)) 0
theorem sum_inj {a b d : Int} (a1 : -9223372036854775808 ≤ a) (a2 : a ≤ 9223372036854775807) (b1 : -9223372036854775808 ≤ b) (b2 : b ≤ 9223372036854775807) : sumH a d = sumH b d ↔ a = b := by
  constructor
  · intro h
    unfold sumH at h
    have h1 := mix_left (mix_lt _ _) (by decide) (mix_lt _ _) h
    have h2 := mix_left (mix_lt _ _) (wd_lt _) (mix_lt _ _) h1
    exact wd_inj a1 a2 b1 b2 (mix_right (mix_lt _ _) (wd_lt _) (wd_lt _) h2)
  · rintro rfl; rfl
end Go.Proofs.YtinbfdfgebiaeaaDoor
