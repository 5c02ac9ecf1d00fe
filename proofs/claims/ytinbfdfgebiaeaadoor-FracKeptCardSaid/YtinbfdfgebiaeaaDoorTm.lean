/- Numerals in plain Lean: what Decimal builds; what Atoi reads of an Itoa; Cut at the slash. -/
import Derived.Test.YtinbfdfgebiaeaaDoorFp
import Derived.Lib.ItoaMem
import Derived.Lib.AtoiAllCases
set_option linter.unusedVariables false
set_option linter.unusedSimpArgs false
namespace Go.Proofs.YtinbfdfgebiaeaaDoor
open Go.RowKit FracM

/-- the digits of u, none for 0 -/
def preD (u : Nat) : List UInt8 := if u = 0 then [] else Lib.decDigits u
theorem preD_step {u : Nat} (h : ¬ u = 0) : preD u = preD (u / 10) ++ [UInt8.ofNat (48 + u % 10)] := by
  unfold preD
  rw [if_neg h]
  by_cases h10 : u < 10
  · rw [if_pos (by omega), Lib.decDigits, dif_pos h10, Nat.mod_eq_of_lt h10]; rfl
  · rw [if_neg (by omega)]
    conv => lhs; rw [Lib.decDigits]
    rw [dif_neg h10]
theorem preD_pos {u : Nat} (h : ¬ u = 0) : preD u = Lib.decDigits u := if_neg h
theorem preD_len (u : Nat) : (preD u).length ≤ u := by
  induction u using Nat.strongRecOn with
  | _ u ih =>
    by_cases h : u = 0
    · subst h; simp [preD]
    · rw [preD_step h]
      have := ih (u / 10) (by omega)
      simp; omega
/-- a numeral's bytes are digits -/
theorem dec_digit (u : Nat) : ∀ c ∈ Lib.decDigits u, 48 ≤ c.toNat ∧ c.toNat ≤ 57 := by
  induction u using Nat.strongRecOn with
  | _ u ih =>
    rw [Lib.decDigits]
    split
    · intro c hc
      simp only [List.mem_singleton] at hc
      subst hc
      rw [UInt8.toNat_ofNat']; omega
    · intro c hc
      rcases List.mem_append.1 hc with hc | hc
      · exact ih _ (by omega) c hc
      · simp only [List.mem_singleton] at hc
        subst hc
        rw [UInt8.toNat_ofNat']; omega
theorem dec_ne (u : Nat) : Lib.decDigits u ≠ [] := by
  rw [Lib.decDigits]; split <;> simp
theorem parse_app (l : List UInt8) (c : Nat) (hc : c ≤ 9) : ∀ acc u, Lib.parseUint10 acc l = .ok u → u * 10 + c < 18446744073709551616 → Lib.parseUint10 acc (l ++ [UInt8.ofNat (48 + c)]) = .ok (u * 10 + c) := by
  induction l with
  | nil =>
    intro acc u h hu
    simp only [Lib.parseUint10, Lib.NumEnd.ok.injEq] at h
    subst h
    have e : (UInt8.ofNat (48 + c)).toNat = 48 + c := by rw [UInt8.toNat_ofNat']; omega
    simp only [List.nil_append, Lib.parseUint10, e]
    rw [if_pos (by omega), if_neg (by omega), if_neg (by omega)]
    congr 1; omega
  | cons x l ih =>
    intro acc u h hu
    simp only [Lib.parseUint10] at h
    simp only [List.cons_append, Lib.parseUint10]
    split at h
    · rename_i h1
      rw [if_pos h1]
      split at h
      · cases h
      · rename_i h2
        rw [if_neg h2]
        split at h
        · cases h
        · rename_i h3
          rw [if_neg h3]
          exact ih _ _ h hu
    · cases h
theorem parse_dec (u : Nat) (h : u < 18446744073709551616) : Lib.parseUint10 0 (Lib.decDigits u) = .ok u := by
  induction u using Nat.strongRecOn with
  | _ u ih =>
    rw [Lib.decDigits]
    split
    · rename_i h10
      have := parse_app [] u (by omega) 0 0 rfl (by omega)
      simpa using this
    · rename_i h10
      have := parse_app (Lib.decDigits (u / 10)) (u % 10) (by omega) 0 (u / 10) (ih _ (by omega) (by omega)) (by omega)
      rw [this]; congr 1; omega
theorem parse_mag (u : Nat) (h : u < 18446744073709551616) : Lib.parseMag (Lib.decDigits u) = .ok u := by
  unfold Lib.parseMag; rw [if_neg (dec_ne u), parse_dec u h]
theorem atoi_itoa (n : Int) (h0 : -9223372036854775808 ≤ n) (h1 : n ≤ 9223372036854775807) : Lib.atoiAll (Lib.itoa n) = .ok n := by
  unfold Lib.itoa
  split
  · rename_i hn
    unfold Lib.atoiAll
    simp only [show (45 : UInt8).toNat = 45 from rfl]
    simp only [or_true, if_true]
    rw [parse_mag _ (by omega)]
    simp only [not_true_eq_false, false_and, if_false, true_and]
    rw [if_neg (by omega)]
    simp; omega
  · rename_i hn
    cases hd : Lib.decDigits n.toNat with
    | nil => exact absurd hd (dec_ne _)
    | cons c r =>
      have hc := dec_digit n.toNat c (by rw [hd]; simp)
      unfold Lib.atoiAll
      simp only
      rw [if_neg (by omega), ← hd, parse_mag _ (by omega)]
      simp only
      rw [if_neg (by omega), if_neg (by omega)]
      have : ¬ c.toNat = 45 := by omega
      simp [this]; omega
/-- no slash in a numeral -/
theorem itoa_noslash (n : Int) : ∀ c ∈ Lib.itoa n, c ≠ 47 := by
  intro c hc
  unfold Lib.itoa at hc
  split at hc
  · rcases List.mem_cons.1 hc with rfl | hc
    · decide
    · have := dec_digit _ c hc; rintro rfl; exact absurd this (by decide)
  · have := dec_digit _ c hc; rintro rfl; exact absurd this (by decide)
end Go.Proofs.YtinbfdfgebiaeaaDoor
