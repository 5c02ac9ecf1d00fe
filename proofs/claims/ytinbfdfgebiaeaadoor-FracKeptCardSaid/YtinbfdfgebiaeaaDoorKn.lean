/- Division of two words by one: plain arithmetic (the guess of a digit). -/
set_option linter.unusedVariables false
namespace Knuth
theorem div_of {N V q : Nat} (h1 : q * V ≤ N) (h2 : N < (q + 1) * V) : N / V = q := by
  have hV : 0 < V := by rcases Nat.eq_zero_or_pos V with h | h; · subst h; omega
                        · exact h
  apply Nat.le_antisymm
  · exact Nat.le_of_lt_succ (Nat.div_lt_of_lt_mul (by rw [Nat.mul_comm]; exact h2))
  · exact (Nat.le_div_iff_mul_le hV).2 h1
/-- the guess is right where the test says no -/
theorem k_exit {v1 v0 U u q r B : Nat} (e : U = q * v1 + r) (h : q * v0 ≤ B * r + u) (hu : U * B + u < (q + 1) * (v1 * B + v0)) : (U * B + u) / (v1 * B + v0) = q := by
  apply div_of _ hu
  rw [e]
  have e1 : q * (v1 * B + v0) = q * v1 * B + q * v0 := by grind
  have e2 : (q * v1 + r) * B + u = q * v1 * B + B * r + u := by grind
  omega
/-- .. and too great where it says yes -/
theorem k_dec {v1 v0 U u q r B : Nat} (hU : U < v1 * B + v0) (hub : u < B) (e : U = q * v1 + r) (h : B ≤ q ∨ B * r + u < q * v0) : 1 ≤ q ∧ U * B + u < q * (v1 * B + v0) := by
  have key : U * B + u < q * (v1 * B + v0) := by
    rcases h with h | h
    · have h1 : (U + 1) * B ≤ (v1 * B + v0) * B := Nat.mul_le_mul_right _ hU
      have h2 : B * (v1 * B + v0) ≤ q * (v1 * B + v0) := Nat.mul_le_mul_right _ h
      have e1 : (U + 1) * B = U * B + B := by grind
      have e2 : (v1 * B + v0) * B = B * (v1 * B + v0) := Nat.mul_comm _ _
      omega
    · rw [e]
      have e1 : q * (v1 * B + v0) = q * v1 * B + q * v0 := by grind
      have e2 : (q * v1 + r) * B + u = q * v1 * B + B * r + u := by grind
      omega
  refine ⟨?_, key⟩
  rcases Nat.eq_zero_or_pos q with h0 | h0
  · subst h0; simp at key
  · exact h0
theorem k_break {v1 v0 U u q r B : Nat} (hU : U < v1 * B + v0) (hv : v0 < B) (e : U = q * v1 + r) (hr : B ≤ r) (hu : U * B + u < (q + 1) * (v1 * B + v0)) : (U * B + u) / (v1 * B + v0) = q := by
  have hq : q < B := by
    rcases Nat.lt_or_ge q B with h | h
    · exact h
    · have : B * v1 ≤ q * v1 := Nat.mul_le_mul_right _ h
      have e1 : v1 * B = B * v1 := Nat.mul_comm _ _
      omega
  refine k_exit e ?_ hu
  have h1 : q * v0 ≤ B * B := Nat.mul_le_mul (by omega) (by omega)
  have h2 : B * B ≤ B * r := Nat.mul_le_mul_left _ hr
  omega
/-- the first guess -/
theorem k_start {v1 v0 U u B : Nat} (hv : 0 < v1) (hub : u < B) : U * B + u < (U / v1 + 1) * (v1 * B + v0) ∧ U = U / v1 * v1 + (U - U / v1 * v1) ∧ U - U / v1 * v1 < v1 := by
  have h := Nat.div_add_mod U v1
  have h2 := Nat.mod_lt U hv
  have e : U / v1 * v1 = v1 * (U / v1) := Nat.mul_comm _ _
  refine ⟨?_, by omega, by omega⟩
  have h3 : U + 1 ≤ (U / v1 + 1) * v1 := by
    have : (U / v1 + 1) * v1 = v1 * (U / v1) + v1 := by grind
    omega
  have h4 : (U + 1) * B ≤ (U / v1 + 1) * v1 * B := Nat.mul_le_mul_right _ h3
  have e1 : (U + 1) * B = U * B + B := by grind
  have e2 : (U / v1 + 1) * (v1 * B + v0) = (U / v1 + 1) * v1 * B + (U / v1 + 1) * v0 := by grind
  omega
end Knuth
