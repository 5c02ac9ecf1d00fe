/- Numbers of eight digits in base 2^32, in plain arithmetic: the digits of a sum, a difference, a product, a half. -/
namespace Go.Proofs.YtinbfdfgebiaeaaDoor.DigM

/-- the i-th digit of n -/
def dg (n i : Nat) : Nat := n / 4294967296 ^ i % 4294967296
theorem dg_lt (n i : Nat) : dg n i < 4294967296 := Nat.mod_lt _ (by omega)
theorem pow_pos' (i : Nat) : 0 < 4294967296 ^ i := Nat.pow_pos (by omega)
theorem divadd (P q r : Nat) (hP : 0 < P) : (P * q + r) / P = q + r / P := Nat.mul_add_div hP q r

/-- the carry of a sum into digit i -/
def cy (a b i : Nat) : Nat := (a % 4294967296 ^ i + b % 4294967296 ^ i) / 4294967296 ^ i
theorem cy_zero (a b : Nat) : cy a b 0 = 0 := by simp [cy, Nat.mod_one]
theorem cy_le (a b i : Nat) : cy a b i ≤ 1 := by
  unfold cy
  have h1 := Nat.mod_lt a (pow_pos' i)
  have h2 := Nat.mod_lt b (pow_pos' i)
  have := (Nat.div_lt_iff_lt_mul (x := a % 4294967296 ^ i + b % 4294967296 ^ i) (y := 2) (pow_pos' i)).2 (by omega)
  omega
theorem plus_dg (a b i : Nat) : (cy a b i + dg a i + dg b i) % 4294967296 = dg (a + b) i := by
  unfold cy dg
  have hP := pow_pos' i
  generalize 4294967296 ^ i = P at *
  have ha := Nat.div_add_mod a P
  have hb := Nat.div_add_mod b P
  have : (a + b) / P = a / P + b / P + (a % P + b % P) / P := by
    conv => lhs; rw [← ha, ← hb]
    rw [show P * (a / P) + a % P + (P * (b / P) + b % P) = P * (a / P + b / P) + (a % P + b % P) by grind]
    exact divadd _ _ _ hP
  rw [this]
  omega
theorem plus_cy (a b i : Nat) : (cy a b i + dg a i + dg b i) / 4294967296 = cy a b (i + 1) := by
  unfold cy dg
  rw [Nat.mod_pow_succ, Nat.mod_pow_succ, Nat.pow_succ, ← Nat.div_div_eq_div_mul]
  have hP := pow_pos' i
  generalize 4294967296 ^ i = P at *
  congr 1
  rw [show a % P + P * (a / P % 4294967296) + (b % P + P * (b / P % 4294967296)) = P * (a / P % 4294967296 + b / P % 4294967296) + (a % P + b % P) by grind, divadd _ _ _ hP]
  omega

/-- the borrow of a difference out of digit i -/
def bw (a b i : Nat) : Nat := if a % 4294967296 ^ i < b % 4294967296 ^ i then 1 else 0
theorem bw_zero (a b : Nat) : bw a b 0 = 0 := by simp [bw, Nat.mod_one]
theorem bw_le (a b i : Nat) : bw a b i ≤ 1 := by unfold bw; split <;> omega
theorem minus_dg (a b i : Nat) (h : b ≤ a) : (dg a i + 4294967296 - dg b i - bw a b i) % 4294967296 = dg (a - b) i := by
  unfold bw dg
  have hP := pow_pos' i
  generalize 4294967296 ^ i = P at *
  have ha := Nat.div_add_mod a P
  have hb := Nat.div_add_mod b P
  have hra := Nat.mod_lt a hP
  have hrb := Nat.mod_lt b hP
  generalize a / P = qa at *
  generalize b / P = qb at *
  generalize a % P = ra at *
  generalize b % P = rb at *
  split
  · rename_i hlt
    have hq : qb + 1 ≤ qa := by
      rcases Nat.lt_or_ge qb qa with hh | hh
      · exact hh
      · exfalso
        have := Nat.mul_le_mul_left P hh
        omega
    have : (a - b) / P = qa - qb - 1 := by
      rw [show a - b = P * (qa - qb - 1) + (P + ra - rb) by
        obtain ⟨c, rfl⟩ : ∃ c, qa = qb + 1 + c := ⟨qa - (qb + 1), by omega⟩
        have : qb + 1 + c - qb - 1 = c := by omega
        rw [this]
        have e : P * (qb + 1 + c) = P * qb + P + P * c := by grind
        omega, divadd _ _ _ hP, Nat.div_eq_of_lt (by omega)]
      omega
    rw [this]; omega
  · rename_i hlt
    have hq : qb ≤ qa := by
      rcases Nat.lt_or_ge qa qb with hh | hh
      · exfalso
        have := Nat.mul_le_mul_left P (Nat.succ_le_of_lt hh)
        rw [Nat.mul_succ] at this
        omega
      · exact hh
    have : (a - b) / P = qa - qb := by
      rw [show a - b = P * (qa - qb) + (ra - rb) by
        obtain ⟨c, rfl⟩ : ∃ c, qa = qb + c := ⟨qa - qb, by omega⟩
        have : qb + c - qb = c := by omega
        rw [this]
        have e : P * (qb + c) = P * qb + P * c := by grind
        omega, divadd _ _ _ hP, Nat.div_eq_of_lt (by omega)]
      omega
    rw [this]; omega
theorem lt_of_parts {P x y r s : Nat} (hr : r < P) (hs : s < P) : (r + P * x < s + P * y) ↔ (x < y ∨ x = y ∧ r < s) := by
  rcases Nat.lt_trichotomy x y with h | h | h
  · have := Nat.mul_le_mul_left P (Nat.succ_le_of_lt h)
    rw [Nat.mul_succ] at this
    constructor <;> intro _ <;> omega
  · subst h; omega
  · have := Nat.mul_le_mul_left P (Nat.succ_le_of_lt h)
    rw [Nat.mul_succ] at this
    constructor <;> intro _ <;> omega
theorem minus_bw (a b i : Nat) : 1 - (dg a i + 4294967296 - dg b i - bw a b i) / 4294967296 = bw a b (i + 1) := by
  unfold bw dg
  rw [Nat.mod_pow_succ, Nat.mod_pow_succ]
  have hP := pow_pos' i
  generalize 4294967296 ^ i = P at *
  have hra := Nat.mod_lt a hP
  have hrb := Nat.mod_lt b hP
  have := lt_of_parts (P := P) (x := a / P % 4294967296) (y := b / P % 4294967296) hra hrb
  simp only [this]
  generalize a / P = qa at *
  generalize b / P = qb at *
  generalize a % P = ra at *
  generalize b % P = rb at *
  split <;> split <;> omega

/-- the carry of a product's row -/
def ty (x a b i k : Nat) : Nat := (x % 4294967296 ^ (i + k) + 4294967296 ^ i * dg a i * (b % 4294967296 ^ k)) / 4294967296 ^ (i + k)
theorem ty_zero (x a b i : Nat) : ty x a b i 0 = 0 := by
  simp only [ty, Nat.pow_zero, Nat.mod_one, Nat.mul_zero, Nat.add_zero]
  exact Nat.div_eq_of_lt (Nat.mod_lt _ (pow_pos' _))
theorem ty_lt (x a b i k : Nat) : ty x a b i k < 4294967296 := by
  unfold ty
  rw [Nat.pow_add]
  have hP := pow_pos' i
  have hQ := pow_pos' k
  have hd := dg_lt a i
  generalize 4294967296 ^ i = P at *
  generalize 4294967296 ^ k = Q at *
  generalize dg a i = d at *
  have hPQ : 0 < P * Q := Nat.mul_pos hP hQ
  have h1 := Nat.mod_lt x hPQ
  have h2 := Nat.mod_lt b hQ
  rw [Nat.div_lt_iff_lt_mul hPQ]
  have h3 : P * d * (b % Q) ≤ P * d * Q := Nat.mul_le_mul_left _ (by omega)
  have h4 : P * d * Q = d * (P * Q) := by grind
  have h5 : d * (P * Q) ≤ 4294967295 * (P * Q) := Nat.mul_le_mul_right _ (by omega)
  omega
theorem times_dg (x a b i k : Nat) : (ty x a b i k + dg x (i + k) + dg a i * dg b k) % 4294967296 = dg (x + 4294967296 ^ i * dg a i * b) (i + k) := by
  have key : (x + 4294967296 ^ i * dg a i * b) / 4294967296 ^ (i + k) = ty x a b i k + x / 4294967296 ^ (i + k) + dg a i * (b / 4294967296 ^ k) := by
    unfold ty
    have hPQ := pow_pos' (i + k)
    have e : 4294967296 ^ (i + k) = 4294967296 ^ i * 4294967296 ^ k := Nat.pow_add _ _ _
    generalize 4294967296 ^ (i + k) = M at *
    generalize 4294967296 ^ i = P at *
    generalize 4294967296 ^ k = Q at *
    generalize dg a i = d at *
    have hx := Nat.div_add_mod x M
    have hb := Nat.div_add_mod b Q
    rw [show x + P * d * b = M * (x / M + d * (b / Q)) + (x % M + P * d * (b % Q)) by
      subst e; grind, divadd _ _ _ hPQ]
    omega
  show _ = _ / _ % _
  rw [key]
  show (_ + x / 4294967296 ^ (i + k) % 4294967296 + _ * (b / 4294967296 ^ k % 4294967296)) % 4294967296 = _
  generalize ty x a b i k = t
  generalize x / 4294967296 ^ (i + k) = u
  generalize b / 4294967296 ^ k = v
  generalize dg a i = d
  rw [Nat.add_mod (t + u % 4294967296), Nat.mul_mod, Nat.mod_mod, ← Nat.mul_mod, ← Nat.add_mod]
  generalize d * v = m
  omega
theorem times_ty (x a b i k : Nat) : (ty x a b i k + dg x (i + k) + dg a i * dg b k) / 4294967296 = ty x a b i (k + 1) := by
  unfold ty
  rw [show i + (k + 1) = i + k + 1 by omega, Nat.mod_pow_succ, Nat.mod_pow_succ, Nat.pow_succ _ (i + k), ← Nat.div_div_eq_div_mul]
  show (_ + x / 4294967296 ^ (i + k) % 4294967296 + dg a i * (b / 4294967296 ^ k % 4294967296)) / _ = _
  have hPQ := pow_pos' (i + k)
  have e : 4294967296 ^ (i + k) = 4294967296 ^ i * 4294967296 ^ k := Nat.pow_add _ _ _
  generalize 4294967296 ^ (i + k) = M at *
  generalize 4294967296 ^ i = P at *
  generalize 4294967296 ^ k = Q at *
  generalize dg a i = d at *
  congr 1
  rw [show x % M + M * (x / M % 4294967296) + P * d * (b % Q + Q * (b / Q % 4294967296)) = M * (x / M % 4294967296 + d * (b / Q % 4294967296)) + (x % M + P * d * (b % Q)) by subst e; grind, divadd _ _ _ hPQ]
  omega
/-- the rows so far -/
def tx (a b i : Nat) : Nat := a % 4294967296 ^ i * b
theorem tx_zero (a b : Nat) : tx a b 0 = 0 := by simp [tx, Nat.mod_one]
theorem tx_succ (a b i : Nat) : tx a b i + 4294967296 ^ i * dg a i * b = tx a b (i + 1) := by
  unfold tx dg; rw [Nat.mod_pow_succ, Nat.add_mul]
theorem tx_end (a b : Nat) (h : a < 4294967296 ^ 8) : tx a b 8 = a * b := by unfold tx; rw [Nat.mod_eq_of_lt h]
theorem ty_sum_lt (x a b i k : Nat) : ty x a b i k + dg x (i + k) + dg a i * dg b k < 18446744073709551616 := by
  have h1 := ty_lt x a b i k
  have h2 := dg_lt x (i + k)
  have h3 := dg_lt a i
  have h4 := dg_lt b k
  have : dg a i * dg b k ≤ 4294967295 * 4294967295 := Nat.mul_le_mul (by omega) (by omega)
  omega

theorem dg_zero (i : Nat) : dg 0 i = 0 := by simp [dg]
theorem dg_from (n i : Nat) (h : n < 18446744073709551616) : dg n i = if i = 0 then n % 4294967296 else if i = 1 then n / 4294967296 else 0 := by
  unfold dg
  match i with
  | 0 => simp
  | 1 => simp; omega
  | i + 2 =>
    have : n / 4294967296 ^ (i + 2) = 0 := Nat.div_eq_of_lt (Nat.lt_of_lt_of_le h (by
      have : 4294967296 ^ 2 ≤ 4294967296 ^ (i + 2) := Nat.pow_le_pow_right (by omega) (by omega)
      omega))
    simp [this]

theorem half_dg (a i : Nat) : dg a i / 2 + 2147483648 * (dg a (i + 1) % 2) = dg (a / 2) i := by
  unfold dg
  rw [Nat.pow_succ, ← Nat.div_div_eq_div_mul, show a / 2 / 4294967296 ^ i = a / 4294967296 ^ i / 2 by rw [Nat.div_div_eq_div_mul, Nat.mul_comm, ← Nat.div_div_eq_div_mul]]
  generalize a / 4294967296 ^ i = q
  omega
theorem dg_high (a : Nat) (h : a < 4294967296 ^ 8) : dg a 8 = 0 := by unfold dg; rw [Nat.div_eq_of_lt h]
theorem dg_even (a : Nat) : dg a 0 % 2 = a % 2 := by unfold dg; simp

/-- the comparison from the top: all digits above i are alike -/
def Same (a b i : Nat) : Prop := a / 4294967296 ^ i = b / 4294967296 ^ i
theorem Same.top {a b : Nat} (ha : a < 4294967296 ^ 8) (hb : b < 4294967296 ^ 8) : Same a b 8 := by
  unfold Same; rw [Nat.div_eq_of_lt ha, Nat.div_eq_of_lt hb]
theorem Same.down {a b i : Nat} (h : Same a b (i + 1)) (e : dg a i = dg b i) : Same a b i := by
  unfold Same dg at *
  rw [Nat.pow_succ, ← Nat.div_div_eq_div_mul, ← Nat.div_div_eq_div_mul] at h
  omega
theorem Same.lt {a b i : Nat} (h : Same a b (i + 1)) (e : dg a i < dg b i) : a < b := by
  unfold Same dg at *
  rw [Nat.pow_succ, ← Nat.div_div_eq_div_mul, ← Nat.div_div_eq_div_mul] at h
  have hl : a / 4294967296 ^ i < b / 4294967296 ^ i := by omega
  rcases Nat.lt_or_ge a b with hh | hh
  · exact hh
  · have := Nat.div_le_div_right (c := 4294967296 ^ i) hh; omega
theorem Same.eq {a b : Nat} (h : Same a b 0) : a = b := by simpa [Same] using h
theorem Same.symm {a b i : Nat} (h : Same a b i) : Same b a i := Eq.symm h
theorem eq_of_dg {a b : Nat} (ha : a < 4294967296 ^ 8) (hb : b < 4294967296 ^ 8) (h : ∀ i, i < 8 → dg a i = dg b i) : a = b := by
  have h7 := (Same.top ha hb).down (h 7 (by omega))
  have h6 := h7.down (h 6 (by omega))
  have h5 := h6.down (h 5 (by omega))
  have h4 := h5.down (h 4 (by omega))
  have h3 := h4.down (h 3 (by omega))
  have h2 := h3.down (h 2 (by omega))
  have h1 := h2.down (h 1 (by omega))
  exact (h1.down (h 0 (by omega))).eq

theorem gcd_both {a b : Nat} (ha : a % 2 = 0) (hb : b % 2 = 0) : Nat.gcd a b = 2 * Nat.gcd (a / 2) (b / 2) := by
  rw [← Nat.gcd_mul_left]; congr 1 <;> omega
theorem gcd_left {a b : Nat} (ha : a % 2 = 0) (hb : b % 2 = 1) : Nat.gcd (a / 2) b = Nat.gcd a b := by
  have hc : Nat.Coprime 2 b := (Nat.coprime_iff_gcd_eq_one).2 (by rw [Nat.gcd_rec, hb]; rfl)
  have := Nat.Coprime.gcd_mul_left_cancel (a / 2) hc
  rw [← this]; congr 1; omega
theorem gcd_right {a b : Nat} (ha : a % 2 = 1) (hb : b % 2 = 0) : Nat.gcd a (b / 2) = Nat.gcd a b := by
  rw [Nat.gcd_comm, gcd_left hb ha, Nat.gcd_comm]
theorem gcd_less {a b : Nat} (h : a ≤ b) : Nat.gcd a (b - a) = Nat.gcd a b := Nat.gcd_sub_self_right h

/-- the state of the long division -/
structure Ov (a b bits i n rem : Nat) : Prop where
  le : i ≤ bits
  lt : rem < b * 2 ^ (bits - i)
  sum : a = rem + n * (b * 2 ^ (bits - i))
  n_lt : n < 2 ^ i
theorem Ov.start {a b bits : Nat} (h : a < b * 2 ^ bits) : Ov a b bits 0 0 a := ⟨by omega, by simpa using h, by simp, by simp⟩
theorem ov_half {b bits i : Nat} (h : i < bits) : b * 2 ^ (bits - i) = 2 * (b * 2 ^ (bits - (i + 1))) := by
  rw [show bits - i = bits - (i + 1) + 1 by omega, Nat.pow_succ]; grind
theorem Ov.no {a b bits i n rem : Nat} (h : Ov a b bits i n rem) (hi : i < bits) (hl : rem < b * 2 ^ (bits - (i + 1))) : Ov a b bits (i + 1) (2 * n) rem := by
  obtain ⟨h1, h2, h3, h4⟩ := h
  rw [ov_half hi] at h2 h3
  exact ⟨hi, hl, by grind, by rw [Nat.pow_succ]; omega⟩
theorem Ov.yes {a b bits i n rem : Nat} (h : Ov a b bits i n rem) (hi : i < bits) (hl : b * 2 ^ (bits - (i + 1)) ≤ rem) : Ov a b bits (i + 1) (2 * n + 1) (rem - b * 2 ^ (bits - (i + 1))) := by
  obtain ⟨h1, h2, h3, h4⟩ := h
  rw [ov_half hi] at h2 h3
  refine ⟨hi, by omega, ?_, by rw [Nat.pow_succ]; omega⟩
  generalize b * 2 ^ (bits - (i + 1)) = s at *
  obtain ⟨r, rfl⟩ : ∃ r, rem = s + r := ⟨rem - s, by omega⟩
  have : s + r - s = r := by omega
  rw [this]; grind
theorem Ov.done {a b bits n rem : Nat} (h : Ov a b bits bits n rem) : n = a / b := by
  obtain ⟨h1, h2, h3, h4⟩ := h
  simp at h2 h3
  have hb : 0 < b := by omega
  rw [h3, Nat.add_comm, Nat.mul_comm, Nat.mul_add_div hb, Nat.div_eq_of_lt h2]; omega
theorem ov_far {a b : Nat} (hb : 0 < b) (h : b * 2 ^ 64 ≤ a) : 18446744073709551616 ≤ a / b := by
  rw [Nat.le_div_iff_mul_le hb]; omega
theorem ov_near {a b bits : Nat} (hb : 0 < b) (h : a < b * 2 ^ bits) (hb2 : bits ≤ 64) : a / b < 18446744073709551616 := by
  rw [Nat.div_lt_iff_lt_mul hb]
  have : b * 2 ^ bits ≤ b * 2 ^ 64 := Nat.mul_le_mul_left _ (Nat.pow_le_pow_right (by omega) hb2)
  omega
end Go.Proofs.YtinbfdfgebiaeaaDoor.DigM
