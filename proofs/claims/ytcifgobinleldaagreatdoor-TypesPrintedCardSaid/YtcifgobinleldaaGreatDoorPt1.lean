/- Contracts, packed: Fm. -/

set_option linter.unusedVariables false
set_option linter.unusedSimpArgs false

namespace FracM


theorem gcd_mod_left (t g : Nat) : Nat.gcd (t % g) g = Nat.gcd t g := by
  rw [Nat.gcd_comm t g, Nat.gcd_rec g t]

theorem natAbs_gcd_add_mul (x k : Int) (e : Nat) : Nat.gcd (x + k * e).natAbs e = Nat.gcd x.natAbs e := by
  have h1 : Int.gcd (x + k * e) e = Int.gcd x e := by simp
  simpa [Int.gcd] using h1

theorem cop_of (n e1 e2 : Nat) (h1 : Nat.gcd n e1 = 1) (h2 : Nat.gcd e2 e1 = 1) : Nat.gcd (n * e2) e1 = 1 :=
  Nat.Coprime.mul_left h1 h2

/-- the numerator over the least common denominator has no divisor in common with e1 and e2 -/
theorem add_core (n1 n2 : Int) (g e1 e2 : Nat) (c12 : Nat.gcd e1 e2 = 1)
    (c1 : Nat.gcd n1.natAbs (g * e1) = 1) (c2 : Nat.gcd n2.natAbs (g * e2) = 1) :
    Nat.gcd (n1 * e2 + n2 * e1).natAbs (g * (e1 * e2)) = Nat.gcd (n1 * e2 + n2 * e1).natAbs g := by
  have a1 : Nat.gcd n1.natAbs e1 = 1 := Nat.Coprime.coprime_dvd_right (Nat.dvd_mul_left _ _) c1
  have a2 : Nat.gcd n2.natAbs e2 = 1 := Nat.Coprime.coprime_dvd_right (Nat.dvd_mul_left _ _) c2
  have t1 : Nat.gcd (n1 * e2 + n2 * e1).natAbs e1 = 1 := by
    rw [natAbs_gcd_add_mul, Int.natAbs_mul, Int.natAbs_natCast]
    exact cop_of _ _ _ a1 (by rw [Nat.gcd_comm]; exact c12)
  have t2 : Nat.gcd (n1 * e2 + n2 * e1).natAbs e2 = 1 := by
    rw [Int.add_comm, natAbs_gcd_add_mul, Int.natAbs_mul, Int.natAbs_natCast]
    exact cop_of _ _ _ a2 c12
  exact Nat.Coprime.gcd_mul_right_cancel_right g (Nat.Coprime.symm (Nat.Coprime.mul_right t1 t2))

/-- 2^62 -/
def M : Nat := 4611686018427387904
/-- p over q in lowest terms, with an error: 5 beyond the range -/
def low (p : Int) (q : Nat) : Int × Int × Int :=
  if p.natAbs / Nat.gcd p.natAbs q ≤ M ∧ q / Nat.gcd p.natAbs q ≤ M then
    (p.sign * ((p.natAbs / Nat.gcd p.natAbs q : Nat) : Int), ((q / Nat.gcd p.natAbs q : Nat) : Int), 0)
  else (0, 0, 5)
def validB (n d : Int) : Bool := decide (1 ≤ d) && decide (d ≤ M) && decide (n.natAbs ≤ M) && (Nat.gcd n.natAbs d.natAbs == 1)
def newF (num den : Int) : Int × Int × Int :=
  if den = 0 then (0, 0, 6) else if num = -9223372036854775808 ∨ den = -9223372036854775808 then (0, 0, 5)
  else low (if den < 0 then -num else num) den.natAbs
def addF (n1 d1 n2 d2 : Int) : Int × Int × Int :=
  if validB n1 d1 && validB n2 d2 then low (n1 * d2 + n2 * d1) (d1 * d2).natAbs else (0, 0, 1)
def mulF (n1 d1 n2 d2 : Int) : Int × Int × Int :=
  if validB n1 d1 && validB n2 d2 then low (n1 * n2) (d1 * d2).natAbs else (0, 0, 1)
def divF (n1 d1 n2 d2 : Int) : Int × Int × Int :=
  if validB n1 d1 && validB n2 d2 then (if n2 = 0 then (0, 0, 6) else if n2 < 0 then mulF n1 d1 (-d2) (-n2) else mulF n1 d1 d2 n2) else (0, 0, 1)
def cmpF (n1 d1 n2 d2 : Int) : Int :=
  if validB n1 d1 && validB n2 d2 then (n1 * d2 - n2 * d1).sign else 0

theorem valid_iff {n d : Int} : validB n d = true ↔ 1 ≤ d ∧ d ≤ M ∧ n.natAbs ≤ M ∧ Nat.gcd n.natAbs d.natAbs = 1 := by
  unfold validB; simp [Bool.and_eq_true, and_assoc]
theorem valid_neg {n d : Int} : validB (-n) d = validB n d := by unfold validB; simp

theorem low_pos {p : Int} {q : Nat} (hq : 0 < q) : 0 < Nat.gcd p.natAbs q := Nat.gcd_pos_of_pos_right _ hq
theorem low_cop {p : Int} {q : Nat} (hq : 0 < q) : Nat.gcd (p.natAbs / Nat.gcd p.natAbs q) (q / Nat.gcd p.natAbs q) = 1 :=
  Nat.coprime_div_gcd_div_gcd (low_pos hq)

theorem sign_mul_natAbs (p : Int) : p.sign * (p.natAbs : Int) = p := Int.sign_mul_natAbs p
theorem natAbs_sign_mul {p : Int} {x : Nat} (h : p = 0 → x = 0) : (p.sign * (x : Int)).natAbs = x := by
  rw [Int.natAbs_mul, Int.natAbs_natCast]
  by_cases hp : p = 0
  · simp [hp, h hp]
  · rw [Int.natAbs_sign_of_ne_zero hp]; simp

theorem low_ok {p : Int} {q : Nat} {n d : Int} (hq : 0 < q) (h : low p q = (n, d, 0)) :
    n * q = p * d ∧ 1 ≤ d ∧ d ≤ M ∧ n.natAbs ≤ M ∧ Nat.gcd n.natAbs d.natAbs = 1 ∧ n.sign = p.sign := by
  unfold low at h
  split at h
  · next hb =>
    obtain ⟨hn, hd⟩ := Prod.mk.inj h
    obtain ⟨hd, _⟩ := Prod.mk.inj hd
    have g0 := low_pos (p := p) hq
    have hz : p = 0 → p.natAbs / Nat.gcd p.natAbs q = 0 := fun h => by simp [h]
    have e1 : (p.natAbs / Nat.gcd p.natAbs q) * Nat.gcd p.natAbs q = p.natAbs := Nat.div_mul_cancel (Nat.gcd_dvd_left _ _)
    have e2 : (q / Nat.gcd p.natAbs q) * Nat.gcd p.natAbs q = q := Nat.div_mul_cancel (Nat.gcd_dvd_right _ _)
    have hc := low_cop (p := p) hq
    have hdp : 0 < q / Nat.gcd p.natAbs q := Nat.div_pos (Nat.le_of_dvd hq (Nat.gcd_dvd_right _ _)) g0
    generalize Nat.gcd p.natAbs q = g at *
    subst hn hd
    refine ⟨?_, by omega, by omega, by rw [natAbs_sign_mul hz]; exact hb.1, ?_, ?_⟩
    · have : p.sign * ((p.natAbs / g : Nat) : Int) * (q : Int) = p.sign * (p.natAbs : Int) * ((q / g : Nat) : Int) := by
        rw [← e1, ← e2]
        simp only [Nat.mul_div_cancel _ g0]
        push_cast
        simp only [Int.mul_assoc, Int.mul_left_comm, Int.mul_comm]
      rw [this, sign_mul_natAbs]
    · rw [natAbs_sign_mul hz, Int.natAbs_natCast]; exact hc
    · by_cases hp : p = 0
      · simp [hp]
      · have : 0 < p.natAbs / g := by
          rcases Nat.eq_zero_or_pos (p.natAbs / g) with h0 | h0
          · rw [h0] at e1; omega
          · exact h0
        rw [Int.sign_mul, Int.sign_sign, Int.sign_natCast_of_ne_zero (by omega)]; simp
  · simp at h

theorem low_unique {P Q P' Q' : Nat} (c : Nat.gcd P Q = 1) (c' : Nat.gcd P' Q' = 1) (h : P * Q' = P' * Q) (hQ : 0 < Q) (hQ' : 0 < Q') : P = P' ∧ Q = Q' := by
  have d1 : Q ∣ Q' := Nat.Coprime.dvd_of_dvd_mul_left (k := Q) (m := P) (by rw [Nat.Coprime, Nat.gcd_comm]; exact c) ⟨P', by rw [h, Nat.mul_comm]⟩
  have d2 : Q' ∣ Q := Nat.Coprime.dvd_of_dvd_mul_left (k := Q') (m := P') (by rw [Nat.Coprime, Nat.gcd_comm]; exact c') ⟨P, by rw [← h, Nat.mul_comm]⟩
  have e : Q = Q' := Nat.dvd_antisymm d1 d2
  subst e
  exact ⟨Nat.eq_of_mul_eq_mul_right hQ h, rfl⟩

theorem low_eq {p p' : Int} {q q' : Nat} (hq : 0 < q) (hq' : 0 < q') (h : p * q' = p' * q) : low p q = low p' q' := by
  have hs : p.sign = p'.sign := by
    have := congrArg Int.sign h
    rw [Int.sign_mul, Int.sign_mul, Int.sign_eq_one_of_pos (a := (q : Int)) (by omega), Int.sign_eq_one_of_pos (a := (q' : Int)) (by omega)] at this
    simpa using this
  have ha : p.natAbs * q' = p'.natAbs * q := by
    have := congrArg Int.natAbs h
    simpa [Int.natAbs_mul] using this
  have g0 := low_pos (p := p) hq
  have g0' := low_pos (p := p') hq'
  have e1 : (p.natAbs / Nat.gcd p.natAbs q) * Nat.gcd p.natAbs q = p.natAbs := Nat.div_mul_cancel (Nat.gcd_dvd_left _ _)
  have e2 : (q / Nat.gcd p.natAbs q) * Nat.gcd p.natAbs q = q := Nat.div_mul_cancel (Nat.gcd_dvd_right _ _)
  have e1' : (p'.natAbs / Nat.gcd p'.natAbs q') * Nat.gcd p'.natAbs q' = p'.natAbs := Nat.div_mul_cancel (Nat.gcd_dvd_left _ _)
  have e2' : (q' / Nat.gcd p'.natAbs q') * Nat.gcd p'.natAbs q' = q' := Nat.div_mul_cancel (Nat.gcd_dvd_right _ _)
  have c := low_cop (p := p) hq
  have c' := low_cop (p := p') hq'
  have p1 : 0 < q / Nat.gcd p.natAbs q := Nat.div_pos (Nat.le_of_dvd hq (Nat.gcd_dvd_right _ _)) g0
  have p2 : 0 < q' / Nat.gcd p'.natAbs q' := Nat.div_pos (Nat.le_of_dvd hq' (Nat.gcd_dvd_right _ _)) g0'
  unfold low
  rw [hs]
  generalize Nat.gcd p.natAbs q = g at *
  generalize Nat.gcd p'.natAbs q' = g' at *
  generalize p.natAbs / g = A at *
  generalize q / g = B at *
  generalize p'.natAbs / g' = A' at *
  generalize q' / g' = B' at *
  have hx : A * B' = A' * B := by
    rw [← e1, ← e2, ← e1', ← e2'] at ha
    have : (A * B') * (g * g') = (A' * B) * (g * g') := by
      have e : A * g * (B' * g') = (A * B') * (g * g') := by simp only [Nat.mul_assoc, Nat.mul_left_comm, Nat.mul_comm]
      have e' : A' * g' * (B * g) = (A' * B) * (g * g') := by simp only [Nat.mul_assoc, Nat.mul_left_comm, Nat.mul_comm]
      rw [← e, ← e']; exact ha
    exact Nat.eq_of_mul_eq_mul_right (Nat.mul_pos g0 g0') this
  obtain ⟨rfl, rfl⟩ := low_unique c c' hx p1 p2
  rfl

theorem low_self {n d : Int} (h : validB n d = true) : low n d.natAbs = (n, d, 0) := by
  obtain ⟨h1, h2, h3, h4⟩ := valid_iff.1 h
  unfold low
  rw [h4, Nat.div_one, Nat.div_one, if_pos ⟨h3, by omega⟩, sign_mul_natAbs]
  congr 2
  omega
theorem low_valid {p : Int} {q : Nat} {n d : Int} (hq : 0 < q) (h : low p q = (n, d, 0)) : validB n d = true := by
  obtain ⟨_, h1, h2, h3, h4, _⟩ := low_ok hq h
  exact valid_iff.2 ⟨h1, h2, h3, h4⟩
theorem low_err (p : Int) (q : Nat) : low p q = (0, 0, 5) ∨ ∃ n d, low p q = (n, d, 0) := by
  unfold low; split
  · exact .inr ⟨_, _, rfl⟩
  · exact .inl rfl


theorem sign_scale {A B K L : Int} (hK : 0 < K) (hL : 0 < L) (h : A * K = B * L) : A.sign = B.sign := by
  have := congrArg Int.sign h
  rw [Int.sign_mul, Int.sign_mul, Int.sign_eq_one_of_pos hK, Int.sign_eq_one_of_pos hL] at this
  simpa using this
theorem low_small {p : Int} {q : Nat} (hp : p.natAbs ≤ M) (hq : q ≤ M) : ∃ n d, low p q = (n, d, 0) := by
  unfold low
  rw [if_pos ⟨Nat.le_trans (Nat.div_le_self _ _) hp, Nat.le_trans (Nat.div_le_self _ _) hq⟩]
  exact ⟨_, _, rfl⟩
theorem natAbs_mul_pos {a b : Int} (ha : 0 < a) (hb : 0 < b) : ((a * b).natAbs : Int) = a * b ∧ 0 < (a * b).natAbs := by
  have := Int.mul_pos ha hb
  omega
/-- equal fractions in lowest terms are equal -/
theorem valid_unique {n1 d1 n2 d2 : Int} (h1 : validB n1 d1 = true) (h2 : validB n2 d2 = true) (h : n1 * d2 = n2 * d1) : n1 = n2 ∧ d1 = d2 := by
  have e1 := low_self h1
  have e2 := low_self h2
  obtain ⟨a1, _⟩ := valid_iff.1 h1
  obtain ⟨a2, _⟩ := valid_iff.1 h2
  have e := low_eq (p := n1) (p' := n2) (q := d1.natAbs) (q' := d2.natAbs) (by omega) (by omega) (by
    rw [show ((d2.natAbs : Nat) : Int) = d2 by omega, show ((d1.natAbs : Nat) : Int) = d1 by omega]; exact h)
  rw [e1, e2] at e
  simpa using e
theorem newF_pos {p q : Int} (h0 : 0 < q) (h1 : q ≤ 9223372036854775807) (h2 : -9223372036854775808 < p) : newF p q = low p q.natAbs := by
  unfold newF; rw [if_neg (by omega), if_neg (by omega), if_neg (by omega)]
theorem newF_ok {p q n d : Int} (h : newF p q = (n, d, 0)) : validB n d = true := by
  unfold newF at h
  split at h
  · simp at h
  · split at h
    · simp at h
    · exact low_valid (by omega) h
theorem newF_self {n d : Int} : validB n d = true ↔ newF n d = (n, d, 0) := by
  constructor
  · intro h
    obtain ⟨h1, h2, h3, h4⟩ := valid_iff.1 h
    unfold M at h2 h3
    rw [newF_pos (by omega) (by omega) (by omega), low_self h]
  · exact newF_ok
theorem newF_err (p q : Int) : newF p q = (0, 0, 6) ∨ newF p q = (0, 0, 5) ∨ ∃ n d, newF p q = (n, d, 0) := by
  unfold newF
  split
  · exact .inl rfl
  · split
    · exact .inr (.inl rfl)
    · exact .inr (low_err _ _)

theorem cmp_sign {n1 d1 n2 d2 : Int} (h1 : validB n1 d1 = true) (h2 : validB n2 d2 = true) : cmpF n1 d1 n2 d2 = (n1 * d2 - n2 * d1).sign := by
  unfold cmpF; simp [h1, h2]
theorem cmp_swap (n1 d1 n2 d2 : Int) : cmpF n1 d1 n2 d2 = - cmpF n2 d2 n1 d1 := by
  unfold cmpF
  rw [Bool.and_comm]
  split
  · rw [← Int.sign_neg]; congr 1; omega
  · rfl
theorem cmp_zero {n1 d1 n2 d2 : Int} (h1 : validB n1 d1 = true) (h2 : validB n2 d2 = true) : cmpF n1 d1 n2 d2 = 0 ↔ n1 = n2 ∧ d1 = d2 := by
  rw [cmp_sign h1 h2, Int.sign_eq_zero_iff_zero]
  constructor
  · intro h; exact valid_unique h1 h2 (by omega)
  · rintro ⟨rfl, rfl⟩; omega
theorem sign_le_zero {x : Int} : x.sign ≤ 0 ↔ x ≤ 0 := by
  rcases Int.lt_trichotomy x 0 with h | h | h
  · rw [Int.sign_eq_neg_one_of_neg h]; omega
  · subst h; simp
  · rw [Int.sign_eq_one_of_pos h]; omega
theorem cmp_trans {n1 d1 n2 d2 n3 d3 : Int} (v1 : validB n1 d1 = true) (v2 : validB n2 d2 = true) (v3 : validB n3 d3 = true)
    (h1 : cmpF n1 d1 n2 d2 ≤ 0) (h2 : cmpF n2 d2 n3 d3 ≤ 0) : cmpF n1 d1 n3 d3 ≤ 0 := by
  rw [cmp_sign v1 v2, sign_le_zero] at h1
  rw [cmp_sign v2 v3, sign_le_zero] at h2
  rw [cmp_sign v1 v3, sign_le_zero]
  have a1 := (valid_iff.1 v1).1
  have a2 := (valid_iff.1 v2).1
  have a3 := (valid_iff.1 v3).1
  have k1 : (n1 * d2) * d3 ≤ (n2 * d1) * d3 := Int.mul_le_mul_of_nonneg_right (by omega) (by omega)
  have k2 : (n2 * d3) * d1 ≤ (n3 * d2) * d1 := Int.mul_le_mul_of_nonneg_right (by omega) (by omega)
  have k3 : (n1 * d3) * d2 ≤ (n3 * d1) * d2 := by
    have e1 : (n1 * d3) * d2 = (n1 * d2) * d3 := by grind
    have e2 : (n2 * d1) * d3 = (n2 * d3) * d1 := by grind
    have e3 : (n3 * d1) * d2 = (n3 * d2) * d1 := by grind
    omega
  have := Int.le_of_mul_le_mul_right k3 (by omega)
  omega
/-- the sums, or products, in lowest terms compare as the numbers themselves -/
theorem cmp_low {p1 p2 : Int} {q1 q2 : Nat} {n1 d1 n2 d2 : Int} (h1 : 0 < q1) (h2 : 0 < q2) (e1 : low p1 q1 = (n1, d1, 0)) (e2 : low p2 q2 = (n2, d2, 0)) :
    cmpF n1 d1 n2 d2 = (p1 * q2 - p2 * q1).sign := by
  rw [cmp_sign (low_valid h1 e1) (low_valid h2 e2)]
  obtain ⟨k1, a1, _⟩ := low_ok h1 e1
  obtain ⟨k2, a2, _⟩ := low_ok h2 e2
  refine sign_scale (K := (q1 : Int) * q2) (L := d1 * d2) (Int.mul_pos (by omega) (by omega)) (Int.mul_pos (by omega) (by omega)) ?_
  grind
theorem addF_v {n1 d1 n2 d2 : Int} (h1 : validB n1 d1 = true) (h2 : validB n2 d2 = true) : addF n1 d1 n2 d2 = low (n1 * d2 + n2 * d1) (d1 * d2).natAbs := by
  unfold addF; simp [h1, h2]
theorem mulF_v {n1 d1 n2 d2 : Int} (h1 : validB n1 d1 = true) (h2 : validB n2 d2 = true) : mulF n1 d1 n2 d2 = low (n1 * n2) (d1 * d2).natAbs := by
  unfold mulF; simp [h1, h2]
theorem cmp_add {n1 d1 n2 d2 n3 d3 x1 y1 x2 y2 : Int} (v1 : validB n1 d1 = true) (v2 : validB n2 d2 = true) (v3 : validB n3 d3 = true)
    (e1 : addF n1 d1 n3 d3 = (x1, y1, 0)) (e2 : addF n2 d2 n3 d3 = (x2, y2, 0)) : cmpF x1 y1 x2 y2 = cmpF n1 d1 n2 d2 := by
  have a1 := (valid_iff.1 v1).1
  have a2 := (valid_iff.1 v2).1
  have a3 := (valid_iff.1 v3).1
  rw [addF_v v1 v3] at e1
  rw [addF_v v2 v3] at e2
  obtain ⟨i1, i1'⟩ := natAbs_mul_pos (a := d1) (b := d3) (by omega) (by omega)
  obtain ⟨i2, i2'⟩ := natAbs_mul_pos (a := d2) (b := d3) (by omega) (by omega)
  rw [cmp_low i1' i2' e1 e2, cmp_sign v1 v2, i1, i2]
  refine sign_scale (K := 1) (L := d3 * d3) (by omega) (Int.mul_pos (by omega) (by omega)) ?_
  grind
theorem cmp_mul {n1 d1 n2 d2 n3 d3 x1 y1 x2 y2 : Int} (v1 : validB n1 d1 = true) (v2 : validB n2 d2 = true) (v3 : validB n3 d3 = true) (hp : 0 < n3)
    (e1 : mulF n1 d1 n3 d3 = (x1, y1, 0)) (e2 : mulF n2 d2 n3 d3 = (x2, y2, 0)) : cmpF x1 y1 x2 y2 = cmpF n1 d1 n2 d2 := by
  have a1 := (valid_iff.1 v1).1
  have a2 := (valid_iff.1 v2).1
  have a3 := (valid_iff.1 v3).1
  rw [mulF_v v1 v3] at e1
  rw [mulF_v v2 v3] at e2
  obtain ⟨i1, i1'⟩ := natAbs_mul_pos (a := d1) (b := d3) (by omega) (by omega)
  obtain ⟨i2, i2'⟩ := natAbs_mul_pos (a := d2) (b := d3) (by omega) (by omega)
  rw [cmp_low i1' i2' e1 e2, cmp_sign v1 v2, i1, i2]
  refine sign_scale (K := 1) (L := n3 * d3) (by omega) (Int.mul_pos (by omega) (by omega)) ?_
  grind
theorem cmp_between {n1 d1 n2 d2 x y : Int} (v1 : validB n1 d1 = true) (v2 : validB n2 d2 = true) (e : low (n1 + n2) (d1 + d2).natAbs = (x, y, 0)) :
    cmpF n1 d1 x y = cmpF n1 d1 n2 d2 ∧ cmpF x y n2 d2 = cmpF n1 d1 n2 d2 := by
  have a1 := (valid_iff.1 v1).1
  have a2 := (valid_iff.1 v2).1
  have hq : 0 < (d1 + d2).natAbs := by omega
  have vx := low_valid hq e
  obtain ⟨k, ay, _⟩ := low_ok hq e
  rw [show (((d1 + d2).natAbs : Nat) : Int) = d1 + d2 by omega] at k
  rw [cmp_sign v1 vx, cmp_sign vx v2, cmp_sign v1 v2]
  constructor
  · refine sign_scale (K := d1 + d2) (L := y) (by omega) (by omega) ?_
    grind
  · refine sign_scale (K := d1 + d2) (L := y) (by omega) (by omega) ?_
    grind
/-- Sub and Compare agree on the sign -/
theorem sub_sign {n1 d1 n2 d2 x y : Int} (e : addF n1 d1 (-n2) d2 = (x, y, 0)) : cmpF n1 d1 n2 d2 = x.sign := by
  unfold addF at e
  unfold cmpF
  rw [valid_neg] at e
  split at e
  · next h =>
    rw [if_pos h]
    simp only [Bool.and_eq_true] at h
    have a1 := (valid_iff.1 h.1).1
    have a2 := (valid_iff.1 h.2).1
    obtain ⟨_, _, _, _, _, hs⟩ := low_ok (natAbs_mul_pos (a := d1) (b := d2) (by omega) (by omega)).2 e
    rw [hs]; congr 1; grind
  · simp at e


/-- n over d is the number p over q, in lowest terms -/
def Is (n d : Int) (p q : Int) : Prop := validB n d = true ∧ n * q = p * d ∧ 0 < q
theorem Is.pos {n d p q : Int} (h : Is n d p q) : 0 < d := by have := (valid_iff.1 h.1).1; omega
theorem Is.unique {n d n' d' p q p' q' : Int} (h : Is n d p q) (h' : Is n' d' p' q') (e : p * q' = p' * q) : n = n' ∧ d = d' := by
  refine valid_unique h.1 h'.1 ?_
  have k1 := h.2.1; have k2 := h'.2.1
  have q1 := h.2.2; have q2 := h'.2.2
  have : (n * d') * (q * q') = (n' * d) * (q * q') := by grind
  exact Int.eq_of_mul_eq_mul_right (by have := Int.mul_pos q1 q2; omega) this
theorem Is.self {n d : Int} (h : validB n d = true) : Is n d n d := ⟨h, rfl, by have := (valid_iff.1 h).1; omega⟩
theorem is_low {p q n d : Int} (hq : 0 < q) (h : low p q.natAbs = (n, d, 0)) : Is n d p q := by
  have hq' : 0 < q.natAbs := by omega
  obtain ⟨k, _⟩ := low_ok hq' h
  exact ⟨low_valid hq' h, by rw [show ((q.natAbs : Nat) : Int) = q by omega] at k; exact k, hq⟩
theorem low_same {p q p' q' : Int} (hq : 0 < q) (hq' : 0 < q') (h : p * q' = p' * q) : low p q.natAbs = low p' q'.natAbs :=
  low_eq (by omega) (by omega) (by rw [show ((q.natAbs : Nat) : Int) = q by omega, show ((q'.natAbs : Nat) : Int) = q' by omega]; exact h)
/-- a sum of two numbers whose sum is small -/
theorem add_is {n1 d1 n2 d2 p1 q1 p2 q2 : Int} (h1 : Is n1 d1 p1 q1) (h2 : Is n2 d2 p2 q2) (hb : (p1 * q2 + p2 * q1).natAbs ≤ M) (hq : (q1 * q2).natAbs ≤ M) :
    ∃ n d, addF n1 d1 n2 d2 = (n, d, 0) ∧ Is n d (p1 * q2 + p2 * q1) (q1 * q2) := by
  have hp := Int.mul_pos h1.2.2 h2.2.2
  have e : addF n1 d1 n2 d2 = low (p1 * q2 + p2 * q1) (q1 * q2).natAbs := by
    rw [addF_v h1.1 h2.1]
    refine low_same (Int.mul_pos h1.pos h2.pos) hp ?_
    have k1 := h1.2.1; have k2 := h2.2.1
    grind
  obtain ⟨n, d, hl⟩ := low_small hb hq
  exact ⟨n, d, by rw [e, hl], is_low hp hl⟩
theorem mul_is {n1 d1 n2 d2 p1 q1 p2 q2 : Int} (h1 : Is n1 d1 p1 q1) (h2 : Is n2 d2 p2 q2) (hb : (p1 * p2).natAbs ≤ M) (hq : (q1 * q2).natAbs ≤ M) :
    ∃ n d, mulF n1 d1 n2 d2 = (n, d, 0) ∧ Is n d (p1 * p2) (q1 * q2) := by
  have hp := Int.mul_pos h1.2.2 h2.2.2
  have e : mulF n1 d1 n2 d2 = low (p1 * p2) (q1 * q2).natAbs := by
    rw [mulF_v h1.1 h2.1]
    refine low_same (Int.mul_pos h1.pos h2.pos) hp ?_
    have k1 := h1.2.1; have k2 := h2.2.1
    grind
  obtain ⟨n, d, hl⟩ := low_small hb hq
  exact ⟨n, d, by rw [e, hl], is_low hp hl⟩
theorem Is.neg {n d p q : Int} (h : Is n d p q) : Is (-n) d (-p) q := ⟨by rw [valid_neg]; exact h.1, by have := h.2.1; grind, h.2.2⟩

/-- numbers with small numerators and denominators -/
def Sm (n d : Int) : Prop := validB n d = true ∧ -500 ≤ n ∧ n ≤ 500 ∧ 1 ≤ d ∧ d ≤ 500
theorem absb {x a y b : Int} {A B : Nat} (h1 : x.natAbs ≤ A) (h2 : y.natAbs ≤ B) : (x * y).natAbs ≤ A * B := by
  rw [Int.natAbs_mul]; exact Nat.mul_le_mul h1 h2
theorem abss {x y : Int} {A B : Nat} (h1 : x.natAbs ≤ A) (h2 : y.natAbs ≤ B) : (x + y).natAbs ≤ A + B := by omega
structure Field (a b a' b' a'' b'' : Int) : Prop where
  all : ∃ abn abd bcn bcd xn xd, addF a b a' b' = (abn, abd, 0) ∧ addF a' b' a'' b'' = (bcn, bcd, 0) ∧ addF abn abd a'' b'' = (xn, xd, 0) ∧ addF a b bcn bcd = (xn, xd, 0) ∧
    ∃ mn md nn nd zn zd, mulF a b a' b' = (mn, md, 0) ∧ mulF a b a'' b'' = (nn, nd, 0) ∧ mulF a b bcn bcd = (zn, zd, 0) ∧ addF mn md nn nd = (zn, zd, 0) ∧
    ∃ un ud, mulF mn md a'' b'' = (un, ud, 0) ∧ mulF nn nd a' b' = (un, ud, 0) ∧ addF abn abd (-a') b' = (a, b, 0) ∧
    ((a' = 0 ∧ divF mn md a' b' = (0, 0, 6)) ∨ (¬ a' = 0 ∧ divF mn md a' b' = (a, b, 0)))
theorem nab (x : Int) (A : Nat) (h1 : -(A : Int) ≤ x) (h2 : x ≤ A) : x.natAbs ≤ A := by omega
theorem field_sm {a b a' b' a'' b'' : Int} (s1 : Sm a b) (s2 : Sm a' b') (s3 : Sm a'' b'') : Field a b a' b' a'' b'' := by
  obtain ⟨v1, l1, u1, l1', u1'⟩ := s1
  obtain ⟨v2, l2, u2, l2', u2'⟩ := s2
  obtain ⟨v3, l3, u3, l3', u3'⟩ := s3
  have na : a.natAbs ≤ 500 := by omega
  have nb : b.natAbs ≤ 500 := by omega
  have na' : a'.natAbs ≤ 500 := by omega
  have nb' : b'.natAbs ≤ 500 := by omega
  have na'' : a''.natAbs ≤ 500 := by omega
  have nb'' : b''.natAbs ≤ 500 := by omega
  have i1 := Is.self v1
  have i2 := Is.self v2
  have i3 := Is.self v3
  obtain ⟨abn, abd, eab, iab⟩ := add_is i1 i2 (Nat.le_trans (abss (absb (a := 0) (b := 0) na nb') (absb (a := 0) (b := 0) na' nb)) (by decide)) (Nat.le_trans (absb (a := 0) (b := 0) nb nb') (by decide))
  obtain ⟨bcn, bcd, ebc, ibc⟩ := add_is i2 i3 (Nat.le_trans (abss (absb (a := 0) (b := 0) na' nb'') (absb (a := 0) (b := 0) na'' nb')) (by decide)) (Nat.le_trans (absb (a := 0) (b := 0) nb' nb'') (by decide))
  obtain ⟨xn, xd, ex, ix⟩ := add_is iab i3 (Nat.le_trans (abss (absb (a := 0) (b := 0) (abss (absb (a := 0) (b := 0) na nb') (absb (a := 0) (b := 0) na' nb)) nb'') (absb (a := 0) (b := 0) na'' (absb (a := 0) (b := 0) nb nb'))) (by decide)) (Nat.le_trans (absb (a := 0) (b := 0) (absb (a := 0) (b := 0) nb nb') nb'') (by decide))
  obtain ⟨yn, yd, ey, iy⟩ := add_is i1 ibc (Nat.le_trans (abss (absb (a := 0) (b := 0) na (absb (a := 0) (b := 0) nb' nb'')) (absb (a := 0) (b := 0) (abss (absb (a := 0) (b := 0) na' nb'') (absb (a := 0) (b := 0) na'' nb')) nb)) (by decide)) (Nat.le_trans (absb (a := 0) (b := 0) nb (absb (a := 0) (b := 0) nb' nb'')) (by decide))
  obtain ⟨rfl, rfl⟩ := ix.unique iy (by grind)
  obtain ⟨mn, md, em, im⟩ := mul_is i1 i2 (Nat.le_trans (absb (a := 0) (b := 0) na na') (by decide)) (Nat.le_trans (absb (a := 0) (b := 0) nb nb') (by decide))
  obtain ⟨nn, nd, en, in_⟩ := mul_is i1 i3 (Nat.le_trans (absb (a := 0) (b := 0) na na'') (by decide)) (Nat.le_trans (absb (a := 0) (b := 0) nb nb'') (by decide))
  obtain ⟨zn, zd, ez, iz⟩ := mul_is i1 ibc (Nat.le_trans (absb (a := 0) (b := 0) na (abss (absb (a := 0) (b := 0) na' nb'') (absb (a := 0) (b := 0) na'' nb'))) (by decide)) (Nat.le_trans (absb (a := 0) (b := 0) nb (absb (a := 0) (b := 0) nb' nb'')) (by decide))
  obtain ⟨tn, td, et, it⟩ := add_is im in_ (Nat.le_trans (abss (absb (a := 0) (b := 0) (absb (a := 0) (b := 0) na na') (absb (a := 0) (b := 0) nb nb'')) (absb (a := 0) (b := 0) (absb (a := 0) (b := 0) na na'') (absb (a := 0) (b := 0) nb nb'))) (by decide)) (Nat.le_trans (absb (a := 0) (b := 0) (absb (a := 0) (b := 0) nb nb') (absb (a := 0) (b := 0) nb nb'')) (by decide))
  obtain ⟨rfl, rfl⟩ := iz.unique it (by grind)
  obtain ⟨un, ud, eu, iu⟩ := mul_is im i3 (Nat.le_trans (absb (a := 0) (b := 0) (absb (a := 0) (b := 0) na na') na'') (by decide)) (Nat.le_trans (absb (a := 0) (b := 0) (absb (a := 0) (b := 0) nb nb') nb'') (by decide))
  obtain ⟨wn, wd, ew, iw⟩ := mul_is in_ i2 (Nat.le_trans (absb (a := 0) (b := 0) (absb (a := 0) (b := 0) na na'') na') (by decide)) (Nat.le_trans (absb (a := 0) (b := 0) (absb (a := 0) (b := 0) nb nb'') nb') (by decide))
  obtain ⟨rfl, rfl⟩ := iu.unique iw (by grind)
  obtain ⟨on, od, eo, io⟩ := add_is iab i2.neg (Nat.le_trans (abss (absb (a := 0) (b := 0) (abss (absb (a := 0) (b := 0) na nb') (absb (a := 0) (b := 0) na' nb)) nb') (absb (a := 0) (b := 0) (by omega : (-a').natAbs ≤ 500) (absb (a := 0) (b := 0) nb nb'))) (by decide)) (Nat.le_trans (absb (a := 0) (b := 0) (absb (a := 0) (b := 0) nb nb') nb') (by decide))
  obtain ⟨rfl, rfl⟩ := io.unique i1 (by grind)
  refine ⟨abn, abd, bcn, bcd, _, _, eab, ebc, ex, ey, mn, md, nn, nd, _, _, em, en, ez, et, un, ud, eu, ew, eo, ?_⟩
  by_cases h0 : a' = 0
  · refine .inl ⟨h0, ?_⟩
    unfold divF; simp [im.1, v2, h0]
    rw [h0] at v2
    simp [v2]
  · refine .inr ⟨h0, ?_⟩
    have vi : validB b' a' = true ∨ validB (-b') (-a') = true := by
      obtain ⟨k1, k2, k3, k4⟩ := valid_iff.1 v2
      rcases Int.lt_or_lt_of_ne h0 with hn | hn
      · right; refine valid_iff.2 ⟨by omega, by unfold M at *; omega, by unfold M at *; omega, by rw [Int.natAbs_neg, Int.natAbs_neg, Nat.gcd_comm]; exact k4⟩
      · left; refine valid_iff.2 ⟨by omega, by unfold M at *; omega, by unfold M at *; omega, by rw [Nat.gcd_comm]; exact k4⟩
    unfold divF
    rw [if_pos (by simp [im.1, v2]), if_neg h0]
    split
    · next hn =>
      have vn : validB (-b') (-a') = true := by
        rcases vi with vi | vi
        · have := (valid_iff.1 vi).1; omega
        · exact vi
      obtain ⟨rn, rd, er, ir⟩ := mul_is im (Is.self vn) (Nat.le_trans (absb (a := 0) (b := 0) (absb (a := 0) (b := 0) na na') (by omega : (-b').natAbs ≤ 500)) (by decide)) (Nat.le_trans (absb (a := 0) (b := 0) (absb (a := 0) (b := 0) nb nb') (by omega : (-a').natAbs ≤ 500)) (by decide))
      obtain ⟨rfl, rfl⟩ := ir.unique i1 (by grind)
      exact er
    · next hn =>
      have vn : validB b' a' = true := by
        rcases vi with vi | vi
        · exact vi
        · have := (valid_iff.1 vi).1; omega
      obtain ⟨rn, rd, er, ir⟩ := mul_is im (Is.self vn) (Nat.le_trans (absb (a := 0) (b := 0) (absb (a := 0) (b := 0) na na') nb') (by decide)) (Nat.le_trans (absb (a := 0) (b := 0) (absb (a := 0) (b := 0) nb nb') na') (by decide))
      obtain ⟨rfl, rfl⟩ := ir.unique i1 (by grind)
      exact er


/-- what the program computes for a sum that is not 0 -/
theorem prog_add {n1 n2 : Int} {d1 d2 : Nat} (p1 : 0 < d1) (p2 : 0 < d2) (c1 : Nat.gcd n1.natAbs d1 = 1) (c2 : Nat.gcd n2.natAbs d2 = 1)
    {g : Nat} (hg : g = Nat.gcd d1 d2) {t : Int} (ht : t = n1 * ((d2 / g : Nat) : Int) + n2 * ((d1 / g : Nat) : Int)) {h : Nat} (hh : h = Nat.gcd t.natAbs g) :
    low (n1 * d2 + n2 * d1) (d1 * d2) = if t.natAbs / h ≤ M ∧ (d1 / g) * (d2 / h) ≤ M then (t.sign * ((t.natAbs / h : Nat) : Int), (((d1 / g) * (d2 / h) : Nat) : Int), 0) else (0, 0, 5) := by
  have g0 : 0 < g := by rw [hg]; exact Nat.gcd_pos_of_pos_left _ p1
  obtain ⟨e1, he1⟩ : ∃ e1, d1 = g * e1 := by rw [hg]; exact Nat.gcd_dvd_left _ _
  obtain ⟨e2, he2⟩ : ∃ e2, d2 = g * e2 := by rw [hg]; exact Nat.gcd_dvd_right _ _
  have q1 : d1 / g = e1 := by rw [he1, Nat.mul_div_cancel_left _ g0]
  have q2 : d2 / g = e2 := by rw [he2, Nat.mul_div_cancel_left _ g0]
  have c12 : Nat.gcd e1 e2 = 1 := by
    have := Nat.coprime_div_gcd_div_gcd (m := d1) (n := d2) (by rw [← hg]; exact g0)
    rw [← hg, q1, q2] at this
    exact this
  rw [q1, q2] at ht
  rw [q1]
  have hc := add_core n1 n2 g e1 e2 c12 (by rw [← he1]; exact c1) (by rw [← he2]; exact c2)
  rw [← ht, ← hh] at hc
  have hp : n1 * d2 + n2 * d1 = (g : Int) * t := by
    rw [ht, he1, he2]; push_cast; grind
  have hpa : (n1 * d2 + n2 * d1).natAbs = g * t.natAbs := by rw [hp, Int.natAbs_mul, Int.natAbs_natCast]
  have hq : d1 * d2 = g * (g * (e1 * e2)) := by rw [he1, he2]; grind
  have hps : (n1 * d2 + n2 * d1).sign = t.sign := by
    rw [hp, Int.sign_mul, Int.sign_eq_one_of_pos (by omega)]; simp
  have hG : Nat.gcd (n1 * d2 + n2 * d1).natAbs (d1 * d2) = g * h := by
    rw [hpa, hq, Nat.gcd_mul_left, hc]
  have h0 : 0 < h := by rw [hh]; exact Nat.gcd_pos_of_pos_right _ g0
  have hd : h ∣ g := by rw [hh]; exact Nat.gcd_dvd_right _ _
  have r1 : (n1 * d2 + n2 * d1).natAbs / (g * h) = t.natAbs / h := by rw [hpa, Nat.mul_div_mul_left _ _ g0]
  have r2 : (d1 * d2) / (g * h) = e1 * (d2 / h) := by
    rw [hq, Nat.mul_div_mul_left _ _ g0, he2]
    obtain ⟨k, rfl⟩ := hd
    rw [show h * k * (e1 * e2) = h * (k * (e1 * e2)) by grind, Nat.mul_div_cancel_left _ h0, show h * k * e2 = h * (k * e2) by grind, Nat.mul_div_cancel_left _ h0]
    grind
  unfold low
  rw [hG, r1, r2, hps]

theorem prog_mul {n1 n2 : Int} {d1 d2 : Nat} (p1 : 0 < d1) (p2 : 0 < d2) (c1 : Nat.gcd n1.natAbs d1 = 1) (c2 : Nat.gcd n2.natAbs d2 = 1)
    {g h : Nat} (hg : g = Nat.gcd n1.natAbs d2) (hh : h = Nat.gcd n2.natAbs d1) :
    low (n1 * n2) (d1 * d2) = if (n1.natAbs / g) * (n2.natAbs / h) ≤ M ∧ (d1 / h) * (d2 / g) ≤ M then ((n1 * n2).sign * (((n1.natAbs / g) * (n2.natAbs / h) : Nat) : Int), (((d1 / h) * (d2 / g) : Nat) : Int), 0) else (0, 0, 5) := by
  have g0 : 0 < g := by rw [hg]; exact Nat.gcd_pos_of_pos_right _ p2
  have h0 : 0 < h := by rw [hh]; exact Nat.gcd_pos_of_pos_right _ p1
  obtain ⟨A, hA⟩ : ∃ A, n1.natAbs = g * A := by rw [hg]; exact Nat.gcd_dvd_left _ _
  obtain ⟨B, hB⟩ : ∃ B, d2 = g * B := by rw [hg]; exact Nat.gcd_dvd_right _ _
  obtain ⟨C, hC⟩ : ∃ C, n2.natAbs = h * C := by rw [hh]; exact Nat.gcd_dvd_left _ _
  obtain ⟨D, hD⟩ : ∃ D, d1 = h * D := by rw [hh]; exact Nat.gcd_dvd_right _ _
  have qA : n1.natAbs / g = A := by rw [hA, Nat.mul_div_cancel_left _ g0]
  have qB : d2 / g = B := by rw [hB, Nat.mul_div_cancel_left _ g0]
  have qC : n2.natAbs / h = C := by rw [hC, Nat.mul_div_cancel_left _ h0]
  have qD : d1 / h = D := by rw [hD, Nat.mul_div_cancel_left _ h0]
  have cAB : Nat.Coprime A B := by
    have := Nat.coprime_div_gcd_div_gcd (m := n1.natAbs) (n := d2) (by rw [← hg]; exact g0)
    rw [← hg, qA, qB] at this
    exact this
  have cCD : Nat.Coprime C D := by
    have := Nat.coprime_div_gcd_div_gcd (m := n2.natAbs) (n := d1) (by rw [← hh]; exact h0)
    rw [← hh, qC, qD] at this
    exact this
  have cAD : Nat.Coprime A D := by
    have : Nat.Coprime (g * A) (h * D) := by rw [← hA, ← hD]; exact c1
    exact (this.coprime_dvd_left (Nat.dvd_mul_left _ _)).coprime_dvd_right (Nat.dvd_mul_left _ _)
  have cCB : Nat.Coprime C B := by
    have : Nat.Coprime (h * C) (g * B) := by rw [← hC, ← hB]; exact c2
    exact (this.coprime_dvd_left (Nat.dvd_mul_left _ _)).coprime_dvd_right (Nat.dvd_mul_left _ _)
  have hc : Nat.gcd (A * C) (D * B) = 1 := Nat.Coprime.mul_left (Nat.Coprime.mul_right cAD cAB) (Nat.Coprime.mul_right cCD cCB)
  have hpa : (n1 * n2).natAbs = (g * h) * (A * C) := by rw [Int.natAbs_mul, hA, hC]; grind
  have hq : d1 * d2 = (g * h) * (D * B) := by rw [hD, hB]; grind
  have hG : Nat.gcd (n1 * n2).natAbs (d1 * d2) = g * h := by rw [hpa, hq, Nat.gcd_mul_left, hc, Nat.mul_one]
  have gh0 := Nat.mul_pos g0 h0
  unfold low
  rw [hG, hpa, hq, Nat.mul_div_cancel_left _ gh0, Nat.mul_div_cancel_left _ gh0, qA, qB, qC, qD]
end FracM

namespace Go.Proofs.YtcifgobinleldaaGreatDoor
end Go.Proofs.YtcifgobinleldaaGreatDoor
