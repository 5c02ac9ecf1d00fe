/- Add, Sub; Div by zero. -/
import Derived.Test.YtinbfdfgebiaeaaDoorFj
set_option linter.unusedVariables false
set_option linter.unusedSimpArgs false
namespace Go.Proofs.YtinbfdfgebiaeaaDoor
open Go.RowKit FracM

theorem add_any (n1 d1 n2 d2 : Int) (w : World) (l1 : -9223372036854775808 ≤ n1) (u1 : n1 ≤ 9223372036854775807) (l2 : -9223372036854775808 ≤ d1) (u2 : d1 ≤ 9223372036854775807) (l3 : -9223372036854775808 ≤ n2) (u3 : n2 ≤ 9223372036854775807) (l4 : -9223372036854775808 ≤ d2) (u4 : d2 ≤ 9223372036854775807) :
    Calls Tryd.prog 30 #[.agg #[.int .i64 n1, .int .i64 d1], .agg #[.int .i64 n2, .int .i64 d2]] w (RetF (addF n1 d1 n2 d2) w) := by
  by_cases v1 : validB n1 d1 = true
  case neg => exact add_bad1 n1 d1 n2 d2 w l1 u1 l2 u2 l3 u3 l4 u4 (by simpa using v1)
  by_cases v2 : validB n2 d2 = true
  case neg => exact add_bad2 n1 d1 n2 d2 w l1 u1 l2 u2 l3 u3 l4 u4 v1 (by simpa using v2)
  have a1 := (valid_bd v1).2.1
  have a2 := (valid_bd v2).2.1
  obtain ⟨D1, rfl⟩ : ∃ D1 : Nat, d1 = (D1 : Int) := ⟨d1.toNat, by omega⟩
  obtain ⟨D2, rfl⟩ : ∃ D2 : Nat, d2 = (D2 : Int) := ⟨d2.toNat, by omega⟩
  exact add_good n1 n2 D1 D2 w v1 v2

theorem low_bd (p : Int) (q : Nat) : -4611686018427387904 ≤ (low p q).1 ∧ (low p q).1 ≤ 4611686018427387904 ∧ 0 ≤ (low p q).2.1 ∧ (low p q).2.1 ≤ 4611686018427387904 ∧ 0 ≤ (low p q).2.2 ∧ (low p q).2.2 ≤ 6 := by
  by_cases hq : q = 0
  · subst hq
    unfold low
    by_cases hp : p = 0
    · subst hp; decide
    · have : p.natAbs / p.natAbs = 1 := Nat.div_self (by omega)
      simp only [Nat.gcd_zero_right, this, Nat.zero_div]
      rw [if_pos (by decide)]
      rcases Int.lt_or_lt_of_ne hp with h | h
      · rw [Int.sign_eq_neg_one_of_neg h]; decide
      · rw [Int.sign_eq_one_of_pos h]; decide
  · rcases low_err p q with h | ⟨n, d, h⟩
    · rw [h]; decide
    · obtain ⟨_, h1, h2, h3, _⟩ := low_ok (by omega) h
      unfold M at *
      rw [h]; simp only; omega
theorem add_bd (n1 d1 n2 d2 : Int) : -4611686018427387904 ≤ (addF n1 d1 n2 d2).1 ∧ (addF n1 d1 n2 d2).1 ≤ 4611686018427387904 ∧ 0 ≤ (addF n1 d1 n2 d2).2.1 ∧ (addF n1 d1 n2 d2).2.1 ≤ 4611686018427387904 ∧ 0 ≤ (addF n1 d1 n2 d2).2.2 ∧ (addF n1 d1 n2 d2).2.2 ≤ 6 := by
  unfold addF; split
  · exact low_bd _ _
  · decide
def subF (n1 d1 n2 d2 : Int) : Int × Int × Int := addF n1 d1 (-n2) d2
theorem sub_no {n1 d1 n2 d2 : Int} (h : validB n1 d1 = false ∨ validB n2 d2 = false) : subF n1 d1 n2 d2 = (0, 0, 1) := by
  unfold subF; exact add_no (by rw [valid_neg]; exact h)

theorem div_zero_any (n1 d1 d2 : Int) (w : World) (v1 : validB n1 d1 = true) (v2 : validB 0 d2 = true) :
    Calls Tryd.prog 31 #[.agg #[.int .i64 n1, .int .i64 d1], .agg #[.int .i64 0, .int .i64 d2]] w (RetF (0, 0, 6) w) := by
  obtain ⟨x1, x2, x3⟩ := valid_bd v1
  obtain ⟨y1, y2, y3⟩ := valid_bd v2
  go_enter Tryd.func31, Tryd.ntmps31
  go_wp2_with fail
  refine (valid_any n1 d1 _ (by omega) (by omega) (by omega) (by omega)).mono ?_
  rintro e w1 ⟨rfl, hb1⟩
  rw [v1]
  have HB1 : Hid (Bx3 w w1 n1 d1 0 d2) := (Bx3.start w n1 d1 0 d2).next hb1
  clear hb1
  obtain ⟨p0, p1⟩ := HB1.out.b0.c2
  obtain ⟨q0, q1⟩ := HB1.out.b1.c2
  obtain ⟨r0, r1⟩ := HB1.out.b2.c2
  have rf := HB1.out.b2.frozen
  go_wp2_with fail
  refine (valid_any 0 d2 _ (by omega) (by omega) (by omega) (by omega)).mono ?_
  rintro e w2 ⟨rfl, hb2⟩
  rw [v2]
  have HB2 : Hid (Bx3 w w2 n1 d1 0 d2) := HB1.out.next hb2
  clear hb2 p0 p1 q0 q1 r0 r1 rf HB1
  obtain ⟨p0, p1⟩ := HB2.out.b0.c2
  obtain ⟨q0, q1⟩ := HB2.out.b1.c2
  obtain ⟨r0, r1⟩ := HB2.out.b2.c2
  have rf := HB2.out.b2.frozen
  have hz := HB2.out.b2.lt
  go_wp2_with fail
  exact bodyPost_ret (v := .tuple #[.agg #[.int .i64 0, .int .i64 0], .int .i64 6]) (by simp [results, Tryd.results31, go_sem, r0, r1]) rfl (retF rfl rfl (bset2 HB2.out.below (by omega) _ _))
end Go.Proofs.YtinbfdfgebiaeaaDoor
