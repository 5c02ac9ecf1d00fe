/- Mul whole, Div of the reference. -/
import Derived.Test.YtlplligfnbkofaaDoorNj
set_option linter.unusedVariables false
set_option linter.unusedSimpArgs false
namespace Go.Proofs.YtlplligfnbkofaaDoor
open Go.RowKit FracM DigM

theorem rMul_any (n1 d1 n2 d2 : Int) (w : World) (l1 : -9223372036854775808 ≤ n1) (u1 : n1 ≤ 9223372036854775807) (l2 : -9223372036854775808 ≤ d1) (u2 : d1 ≤ 9223372036854775807) (l3 : -9223372036854775808 ≤ n2) (u3 : n2 ≤ 9223372036854775807) (l4 : -9223372036854775808 ≤ d2) (u4 : d2 ≤ 9223372036854775807) : Calls Tryd.prog 19 #[.agg #[.int .i64 n1, .int .i64 d1], .agg #[.int .i64 n2, .int .i64 d2]] w (RetF (mulF n1 d1 n2 d2) w) := by
  by_cases v1 : validB n1 d1 = true
  · by_cases v2 : validB n2 d2 = true
    · obtain ⟨D1, rfl⟩ : ∃ D : Nat, d1 = D := ⟨d1.natAbs, by have := (valid_bd v1).2.1; omega⟩
      obtain ⟨D2, rfl⟩ : ∃ D : Nat, d2 = D := ⟨d2.natAbs, by have := (valid_bd v2).2.1; omega⟩
      by_cases s1 : shortB n1 D1 = true
      · by_cases s2 : shortB n2 D2 = true
        · exact rMul_short n1 n2 D1 D2 w v1 v2 s1 s2
        · exact rMul_long n1 n2 D1 D2 w v1 v2 (.inr (by simpa using s2))
      · exact rMul_long n1 n2 D1 D2 w v1 v2 (.inl (by simpa using s1))
    · exact rMul_bad n1 d1 n2 d2 w l1 u1 l2 u2 l3 u3 l4 u4 (.inr (by simpa using v2))
  · exact rMul_bad n1 d1 n2 d2 w l1 u1 l2 u2 l3 u3 l4 u4 (.inl (by simpa using v1))
theorem rmul_e {n1 d1 n2 d2 a b c : Int} (w : World) (h : mulF n1 d1 n2 d2 = (a, b, c)) (f1 : Fit2 n1 d1) (f2 : Fit2 n2 d2) : Calls Tryd.prog 19 #[.agg #[.int .i64 n1, .int .i64 d1], .agg #[.int .i64 n2, .int .i64 d2]] w (RetE a b c w) := by
  have := rMul_any n1 d1 n2 d2 w f1.1 f1.2.1 f1.2.2.1 f1.2.2.2 f2.1 f2.2.1 f2.2.2.1 f2.2.2.2
  unfold RetF at this; rw [h] at this; exact this
set_option maxHeartbeats 1000000 in
theorem rDiv_bad (n1 d1 n2 d2 : Int) (w : World) (l1 : -9223372036854775808 ≤ n1) (u1 : n1 ≤ 9223372036854775807) (l2 : -9223372036854775808 ≤ d1) (u2 : d1 ≤ 9223372036854775807) (l3 : -9223372036854775808 ≤ n2) (u3 : n2 ≤ 9223372036854775807) (l4 : -9223372036854775808 ≤ d2) (u4 : d2 ≤ 9223372036854775807) (v : validB n1 d1 = false ∨ validB n2 d2 = false) : Calls Tryd.prog 20 #[.agg #[.int .i64 n1, .int .i64 d1], .agg #[.int .i64 n2, .int .i64 d2]] w (RetF (divF n1 d1 n2 d2) w) := by
  have E := Box.mk (div_no (n1 := n1) (d1 := d1) (n2 := n2) (d2 := d2) v)
  generalize v1 : validB n1 d1 = b1 at *
  generalize v2 : validB n2 d2 = b2 at *
  rcases v with rfl | rfl
  · cases b2
    all_goals
      go_enter Tryd.func20, Tryd.ntmps20
      go_wp2_with fail
      refine (rvalid_any n1 d1 _ (by omega) (by omega) (by omega) (by omega)).mono ?_
      rintro e w1 ⟨rfl, hb⟩
      rw [v1]
      have HB2 : Hid (Bx3 w w1 n1 d1 n2 d2) := (Bx3.start w n1 d1 n2 d2).next hb
      clear hb
      have HB := Lib.hid HB2.out; clear HB2
      obtain ⟨p0, p1⟩ := HB.out.b0.c2
      obtain ⟨q0, q1⟩ := HB.out.b1.c2
      go_wp2_with fail
      refine (rvalid_any n2 d2 _ (by omega) (by omega) (by omega) (by omega)).mono ?_
      rintro e w2 ⟨rfl, hb⟩
      rw [v2]
      have HB2 : Hid (Bx3 w w2 n1 d1 n2 d2) := HB.out.next hb
      clear hb p0 p1 q0 q1 HB
      have HB := Lib.hid HB2.out; clear HB2
      obtain ⟨p0, p1⟩ := HB.out.b0.c2
      obtain ⟨q0, q1⟩ := HB.out.b1.c2
      obtain ⟨p0, p1⟩ := HB.out.b0.c2
      obtain ⟨q0, q1⟩ := HB.out.b1.c2
      obtain ⟨r0, r1⟩ := HB.out.b2.c2
      have rf := HB.out.b2.frozen
      have hz := HB.out.b2.lt
      go_wp2_with fail
      exact bodyPost_ret (v := .tuple #[.agg #[.int .i64 0, .int .i64 0], .int .i64 1]) (by simp [results, Tryd.results20, go_sem, r0, r1, rf, hz]) rfl (retF E.out rfl (bset2 HB.out.below (by omega) _ _))
  · cases b1
    all_goals
      go_enter Tryd.func20, Tryd.ntmps20
      go_wp2_with fail
      refine (rvalid_any n1 d1 _ (by omega) (by omega) (by omega) (by omega)).mono ?_
      rintro e w1 ⟨rfl, hb⟩
      rw [v1]
      have HB2 : Hid (Bx3 w w1 n1 d1 n2 d2) := (Bx3.start w n1 d1 n2 d2).next hb
      clear hb
      have HB := Lib.hid HB2.out; clear HB2
      obtain ⟨p0, p1⟩ := HB.out.b0.c2
      obtain ⟨q0, q1⟩ := HB.out.b1.c2
      go_wp2_with fail
      refine (rvalid_any n2 d2 _ (by omega) (by omega) (by omega) (by omega)).mono ?_
      rintro e w2 ⟨rfl, hb⟩
      rw [v2]
      have HB2 : Hid (Bx3 w w2 n1 d1 n2 d2) := HB.out.next hb
      clear hb p0 p1 q0 q1 HB
      have HB := Lib.hid HB2.out; clear HB2
      obtain ⟨p0, p1⟩ := HB.out.b0.c2
      obtain ⟨q0, q1⟩ := HB.out.b1.c2
      obtain ⟨p0, p1⟩ := HB.out.b0.c2
      obtain ⟨q0, q1⟩ := HB.out.b1.c2
      obtain ⟨r0, r1⟩ := HB.out.b2.c2
      have rf := HB.out.b2.frozen
      have hz := HB.out.b2.lt
      go_wp2_with fail
      exact bodyPost_ret (v := .tuple #[.agg #[.int .i64 0, .int .i64 0], .int .i64 1]) (by simp [results, Tryd.results20, go_sem, r0, r1, rf, hz]) rfl (retF E.out rfl (bset2 HB.out.below (by omega) _ _))
set_option maxHeartbeats 1000000 in
set_option maxRecDepth 100000 in
theorem rDiv_good (n1 d1 n2 d2 : Int) (w : World) (v1 : validB n1 d1 = true) (v2 : validB n2 d2 = true) : Calls Tryd.prog 20 #[.agg #[.int .i64 n1, .int .i64 d1], .agg #[.int .i64 n2, .int .i64 d2]] w (RetF (divF n1 d1 n2 d2) w) := by
  obtain ⟨x1, x2, x3⟩ := valid_bd v1
  obtain ⟨y1, y2, y3⟩ := valid_bd v2
  rcases Int.lt_trichotomy n2 0 with t | t | t
  · obtain ⟨rx, ry, rc, hr⟩ : ∃ rx ry rc, mulF n1 d1 (-d2) (-n2) = (rx, ry, rc) := ⟨_, _, _, rfl⟩
    have HS : Box (divF n1 d1 n2 d2 = (rx, ry, rc)) := ⟨by rw [div_n v1 v2 t, hr]⟩
    have HR := Box.mk hr; clear hr
    have t0 : (n2 == 0) = false := by simp; omega
    have F1 : Box (Fit2 n1 d1) := ⟨by unfold Fit2; omega⟩
    have F2 : Box (Fit2 (-d2) (-n2)) := ⟨by unfold Fit2; omega⟩
    go_enter Tryd.func20, Tryd.ntmps20
    go_wp2_with fail
    refine (rvalid_any n1 _ _ (by omega) (by omega) (by omega) (by omega)).mono ?_
    rintro e w1 ⟨rfl, hb⟩
    rw [v1]
    have HB2 : Hid (Bx3 w w1 n1 d1 n2 d2) := (Bx3.start w n1 d1 n2 d2).next hb
    clear hb
    have HB := Lib.hid HB2.out; clear HB2
    obtain ⟨p0, p1⟩ := HB.out.b0.c2
    obtain ⟨q0, q1⟩ := HB.out.b1.c2
    go_wp2_with fail
    refine (rvalid_any n2 _ _ (by omega) (by omega) (by omega) (by omega)).mono ?_
    rintro e w2 ⟨rfl, hb⟩
    rw [v2]
    have HB2 : Hid (Bx3 w w2 n1 d1 n2 d2) := HB.out.next hb
    clear hb p0 p1 q0 q1 HB
    have HB := Lib.hid HB2.out; clear HB2
    obtain ⟨p0, p1⟩ := HB.out.b0.c2
    obtain ⟨q0, q1⟩ := HB.out.b1.c2
    obtain ⟨r0, r1⟩ := HB.out.b2.c2
    have rf := HB.out.b2.frozen
    have hz := HB.out.b2.lt
    go_wp2_with fail
    refine (rmul_e _ HR.out F1.out F2.out).mono ?_
    rintro e w5 ⟨rfl, hb⟩
    have HB2 : Hid (Bx3 w w5 n1 d1 n2 d2) := HB.out.next hb
    clear hb p0 p1 q0 q1 r0 r1 rf hz HB
    have HB := Lib.hid HB2.out; clear HB2
    obtain ⟨r0, r1⟩ := HB.out.b2.c2
    have rf := HB.out.b2.frozen
    have hz := HB.out.b2.lt
    go_wp2_with fail
    exact bodyPost_ret (v := .tuple #[.agg #[.int .i64 rx, .int .i64 ry], .int .i64 rc]) (by simp [results, Tryd.results20, go_sem, r0, r1, rf, hz]) rfl (retF HS.out rfl (bset2 HB.out.below (by omega) _ _))
  · have HS := Box.mk (div_0 v1 v2 t)
    subst t
    go_enter Tryd.func20, Tryd.ntmps20
    go_wp2_with fail
    refine (rvalid_any n1 _ _ (by omega) (by omega) (by omega) (by omega)).mono ?_
    rintro e w1 ⟨rfl, hb⟩
    rw [v1]
    have HB2 : Hid (Bx3 w w1 n1 d1 0 d2) := (Bx3.start w n1 d1 0 d2).next hb
    clear hb
    have HB := Lib.hid HB2.out; clear HB2
    obtain ⟨p0, p1⟩ := HB.out.b0.c2
    obtain ⟨q0, q1⟩ := HB.out.b1.c2
    go_wp2_with fail
    refine (rvalid_any 0 _ _ (by omega) (by omega) (by omega) (by omega)).mono ?_
    rintro e w2 ⟨rfl, hb⟩
    rw [v2]
    have HB2 : Hid (Bx3 w w2 n1 d1 0 d2) := HB.out.next hb
    clear hb p0 p1 q0 q1 HB
    have HB := Lib.hid HB2.out; clear HB2
    obtain ⟨p0, p1⟩ := HB.out.b0.c2
    obtain ⟨q0, q1⟩ := HB.out.b1.c2
    obtain ⟨r0, r1⟩ := HB.out.b2.c2
    have rf := HB.out.b2.frozen
    have hz := HB.out.b2.lt
    go_wp2_with fail
    exact bodyPost_ret (v := .tuple #[.agg #[.int .i64 0, .int .i64 0], .int .i64 6]) (by simp [results, Tryd.results20, go_sem, r0, r1, rf, hz]) rfl (retF HS.out rfl (bset2 HB.out.below (by omega) _ _))
  · obtain ⟨rx, ry, rc, hr⟩ : ∃ rx ry rc, mulF n1 d1 (d2) (n2) = (rx, ry, rc) := ⟨_, _, _, rfl⟩
    have HS : Box (divF n1 d1 n2 d2 = (rx, ry, rc)) := ⟨by rw [div_p v1 v2 t, hr]⟩
    have HR := Box.mk hr; clear hr
    have t0 : (n2 == 0) = false := by simp; omega
    have F1 : Box (Fit2 n1 d1) := ⟨by unfold Fit2; omega⟩
    have F2 : Box (Fit2 (d2) (n2)) := ⟨by unfold Fit2; omega⟩
    go_enter Tryd.func20, Tryd.ntmps20
    go_wp2_with fail
    refine (rvalid_any n1 _ _ (by omega) (by omega) (by omega) (by omega)).mono ?_
    rintro e w1 ⟨rfl, hb⟩
    rw [v1]
    have HB2 : Hid (Bx3 w w1 n1 d1 n2 d2) := (Bx3.start w n1 d1 n2 d2).next hb
    clear hb
    have HB := Lib.hid HB2.out; clear HB2
    obtain ⟨p0, p1⟩ := HB.out.b0.c2
    obtain ⟨q0, q1⟩ := HB.out.b1.c2
    go_wp2_with fail
    refine (rvalid_any n2 _ _ (by omega) (by omega) (by omega) (by omega)).mono ?_
    rintro e w2 ⟨rfl, hb⟩
    rw [v2]
    have HB2 : Hid (Bx3 w w2 n1 d1 n2 d2) := HB.out.next hb
    clear hb p0 p1 q0 q1 HB
    have HB := Lib.hid HB2.out; clear HB2
    obtain ⟨p0, p1⟩ := HB.out.b0.c2
    obtain ⟨q0, q1⟩ := HB.out.b1.c2
    obtain ⟨r0, r1⟩ := HB.out.b2.c2
    have rf := HB.out.b2.frozen
    have hz := HB.out.b2.lt
    go_wp2_with fail
    refine (rmul_e _ HR.out F1.out F2.out).mono ?_
    rintro e w5 ⟨rfl, hb⟩
    have HB2 : Hid (Bx3 w w5 n1 d1 n2 d2) := HB.out.next hb
    clear hb p0 p1 q0 q1 r0 r1 rf hz HB
    have HB := Lib.hid HB2.out; clear HB2
    obtain ⟨r0, r1⟩ := HB.out.b2.c2
    have rf := HB.out.b2.frozen
    have hz := HB.out.b2.lt
    go_wp2_with fail
    exact bodyPost_ret (v := .tuple #[.agg #[.int .i64 rx, .int .i64 ry], .int .i64 rc]) (by simp [results, Tryd.results20, go_sem, r0, r1, rf, hz]) rfl (retF HS.out rfl (bset2 HB.out.below (by omega) _ _))
theorem rDiv_any (n1 d1 n2 d2 : Int) (w : World) (l1 : -9223372036854775808 ≤ n1) (u1 : n1 ≤ 9223372036854775807) (l2 : -9223372036854775808 ≤ d1) (u2 : d1 ≤ 9223372036854775807) (l3 : -9223372036854775808 ≤ n2) (u3 : n2 ≤ 9223372036854775807) (l4 : -9223372036854775808 ≤ d2) (u4 : d2 ≤ 9223372036854775807) : Calls Tryd.prog 20 #[.agg #[.int .i64 n1, .int .i64 d1], .agg #[.int .i64 n2, .int .i64 d2]] w (RetF (divF n1 d1 n2 d2) w) := by
  by_cases v1 : validB n1 d1 = true
  · by_cases v2 : validB n2 d2 = true
    · exact rDiv_good n1 d1 n2 d2 w v1 v2
    · exact rDiv_bad n1 d1 n2 d2 w l1 u1 l2 u2 l3 u3 l4 u4 (.inr (by simpa using v2))
  · exact rDiv_bad n1 d1 n2 d2 w l1 u1 l2 u2 l3 u3 l4 u4 (.inl (by simpa using v1))
theorem rdiv_e {n1 d1 n2 d2 a b c : Int} (w : World) (h : divF n1 d1 n2 d2 = (a, b, c)) (f1 : Fit2 n1 d1) (f2 : Fit2 n2 d2) : Calls Tryd.prog 20 #[.agg #[.int .i64 n1, .int .i64 d1], .agg #[.int .i64 n2, .int .i64 d2]] w (RetE a b c w) := by
  have := rDiv_any n1 d1 n2 d2 w f1.1 f1.2.1 f1.2.2.1 f1.2.2.2 f2.1 f2.2.1 f2.2.2.1 f2.2.2.2
  unfold RetF at this; rw [h] at this; exact this
end Go.Proofs.YtlplligfnbkofaaDoor
