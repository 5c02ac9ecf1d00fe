/- Add whole, Sub of the reference. -/
import Derived.Test.YtlplligfnbkofaaDoorNk
set_option linter.unusedVariables false
set_option linter.unusedSimpArgs false
namespace Go.Proofs.YtlplligfnbkofaaDoor
open Go.RowKit FracM DigM

theorem rAdd_any (n1 d1 n2 d2 : Int) (w : World) (l1 : -9223372036854775808 ≤ n1) (u1 : n1 ≤ 9223372036854775807) (l2 : -9223372036854775808 ≤ d1) (u2 : d1 ≤ 9223372036854775807) (l3 : -9223372036854775808 ≤ n2) (u3 : n2 ≤ 9223372036854775807) (l4 : -9223372036854775808 ≤ d2) (u4 : d2 ≤ 9223372036854775807) : Calls Tryd.prog 31 #[.agg #[.int .i64 n1, .int .i64 d1], .agg #[.int .i64 n2, .int .i64 d2]] w (RetF (addF n1 d1 n2 d2) w) := by
  by_cases v1 : validB n1 d1 = true
  · by_cases v2 : validB n2 d2 = true
    · obtain ⟨D1, rfl⟩ : ∃ D : Nat, d1 = D := ⟨d1.natAbs, by have := (valid_bd v1).2.1; omega⟩
      obtain ⟨D2, rfl⟩ : ∃ D : Nat, d2 = D := ⟨d2.natAbs, by have := (valid_bd v2).2.1; omega⟩
      by_cases s1 : shortB n1 D1 = true
      · by_cases s2 : shortB n2 D2 = true
        · exact rAdd_short n1 n2 D1 D2 w v1 v2 s1 s2
        · exact rAdd_long n1 n2 D1 D2 w v1 v2 (.inr (by simpa using s2))
      · exact rAdd_long n1 n2 D1 D2 w v1 v2 (.inl (by simpa using s1))
    · exact rAdd_bad n1 d1 n2 d2 w l1 u1 l2 u2 l3 u3 l4 u4 (.inr (by simpa using v2))
  · exact rAdd_bad n1 d1 n2 d2 w l1 u1 l2 u2 l3 u3 l4 u4 (.inl (by simpa using v1))
theorem radd_e {n1 d1 n2 d2 a b c : Int} (w : World) (h : addF n1 d1 n2 d2 = (a, b, c)) (f1 : Fit2 n1 d1) (f2 : Fit2 n2 d2) : Calls Tryd.prog 31 #[.agg #[.int .i64 n1, .int .i64 d1], .agg #[.int .i64 n2, .int .i64 d2]] w (RetE a b c w) := by
  have := rAdd_any n1 d1 n2 d2 w f1.1 f1.2.1 f1.2.2.1 f1.2.2.2 f2.1 f2.2.1 f2.2.2.1 f2.2.2.2
  unfold RetF at this; rw [h] at this; exact this
set_option maxHeartbeats 1000000 in
set_option maxRecDepth 100000 in
theorem rSub_any (n1 d1 n2 d2 : Int) (w : World) (l1 : -9223372036854775808 ≤ n1) (u1 : n1 ≤ 9223372036854775807) (l2 : -9223372036854775808 ≤ d1) (u2 : d1 ≤ 9223372036854775807) (l3 : -9223372036854775808 ≤ n2) (u3 : n2 ≤ 9223372036854775807) (l4 : -9223372036854775808 ≤ d2) (u4 : d2 ≤ 9223372036854775807) : Calls Tryd.prog 32 #[.agg #[.int .i64 n1, .int .i64 d1], .agg #[.int .i64 n2, .int .i64 d2]] w (RetF (subF n1 d1 n2 d2) w) := by
  have F1 : Box (Fit2 n1 d1) := ⟨⟨l1, u1, l2, u2⟩⟩
  by_cases v2 : validB n2 d2 = true
  · obtain ⟨y1, y2, y3⟩ := valid_bd v2
    obtain ⟨rx, ry, rc, hr⟩ : ∃ rx ry rc, addF n1 d1 (-n2) d2 = (rx, ry, rc) := ⟨_, _, _, rfl⟩
    have HS : Box (subF n1 d1 n2 d2 = (rx, ry, rc)) := ⟨hr⟩
    have HR := Box.mk hr; clear hr
    have F2 : Box (Fit2 (-n2) d2) := ⟨by unfold Fit2; omega⟩
    go_enter Tryd.func32, Tryd.ntmps32
    go_wp2_with fail
    refine (rvalid_any n2 _ _ (by omega) (by omega) (by omega) (by omega)).mono ?_
    rintro e w1 ⟨rfl, hb⟩
    rw [v2]
    have HB2 : Hid (Bx3 w w1 n1 d1 n2 d2) := (Bx3.start w n1 d1 n2 d2).next hb
    clear hb
    have HB := Lib.hid HB2.out; clear HB2
    obtain ⟨p0, p1⟩ := HB.out.b0.c2
    obtain ⟨q0, q1⟩ := HB.out.b1.c2
    obtain ⟨r0, r1⟩ := HB.out.b2.c2
    have rf := HB.out.b2.frozen
    have hz := HB.out.b2.lt
    go_wp2_with fail
    refine (radd_e _ HR.out F1.out F2.out).mono ?_
    rintro e w5 ⟨rfl, hb⟩
    have HB2 : Hid (Bx3 w w5 n1 d1 n2 d2) := HB.out.next hb
    clear hb p0 p1 q0 q1 r0 r1 rf hz HB
    have HB := Lib.hid HB2.out; clear HB2
    obtain ⟨r0, r1⟩ := HB.out.b2.c2
    have rf := HB.out.b2.frozen
    have hz := HB.out.b2.lt
    go_wp2_with fail
    exact bodyPost_ret (v := .tuple #[.agg #[.int .i64 rx, .int .i64 ry], .int .i64 rc]) (by simp [results, Tryd.results32, go_sem, r0, r1, rf, hz]) rfl (retF HS.out rfl (bset2 HB.out.below (by omega) _ _))
  · replace v2 : validB n2 d2 = false := by simpa using v2
    have E := Box.mk (sub_no (n1 := n1) (d1 := d1) (n2 := n2) (d2 := d2) (.inr v2))
    go_enter Tryd.func32, Tryd.ntmps32
    go_wp2_with fail
    refine (rvalid_any n2 _ _ (by omega) (by omega) (by omega) (by omega)).mono ?_
    rintro e w1 ⟨rfl, hb⟩
    rw [v2]
    have HB2 : Hid (Bx3 w w1 n1 d1 n2 d2) := (Bx3.start w n1 d1 n2 d2).next hb
    clear hb
    have HB := Lib.hid HB2.out; clear HB2
    obtain ⟨p0, p1⟩ := HB.out.b0.c2
    obtain ⟨q0, q1⟩ := HB.out.b1.c2
    obtain ⟨r0, r1⟩ := HB.out.b2.c2
    have rf := HB.out.b2.frozen
    have hz := HB.out.b2.lt
    go_wp2_with fail
    exact bodyPost_ret (v := .tuple #[.agg #[.int .i64 0, .int .i64 0], .int .i64 1]) (by simp [results, Tryd.results32, go_sem, r0, r1, rf, hz]) rfl (retF E.out rfl (bset2 HB.out.below (by omega) _ _))
theorem rsub_e {n1 d1 n2 d2 a b c : Int} (w : World) (h : addF n1 d1 (-n2) d2 = (a, b, c)) (f1 : Fit2 n1 d1) (f2 : Fit2 n2 d2) : Calls Tryd.prog 32 #[.agg #[.int .i64 n1, .int .i64 d1], .agg #[.int .i64 n2, .int .i64 d2]] w (RetE a b c w) := by
  have := rSub_any n1 d1 n2 d2 w f1.1 f1.2.1 f1.2.2.1 f1.2.2.2 f2.1 f2.2.1 f2.2.2.1 f2.2.2.2
  unfold RetF subF at this; rw [h] at this; exact this
end Go.Proofs.YtlplligfnbkofaaDoor
