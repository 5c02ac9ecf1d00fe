/- Contracts, packed: Fk. -/
import Derived.Test.YthoibeajhdhdhaaDoorPn49
set_option linter.unusedVariables false
set_option linter.unusedSimpArgs false
namespace Go.Proofs.YthoibeajhdhdhaaDoor
section
open Go.RowKit FracM

theorem add_any (n1 d1 n2 d2 : Int) (w : World) (l1 : -9223372036854775808 ≤ n1) (u1 : n1 ≤ 9223372036854775807) (l2 : -9223372036854775808 ≤ d1) (u2 : d1 ≤ 9223372036854775807) (l3 : -9223372036854775808 ≤ n2) (u3 : n2 ≤ 9223372036854775807) (l4 : -9223372036854775808 ≤ d2) (u4 : d2 ≤ 9223372036854775807) :
    Calls Tryd.prog 49 #[.agg #[.int .i64 n1, .int .i64 d1], .agg #[.int .i64 n2, .int .i64 d2]] w (RetF (addF n1 d1 n2 d2) w) := by
  by_cases v1 : validB n1 d1 = true
  case neg => exact add_bad1 n1 d1 n2 d2 w l1 u1 l2 u2 l3 u3 l4 u4 (by simpa using v1)
  by_cases v2 : validB n2 d2 = true
  case neg => exact add_bad2 n1 d1 n2 d2 w l1 u1 l2 u2 l3 u3 l4 u4 v1 (by simpa using v2)
  have a1 := (valid_bd v1).2.1
  have a2 := (valid_bd v2).2.1
  obtain ⟨D1, rfl⟩ : ∃ D1 : Nat, d1 = (D1 : Int) := ⟨d1.toNat, by omega⟩
  obtain ⟨D2, rfl⟩ : ∃ D2 : Nat, d2 = (D2 : Int) := ⟨d2.toNat, by omega⟩
  exact add_good n1 n2 D1 D2 w v1 v2

def subF (n1 d1 n2 d2 : Int) : Int × Int × Int := addF n1 d1 (-n2) d2
theorem sub_no {n1 d1 n2 d2 : Int} (h : validB n1 d1 = false ∨ validB n2 d2 = false) : subF n1 d1 n2 d2 = (0, 0, 1) := by
  unfold subF; exact add_no (by rw [valid_neg]; exact h)

set_option maxHeartbeats 1000000 in
theorem sub_any (n1 d1 n2 d2 : Int) (w : World) (l1 : -9223372036854775808 ≤ n1) (u1 : n1 ≤ 9223372036854775807) (l2 : -9223372036854775808 ≤ d1) (u2 : d1 ≤ 9223372036854775807) (l3 : -9223372036854775808 ≤ n2) (u3 : n2 ≤ 9223372036854775807) (l4 : -9223372036854775808 ≤ d2) (u4 : d2 ≤ 9223372036854775807) :
    Calls Tryd.prog 32 #[.agg #[.int .i64 n1, .int .i64 d1], .agg #[.int .i64 n2, .int .i64 d2]] w (RetF (subF n1 d1 n2 d2) w) := by
  by_cases v1 : validB n1 d1 = true
  case neg =>
    replace v1 : validB n1 d1 = false := by simpa using v1
    have E := Lib.hid (sub_no (d2 := d2) (n2 := n2) (.inl v1))
    go_enter Tryd.func32, Tryd.ntmps32
    go_wp2_with fail
    refine (valid_any n1 d1 _ (by omega) (by omega) (by omega) (by omega)).mono ?_
    rintro e w1 ⟨rfl, hb1⟩
    rw [v1]
    have HB1 : Hid (Bx3 w w1 n1 d1 n2 d2) := (Bx3.start w n1 d1 n2 d2).next hb1
    clear hb1
    obtain ⟨p0, p1⟩ := HB1.out.b0.c2
    obtain ⟨q0, q1⟩ := HB1.out.b1.c2
    obtain ⟨r0, r1⟩ := HB1.out.b2.c2
    have rf := HB1.out.b2.frozen
    have hz := HB1.out.b2.lt
    go_wp2_with fail
    exact bodyPost_ret (v := .tuple #[.agg #[.int .i64 0, .int .i64 0], .int .i64 1]) (by simp [results, Tryd.results32, go_sem, r0, r1]) rfl (retF E.out rfl (bset2 HB1.out.below (by omega) _ _))
  by_cases v2 : validB n2 d2 = true
  case neg =>
    replace v2 : validB n2 d2 = false := by simpa using v2
    have E := Lib.hid (sub_no (d1 := d1) (n1 := n1) (.inr v2))
    go_enter Tryd.func32, Tryd.ntmps32
    go_wp2_with fail
    refine (valid_any n1 d1 _ (by omega) (by omega) (by omega) (by omega)).mono ?_
    rintro e w1 ⟨rfl, hb1⟩
    rw [v1]
    have HB1 : Hid (Bx3 w w1 n1 d1 n2 d2) := (Bx3.start w n1 d1 n2 d2).next hb1
    clear hb1
    obtain ⟨p0, p1⟩ := HB1.out.b0.c2
    obtain ⟨q0, q1⟩ := HB1.out.b1.c2
    obtain ⟨r0, r1⟩ := HB1.out.b2.c2
    have rf := HB1.out.b2.frozen
    go_wp2_with fail
    refine (valid_any n2 d2 _ (by omega) (by omega) (by omega) (by omega)).mono ?_
    rintro e w2 ⟨rfl, hb2⟩
    rw [v2]
    have HB2 : Hid (Bx3 w w2 n1 d1 n2 d2) := HB1.out.next hb2
    clear hb2 p0 p1 q0 q1 r0 r1 rf HB1
    obtain ⟨p0, p1⟩ := HB2.out.b0.c2
    obtain ⟨q0, q1⟩ := HB2.out.b1.c2
    obtain ⟨r0, r1⟩ := HB2.out.b2.c2
    have rf := HB2.out.b2.frozen
    have hz := HB2.out.b2.lt
    go_wp2_with fail
    exact bodyPost_ret (v := .tuple #[.agg #[.int .i64 0, .int .i64 0], .int .i64 1]) (by simp [results, Tryd.results32, go_sem, r0, r1]) rfl (retF E.out rfl (bset2 HB2.out.below (by omega) _ _))
  obtain ⟨x1, x2, x3⟩ := valid_bd v1
  obtain ⟨y1, y2, y3⟩ := valid_bd v2
  have E : Hid (subF n1 d1 n2 d2 = addF n1 d1 (-n2) d2) := rfl
  generalize hr : subF n1 d1 n2 d2 = r at E ⊢
  obtain ⟨ra, rb, rc⟩ := r
  clear hr
  go_enter Tryd.func32, Tryd.ntmps32
  go_wp2_with fail
  refine (valid_any n1 d1 _ (by omega) (by omega) (by omega) (by omega)).mono ?_
  rintro e w1 ⟨rfl, hb1⟩
  rw [v1]
  have HB1 : Hid (Bx3 w w1 n1 d1 n2 d2) := (Bx3.start w n1 d1 n2 d2).next hb1
  clear hb1
  obtain ⟨p0, p1⟩ := HB1.out.b0.c2
  obtain ⟨q0, q1⟩ := HB1.out.b1.c2
  obtain ⟨r0, r1⟩ := HB1.out.b2.c2
  have rf := HB1.out.b2.frozen
  go_wp2_with fail
  refine (valid_any n2 d2 _ (by omega) (by omega) (by omega) (by omega)).mono ?_
  rintro e w2 ⟨rfl, hb2⟩
  rw [v2]
  have HB2 : Hid (Bx3 w w2 n1 d1 n2 d2) := HB1.out.next hb2
  clear hb2 p0 p1 q0 q1 r0 r1 rf HB1
  obtain ⟨p0, p1⟩ := HB2.out.b0.c2
  obtain ⟨q0, q1⟩ := HB2.out.b1.c2
  obtain ⟨r0, r1⟩ := HB2.out.b2.c2
  have rf := HB2.out.b2.frozen
  have hz := HB2.out.b2.lt
  go_wp2_with fail
  refine (add_any n1 d1 (-n2) d2 _ (by omega) (by omega) (by omega) (by omega) (by omega) (by omega) (by omega) (by omega)).mono ?_
  rintro e w3 ⟨rfl, hb3⟩
  rw [← E.out]
  have HB3 : Hid (Bx3 w w3 n1 d1 n2 d2) := HB2.out.next hb3
  clear hb3 r0 r1 rf
  obtain ⟨r0, r1⟩ := HB3.out.b2.c2
  have rf := HB3.out.b2.frozen
  go_wp2_with fail
  exact bodyPost_ret (v := .tuple #[.agg #[.int .i64 ra, .int .i64 rb], .int .i64 rc]) (by simp [results, Tryd.results32, go_sem, r0, r1]) rfl (retF rfl rfl (bset2 HB3.out.below (by omega) _ _))
end
end Go.Proofs.YthoibeajhdhdhaaDoor
