/- Compare. -/
import Derived.Test.YtinbfdfgebiaeaaDoorFh
set_option linter.unusedVariables false
set_option linter.unusedSimpArgs false
namespace Go.Proofs.YtinbfdfgebiaeaaDoor
open Go.RowKit FracM

def fr (n d : Int) : Array Value := #[.int .i64 n, .int .i64 d]
/-- two fractions of the call's own, behind one another -/
structure Bx2 (w W : World) (n1 d1 n2 d2 : Int) : Prop where
  below : Below w.heap.size w W
  b0 : Blk W w.heap.size 24 #[.int .i64 n1, .int .i64 d1]
  b1 : Blk W (w.heap.size + 1) 24 #[.int .i64 n2, .int .i64 d2]
theorem Bx2.start (w : World) (n1 d1 n2 d2 : Int) : Bx2 w ((w.alloc (.cells #[.int .i64 n1, .int .i64 d1] 24)).alloc (.cells #[.int .i64 n2, .int .i64 d2] 24)) n1 d1 n2 d2 :=
  ⟨bel2 _ _ _, (Blk.new _ _ _).alloc _, Blk.newAt _ _ (by simp)⟩
theorem Bx2.next {w W W' : World} {n1 d1 n2 d2 : Int} (h : Bx2 w W n1 d1 n2 d2) (hb : Below W.heap.size W W') : Bx2 w W' n1 d1 n2 d2 :=
  ⟨bthen h.below hb (Nat.le_refl _), h.b0.below hb, h.b1.below hb⟩
/-- .. and a third, the result *-/
structure Bx3 (w W : World) (n1 d1 n2 d2 : Int) : Prop extends Bx2 w W n1 d1 n2 d2 where
  b2 : Blk W (w.heap.size + 1 + 1) 24 #[.int .i64 0, .int .i64 0]
theorem Bx3.start (w : World) (n1 d1 n2 d2 : Int) : Bx3 w (((w.alloc (.cells #[.int .i64 n1, .int .i64 d1] 24)).alloc (.cells #[.int .i64 n2, .int .i64 d2] 24)).alloc (.cells #[.int .i64 0, .int .i64 0] 24)) n1 d1 n2 d2 :=
  ⟨(Bx2.start w n1 d1 n2 d2).next (bel1 _ _), Blk.newAt _ _ (by simp)⟩
theorem Bx3.next {w W W' : World} {n1 d1 n2 d2 : Int} (h : Bx3 w W n1 d1 n2 d2) (hb : Below W.heap.size W W') : Bx3 w W' n1 d1 n2 d2 :=
  ⟨h.toBx2.next hb, h.b2.below hb⟩
theorem sum_w {a b c d : Int} {h l : Nat} {n : Bool} (w : World) (H : W2 (a * b + c * d) h l n) (ha : a.natAbs ≤ 4611686018427387904) (hb : b.natAbs ≤ 4611686018427387904) (hc : c.natAbs ≤ 4611686018427387904) (hd : d.natAbs ≤ 4611686018427387904) :
    Calls Tryd.prog 44 #[.int .i64 a, .int .i64 b, .int .i64 c, .int .i64 d] w fun e w' => e = .returned (.agg #[.int .u64 h, .int .u64 l, .bool n]) ∧ Below w.heap.size w w' := by
  have := sum_any a b c d w ha hb hc hd
  unfold RetW at this
  rw [H.val] at this
  exact this
theorem valid_bd {n d : Int} (h : validB n d = true) : n.natAbs ≤ 4611686018427387904 ∧ 1 ≤ d ∧ d ≤ 4611686018427387904 := by
  obtain ⟨h1, h2, h3, _⟩ := valid_iff.1 h
  unfold M at *
  exact ⟨h3, h1, by omega⟩
theorem cmp_no {n1 d1 n2 d2 : Int} (h : validB n1 d1 = false ∨ validB n2 d2 = false) : cmpF n1 d1 n2 d2 = 0 := by
  unfold cmpF; rcases h with h | h <;> simp [h]
theorem cmp_neg {n1 d1 n2 d2 : Int} (h1 : validB n1 d1 = true) (h2 : validB n2 d2 = true) (h : n1 * d2 + -n2 * d1 < 0) : cmpF n1 d1 n2 d2 = -1 := by
  rw [cmp_sign h1 h2, Int.sign_eq_neg_one_of_neg]; rw [Int.sub_eq_add_neg, ← Int.neg_mul]; exact h
theorem cmp_pos {n1 d1 n2 d2 : Int} (h1 : validB n1 d1 = true) (h2 : validB n2 d2 = true) (h : 0 < n1 * d2 + -n2 * d1) : cmpF n1 d1 n2 d2 = 1 := by
  rw [cmp_sign h1 h2, Int.sign_eq_one_of_pos]; rw [Int.sub_eq_add_neg, ← Int.neg_mul]; exact h
theorem cmp_eq {n1 d1 n2 d2 : Int} (h1 : validB n1 d1 = true) (h2 : validB n2 d2 = true) (h : n1 * d2 + -n2 * d1 = 0) : cmpF n1 d1 n2 d2 = 0 := by
  rw [cmp_sign h1 h2, Int.sign_eq_zero_iff_zero.2]; rw [Int.sub_eq_add_neg, ← Int.neg_mul]; exact h
set_option maxHeartbeats 1000000 in
theorem compare_any (n1 d1 n2 d2 : Int) (w : World) (l1 : -9223372036854775808 ≤ n1) (u1 : n1 ≤ 9223372036854775807) (l2 : -9223372036854775808 ≤ d1) (u2 : d1 ≤ 9223372036854775807) (l3 : -9223372036854775808 ≤ n2) (u3 : n2 ≤ 9223372036854775807) (l4 : -9223372036854775808 ≤ d2) (u4 : d2 ≤ 9223372036854775807) :
    Calls Tryd.prog 32 #[.agg #[.int .i64 n1, .int .i64 d1], .agg #[.int .i64 n2, .int .i64 d2]] w fun e w' => e = .returned (.int .i64 (cmpF n1 d1 n2 d2)) ∧ Below w.heap.size w w' := by
  by_cases v1 : validB n1 d1 = true
  case neg =>
    replace v1 : validB n1 d1 = false := by simpa using v1
    have E := Lib.hid (cmp_no (d2 := d2) (n2 := n2) (.inl v1))
    go_enter Tryd.func32, Tryd.ntmps32
    go_wp2_with fail
    refine (valid_any n1 d1 _ (by omega) (by omega) (by omega) (by omega)).mono ?_
    rintro e w1 ⟨rfl, hb1⟩
    rw [v1]
    have HB1 : Hid (Bx2 w w1 n1 d1 n2 d2) := (Bx2.start w n1 d1 n2 d2).next hb1
    clear hb1
    obtain ⟨p0, p1⟩ := HB1.out.b0.c2
    obtain ⟨q0, q1⟩ := HB1.out.b1.c2
    have hz := HB1.out.b1.lt
    go_wp2_with fail
    go_ret
    exact ⟨ret_int (by rw [E.out]), HB1.out.below⟩
  by_cases v2 : validB n2 d2 = true
  case neg =>
    replace v2 : validB n2 d2 = false := by simpa using v2
    have E := Lib.hid (cmp_no (d1 := d1) (n1 := n1) (.inr v2))
    go_enter Tryd.func32, Tryd.ntmps32
    go_wp2_with fail
    refine (valid_any n1 d1 _ (by omega) (by omega) (by omega) (by omega)).mono ?_
    rintro e w1 ⟨rfl, hb1⟩
    rw [v1]
    have HB1 : Hid (Bx2 w w1 n1 d1 n2 d2) := (Bx2.start w n1 d1 n2 d2).next hb1
    clear hb1
    obtain ⟨p0, p1⟩ := HB1.out.b0.c2
    obtain ⟨q0, q1⟩ := HB1.out.b1.c2
    go_wp2_with fail
    refine (valid_any n2 d2 _ (by omega) (by omega) (by omega) (by omega)).mono ?_
    rintro e w2 ⟨rfl, hb2⟩
    rw [v2]
    have HB2 : Hid (Bx2 w w2 n1 d1 n2 d2) := HB1.out.next hb2
    clear hb2 p0 p1 q0 q1 HB1
    obtain ⟨p0, p1⟩ := HB2.out.b0.c2
    obtain ⟨q0, q1⟩ := HB2.out.b1.c2
    have hz := HB2.out.b1.lt
    go_wp2_with fail
    go_ret
    exact ⟨ret_int (by rw [E.out]), HB2.out.below⟩
  obtain ⟨x1, x2, x3⟩ := valid_bd v1
  obtain ⟨y1, y2, y3⟩ := valid_bd v2
  have Z := W2.mk' (n1 * d2 + -n2 * d1)
  have hzz := wide_zero (n1 * d2 + -n2 * d1)
  generalize hiN (n1 * d2 + -n2 * d1) = hi at *
  generalize loN (n1 * d2 + -n2 * d1) = lo at *
  rcases Int.lt_trichotomy (n1 * d2 + -n2 * d1) 0 with t | t | t
  · have E := Lib.hid (cmp_neg v1 v2 t)
    replace Z : W2 (n1 * d2 + -n2 * d1) hi lo true := by rw [show decide (n1 * d2 + -n2 * d1 < 0) = true by simp; omega] at Z; exact Z
    have HZ := Box.mk Z; clear Z
    clear hzz t
    go_enter Tryd.func32, Tryd.ntmps32
    go_wp2_with fail
    refine (valid_any n1 d1 _ (by omega) (by omega) (by omega) (by omega)).mono ?_
    rintro e w1 ⟨rfl, hb1⟩
    rw [v1]
    have HB1 : Hid (Bx2 w w1 n1 d1 n2 d2) := (Bx2.start w n1 d1 n2 d2).next hb1
    clear hb1
    obtain ⟨p0, p1⟩ := HB1.out.b0.c2
    obtain ⟨q0, q1⟩ := HB1.out.b1.c2
    go_wp2_with fail
    refine (valid_any n2 d2 _ (by omega) (by omega) (by omega) (by omega)).mono ?_
    rintro e w2 ⟨rfl, hb2⟩
    rw [v2]
    have HB2 : Hid (Bx2 w w2 n1 d1 n2 d2) := HB1.out.next hb2
    clear hb2 p0 p1 q0 q1 HB1
    obtain ⟨p0, p1⟩ := HB2.out.b0.c2
    obtain ⟨q0, q1⟩ := HB2.out.b1.c2
    have hz := HB2.out.b1.lt
    go_wp2_with fail
    refine (sum_w _ HZ.out (by omega) (by omega) (by omega) (by omega)).mono ?_
    rintro e w3 ⟨rfl, hb3⟩
    have HB3 : Hid (Below w.heap.size w w3) := (HB2.out.next hb3).below
    clear hb3
    go_wp2_with fail
    go_ret
    exact ⟨ret_int (by rw [E.out]), HB3.out.alloc HB3.out.size _⟩
  · have E := Lib.hid (cmp_eq v1 v2 t)
    replace Z : W2 (n1 * d2 + -n2 * d1) hi lo false := by rw [show decide (n1 * d2 + -n2 * d1 < 0) = false by simp; omega] at Z; exact Z
    have HZ := Box.mk Z; clear Z
    have g1 := eq0 (hzz.2 t).1
    have g2 := eq0 (hzz.2 t).2
    clear hzz t
    go_enter Tryd.func32, Tryd.ntmps32
    go_wp2_with fail
    refine (valid_any n1 d1 _ (by omega) (by omega) (by omega) (by omega)).mono ?_
    rintro e w1 ⟨rfl, hb1⟩
    rw [v1]
    have HB1 : Hid (Bx2 w w1 n1 d1 n2 d2) := (Bx2.start w n1 d1 n2 d2).next hb1
    clear hb1
    obtain ⟨p0, p1⟩ := HB1.out.b0.c2
    obtain ⟨q0, q1⟩ := HB1.out.b1.c2
    go_wp2_with fail
    refine (valid_any n2 d2 _ (by omega) (by omega) (by omega) (by omega)).mono ?_
    rintro e w2 ⟨rfl, hb2⟩
    rw [v2]
    have HB2 : Hid (Bx2 w w2 n1 d1 n2 d2) := HB1.out.next hb2
    clear hb2 p0 p1 q0 q1 HB1
    obtain ⟨p0, p1⟩ := HB2.out.b0.c2
    obtain ⟨q0, q1⟩ := HB2.out.b1.c2
    have hz := HB2.out.b1.lt
    go_wp2_with fail
    refine (sum_w _ HZ.out (by omega) (by omega) (by omega) (by omega)).mono ?_
    rintro e w3 ⟨rfl, hb3⟩
    have HB3 : Hid (Below w.heap.size w w3) := (HB2.out.next hb3).below
    clear hb3
    go_wp2_with fail
    go_ret
    exact ⟨ret_int (by rw [E.out]), HB3.out.alloc HB3.out.size _⟩
  · have E := Lib.hid (cmp_pos v1 v2 t)
    replace Z : W2 (n1 * d2 + -n2 * d1) hi lo false := by rw [show decide (n1 * d2 + -n2 * d1 < 0) = false by simp; omega] at Z; exact Z
    have HZ := Box.mk Z; clear Z
    have nz : ¬ (hi = 0 ∧ lo = 0) := fun h => by have := hzz.1 h; omega
    clear hzz t
    by_cases h0 : hi = 0
    · have g1 := eq0 h0
      have g2 := ne0 (n := lo) (by omega)
      clear h0 nz
      go_enter Tryd.func32, Tryd.ntmps32
      go_wp2_with fail
      refine (valid_any n1 d1 _ (by omega) (by omega) (by omega) (by omega)).mono ?_
      rintro e w1 ⟨rfl, hb1⟩
      rw [v1]
      have HB1 : Hid (Bx2 w w1 n1 d1 n2 d2) := (Bx2.start w n1 d1 n2 d2).next hb1
      clear hb1
      obtain ⟨p0, p1⟩ := HB1.out.b0.c2
      obtain ⟨q0, q1⟩ := HB1.out.b1.c2
      go_wp2_with fail
      refine (valid_any n2 d2 _ (by omega) (by omega) (by omega) (by omega)).mono ?_
      rintro e w2 ⟨rfl, hb2⟩
      rw [v2]
      have HB2 : Hid (Bx2 w w2 n1 d1 n2 d2) := HB1.out.next hb2
      clear hb2 p0 p1 q0 q1 HB1
      obtain ⟨p0, p1⟩ := HB2.out.b0.c2
      obtain ⟨q0, q1⟩ := HB2.out.b1.c2
      have hz := HB2.out.b1.lt
      go_wp2_with fail
      refine (sum_w _ HZ.out (by omega) (by omega) (by omega) (by omega)).mono ?_
      rintro e w3 ⟨rfl, hb3⟩
      have HB3 : Hid (Below w.heap.size w w3) := (HB2.out.next hb3).below
      clear hb3
      go_wp2_with fail
      go_ret
      exact ⟨ret_int (by rw [E.out]), HB3.out.alloc HB3.out.size _⟩
    · have g1 := ne0 h0
      clear h0 nz
      go_enter Tryd.func32, Tryd.ntmps32
      go_wp2_with fail
      refine (valid_any n1 d1 _ (by omega) (by omega) (by omega) (by omega)).mono ?_
      rintro e w1 ⟨rfl, hb1⟩
      rw [v1]
      have HB1 : Hid (Bx2 w w1 n1 d1 n2 d2) := (Bx2.start w n1 d1 n2 d2).next hb1
      clear hb1
      obtain ⟨p0, p1⟩ := HB1.out.b0.c2
      obtain ⟨q0, q1⟩ := HB1.out.b1.c2
      go_wp2_with fail
      refine (valid_any n2 d2 _ (by omega) (by omega) (by omega) (by omega)).mono ?_
      rintro e w2 ⟨rfl, hb2⟩
      rw [v2]
      have HB2 : Hid (Bx2 w w2 n1 d1 n2 d2) := HB1.out.next hb2
      clear hb2 p0 p1 q0 q1 HB1
      obtain ⟨p0, p1⟩ := HB2.out.b0.c2
      obtain ⟨q0, q1⟩ := HB2.out.b1.c2
      have hz := HB2.out.b1.lt
      go_wp2_with fail
      refine (sum_w _ HZ.out (by omega) (by omega) (by omega) (by omega)).mono ?_
      rintro e w3 ⟨rfl, hb3⟩
      have HB3 : Hid (Below w.heap.size w w3) := (HB2.out.next hb3).below
      clear hb3
      go_wp2_with fail
      go_ret
      exact ⟨ret_int (by rw [E.out]), HB3.out.alloc HB3.out.size _⟩
end Go.Proofs.YtinbfdfgebiaeaaDoor
