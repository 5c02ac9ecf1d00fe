/- Compare of the reference. -/
import Derived.Test.YtlplligfnbkofaaDoorNd
import Derived.Test.YtlplligfnbkofaaDoorFc
import Derived.Test.YtlplligfnbkofaaDoorFi
import Derived.Deep.RegionHeld3
set_option linter.unusedVariables false
set_option linter.unusedSimpArgs false
namespace Go.Proofs.YtlplligfnbkofaaDoor
open Go.RowKit FracM DigM

/-- the call gives v and keeps what was there -/
def RetB (v : Value) (w : World) (e : Ending) (w' : World) : Prop := e = .returned v ∧ Below w.heap.size w w'
theorem small {x : Nat} (h : x ≤ 4611686018427387904) : x < 4294967296 ^ 8 := Nat.lt_of_le_of_lt h (by decide)
theorem small2 {x y : Nat} (hx : x ≤ 4611686018427387904) (hy : y ≤ 4611686018427387904) : x * y < 4294967296 ^ 8 :=
  Nat.lt_of_le_of_lt (Nat.mul_le_mul hx hy) (by decide)
theorem size_b (n : Int) (w : World) (h : n.natAbs ≤ 4611686018427387904) : Calls Tryd.prog 45 #[.int .i64 n] w (RetB (.int .u64 (n.natAbs : Nat)) w) := by
  refine (size_any n w (by omega) (by omega)).mono ?_
  rintro e w' ⟨rfl, rfl⟩
  exact ⟨rfl, Below.refl _ _⟩
theorem from_b (n : Nat) (w : World) (h : n ≤ 4611686018427387904) : Calls Tryd.prog 51 #[.int .u64 (n : Nat)] w (RetB (nv n) w) := from_any n w (by omega)
theorem times_b {a b : Nat} (w : World) (ha : a ≤ 4611686018427387904) : Calls Tryd.prog 50 #[nv a, nv b] w (RetB (nv (a * b)) w) := times_any a b w (small ha)
theorem less_b {a b : Nat} {c : Int} (w : World) (hc : lessN a b = c) (ha : a < 4294967296 ^ 8) (hb : b < 4294967296 ^ 8) : Calls Tryd.prog 66 #[nv a, nv b] w (RetB (.int .i64 c) w) := by
  subst hc; exact less_any a b w ha hb
theorem lessN_sign (a b : Nat) : lessN a b = ((a : Int) - b).sign := by
  unfold lessN
  split
  · rw [Int.sign_eq_neg_one_of_neg (by omega)]
  · split
    · rw [Int.sign_eq_one_of_pos (by omega)]
    · rw [show (a : Int) - b = 0 by omega]; rfl
theorem lessN_bd (a b : Nat) : -1 ≤ lessN a b ∧ lessN a b ≤ 1 := by unfold lessN; split; omega; split <;> omega
theorem rc_pp {n1 n2 : Int} {D1 D2 : Nat} (v1 : validB n1 D1 = true) (v2 : validB n2 D2 = true) (h1 : 0 ≤ n1) (h2 : 0 ≤ n2) : cmpF n1 D1 n2 D2 = lessN (n1.natAbs * D2) (n2.natAbs * D1) := by
  rw [cmp_sign v1 v2, lessN_sign]
  congr 1
  simp only [Int.natCast_mul]
  rw [Int.natAbs_of_nonneg h1, Int.natAbs_of_nonneg h2]
theorem rc_nn {n1 n2 : Int} {D1 D2 : Nat} (v1 : validB n1 D1 = true) (v2 : validB n2 D2 = true) (h1 : n1 < 0) (h2 : n2 < 0) : cmpF n1 D1 n2 D2 = -lessN (n1.natAbs * D2) (n2.natAbs * D1) := by
  rw [cmp_sign v1 v2, lessN_sign, ← Int.sign_neg]
  congr 1
  simp only [Int.natCast_mul]
  rw [show ((n1.natAbs : Nat) : Int) = -n1 by omega, show ((n2.natAbs : Nat) : Int) = -n2 by omega]
  grind
theorem rc_np {n1 n2 : Int} {D1 D2 : Nat} (v1 : validB n1 D1 = true) (v2 : validB n2 D2 = true) (h1 : n1 < 0) (h2 : 0 ≤ n2) : cmpF n1 D1 n2 D2 = -1 := by
  rw [cmp_sign v1 v2]
  apply Int.sign_eq_neg_one_of_neg
  have p1 := (valid_bd v1).2.1; have p2 := (valid_bd v2).2.1
  have a := Int.mul_neg_of_neg_of_pos h1 (show 0 < (D2 : Int) by omega)
  have b := Int.mul_nonneg h2 (show 0 ≤ (D1 : Int) by omega)
  omega
theorem rc_pn {n1 n2 : Int} {D1 D2 : Nat} (v1 : validB n1 D1 = true) (v2 : validB n2 D2 = true) (h1 : 0 ≤ n1) (h2 : n2 < 0) : cmpF n1 D1 n2 D2 = 1 := by
  rw [cmp_sign v1 v2]
  apply Int.sign_eq_one_of_pos
  have p1 := (valid_bd v1).2.1; have p2 := (valid_bd v2).2.1
  have a := Int.mul_neg_of_neg_of_pos h2 (show 0 < (D1 : Int) by omega)
  have b := Int.mul_nonneg h1 (show 0 ≤ (D2 : Int) by omega)
  omega
set_option maxHeartbeats 1000000 in
theorem rcompare_bad (n1 d1 n2 d2 : Int) (w : World) (l1 : -9223372036854775808 ≤ n1) (u1 : n1 ≤ 9223372036854775807) (l2 : -9223372036854775808 ≤ d1) (u2 : d1 ≤ 9223372036854775807) (l3 : -9223372036854775808 ≤ n2) (u3 : n2 ≤ 9223372036854775807) (l4 : -9223372036854775808 ≤ d2) (u4 : d2 ≤ 9223372036854775807) (v : validB n1 d1 = false ∨ validB n2 d2 = false) : Calls Tryd.prog 33 #[.agg #[.int .i64 n1, .int .i64 d1], .agg #[.int .i64 n2, .int .i64 d2]] w (RetB (.int .i64 (cmpF n1 d1 n2 d2)) w) := by
  have E := Box.mk (cmp_no v)
  generalize v1 : validB n1 d1 = b1 at *
  generalize v2 : validB n2 d2 = b2 at *
  rcases v with rfl | rfl
  · cases b2
    all_goals
      go_enter Tryd.func33, Tryd.ntmps33
      go_wp2_with fail
      refine (rvalid_any n1 _ _ (by omega) (by omega) (by omega) (by omega)).mono ?_
      rintro e w1 ⟨rfl, hb1⟩
      rw [v1]
      have HB1 : Hid (Bx2 w w1 n1 d1 n2 d2) := (Bx2.start w n1 d1 n2 d2).next hb1
      clear hb1
      obtain ⟨p0, p1⟩ := HB1.out.b0.c2
      obtain ⟨q0, q1⟩ := HB1.out.b1.c2
      go_wp2_with fail
      refine (rvalid_any n2 _ _ (by omega) (by omega) (by omega) (by omega)).mono ?_
      rintro e w2 ⟨rfl, hb2⟩
      rw [v2]
      have HB : Hid (Bx2 w w2 n1 d1 n2 d2) := HB1.out.next hb2
      clear hb2 p0 p1 q0 q1 HB1
      obtain ⟨p0, p1⟩ := HB.out.b0.c2
      obtain ⟨q0, q1⟩ := HB.out.b1.c2
      have hz := HB.out.b1.lt
      go_wp2_with fail
      go_ret
      exact ⟨ret_int (by rw [E.out]), HB.out.below⟩
  · cases b1
    all_goals
      go_enter Tryd.func33, Tryd.ntmps33
      go_wp2_with fail
      refine (rvalid_any n1 _ _ (by omega) (by omega) (by omega) (by omega)).mono ?_
      rintro e w1 ⟨rfl, hb1⟩
      rw [v1]
      have HB1 : Hid (Bx2 w w1 n1 d1 n2 d2) := (Bx2.start w n1 d1 n2 d2).next hb1
      clear hb1
      obtain ⟨p0, p1⟩ := HB1.out.b0.c2
      obtain ⟨q0, q1⟩ := HB1.out.b1.c2
      go_wp2_with fail
      refine (rvalid_any n2 _ _ (by omega) (by omega) (by omega) (by omega)).mono ?_
      rintro e w2 ⟨rfl, hb2⟩
      rw [v2]
      have HB : Hid (Bx2 w w2 n1 d1 n2 d2) := HB1.out.next hb2
      clear hb2 p0 p1 q0 q1 HB1
      obtain ⟨p0, p1⟩ := HB.out.b0.c2
      obtain ⟨q0, q1⟩ := HB.out.b1.c2
      have hz := HB.out.b1.lt
      go_wp2_with fail
      go_ret
      exact ⟨ret_int (by rw [E.out]), HB.out.below⟩
set_option maxHeartbeats 1000000 in
theorem rcompare_good (n1 n2 : Int) (D1 D2 : Nat) (w : World) (v1 : validB n1 D1 = true) (v2 : validB n2 D2 = true) : Calls Tryd.prog 33 #[.agg #[.int .i64 n1, .int .i64 (D1 : Nat)], .agg #[.int .i64 n2, .int .i64 (D2 : Nat)]] w (RetB (.int .i64 (cmpF n1 D1 n2 D2)) w) := by
  obtain ⟨x1, x2, x3⟩ := valid_bd v1
  obtain ⟨y1, y2, y3⟩ := valid_bd v2
  have g1 : IntKind.u64.wrap (D1 : Int) = D1 := fin_u64 _ (by omega) (by omega)
  have g2 : IntKind.u64.wrap (D2 : Int) = D2 := fin_u64 _ (by omega) (by omega)
  have z1 : D1 ≤ 4611686018427387904 := by omega
  have z2 : D2 ≤ 4611686018427387904 := by omega
  have PA := Box.mk (small2 x1 z2)
  have PB := Box.mk (small2 y1 z1)
  obtain ⟨c, hc⟩ : ∃ c, lessN (n1.natAbs * D2) (n2.natAbs * D1) = c := ⟨_, rfl⟩
  have bc := lessN_bd (n1.natAbs * D2) (n2.natAbs * D1)
  rw [hc] at bc
  by_cases s1 : n1 < 0
  · by_cases s2 : n2 < 0
    · have E := rc_nn v1 v2 s1 s2
      rw [hc] at E
      have HE := Box.mk E
      have HC := Box.mk hc
      clear E hc
      go_enter Tryd.func33, Tryd.ntmps33
      go_wp2_with fail
      refine (rvalid_any n1 _ _ (by omega) (by omega) (by omega) (by omega)).mono ?_
      rintro e w1 ⟨rfl, hb1⟩
      rw [v1]
      have HB1 : Hid (Bx2 w w1 n1 D1 n2 D2) := (Bx2.start w n1 D1 n2 D2).next hb1
      clear hb1
      obtain ⟨p0, p1⟩ := HB1.out.b0.c2
      obtain ⟨q0, q1⟩ := HB1.out.b1.c2
      go_wp2_with fail
      refine (rvalid_any n2 _ _ (by omega) (by omega) (by omega) (by omega)).mono ?_
      rintro e w2 ⟨rfl, hb2⟩
      rw [v2]
      have HB : Hid (Bx2 w w2 n1 D1 n2 D2) := HB1.out.next hb2
      clear hb2 p0 p1 q0 q1 HB1
      obtain ⟨p0, p1⟩ := HB.out.b0.c2
      obtain ⟨q0, q1⟩ := HB.out.b1.c2
      have hz := HB.out.b1.lt
      go_wp2_with fail
      go_region_held3 (fun w' => w'.cell? ⟨w.heap.size, 0, none⟩ = some (.int .i64 n1) ∧ w'.cell? ⟨w.heap.size, 1, none⟩ = some (.int .i64 (D1 : Nat)) ∧ w'.cell? ⟨w.heap.size + 1, 0, none⟩ = some (.int .i64 n2) ∧ w'.cell? ⟨w.heap.size + 1, 1, none⟩ = some (.int .i64 (D2 : Nat)))
        (first | exact ⟨HB.out.b0.c2.1, HB.out.b0.c2.2, HB.out.b1.c2.1, HB.out.b1.c2.2⟩ | go_keep)
        (first
          | (go_at_call 45; (with_reducible refine (size_b n1 _ x1).mono ?_); rintro e w5 ⟨rfl, hb5⟩; have HB : Hid (Bx2 w w5 n1 D1 n2 D2) := (by first | exact HB.out.next hb5 | exact (HB.out.next (below_drewN _ _)).next hb5); clear hb5)
          | (go_at_call 45; (with_reducible refine (size_b n2 _ y1).mono ?_); rintro e w5 ⟨rfl, hb5⟩; have HB : Hid (Bx2 w w5 n1 D1 n2 D2) := (by first | exact HB.out.next hb5 | exact (HB.out.next (below_drewN _ _)).next hb5); clear hb5)
          | (go_at_call 51; (with_reducible refine (from_b n1.natAbs _ x1).mono ?_); rintro e w5 ⟨rfl, hb5⟩; have HB : Hid (Bx2 w w5 n1 D1 n2 D2) := (by first | exact HB.out.next hb5 | exact (HB.out.next (below_drewN _ _)).next hb5); clear hb5)
          | (go_at_call 51; (with_reducible refine (from_b n2.natAbs _ y1).mono ?_); rintro e w5 ⟨rfl, hb5⟩; have HB : Hid (Bx2 w w5 n1 D1 n2 D2) := (by first | exact HB.out.next hb5 | exact (HB.out.next (below_drewN _ _)).next hb5); clear hb5)
          | (go_at_call 51; (with_reducible refine (from_b D1 _ z1).mono ?_); rintro e w5 ⟨rfl, hb5⟩; have HB : Hid (Bx2 w w5 n1 D1 n2 D2) := (by first | exact HB.out.next hb5 | exact (HB.out.next (below_drewN _ _)).next hb5); clear hb5)
          | (go_at_call 51; (with_reducible refine (from_b D2 _ z2).mono ?_); rintro e w5 ⟨rfl, hb5⟩; have HB : Hid (Bx2 w w5 n1 D1 n2 D2) := (by first | exact HB.out.next hb5 | exact (HB.out.next (below_drewN _ _)).next hb5); clear hb5)
          | (go_at_call 50; (with_reducible refine (times_b _ x1).mono ?_); rintro e w5 ⟨rfl, hb5⟩; have HB : Hid (Bx2 w w5 n1 D1 n2 D2) := (by first | exact HB.out.next hb5 | exact (HB.out.next (below_drewN _ _)).next hb5); clear hb5)
          | (go_at_call 50; (with_reducible refine (times_b _ y1).mono ?_); rintro e w5 ⟨rfl, hb5⟩; have HB : Hid (Bx2 w w5 n1 D1 n2 D2) := (by first | exact HB.out.next hb5 | exact (HB.out.next (below_drewN _ _)).next hb5); clear hb5)
          | (go_at_call 66; (with_reducible refine (less_b _ HC.out PA.out PB.out).mono ?_); rintro e w5 ⟨rfl, hb5⟩; have HB : Hid (Bx2 w w5 n1 D1 n2 D2) := (by first | exact HB.out.next hb5 | exact (HB.out.next (below_drewN _ _)).next hb5); clear hb5))
      all_goals
        obtain ⟨p0, p1⟩ := HB.out.b0.c2
        go_wp2_with fail
        go_ret
        exact ⟨ret_int (by rw [HE.out]), by first | exact HB.out.below | exact (HB.out.next (below_drewN _ _)).below⟩
    · have E := rc_np v1 v2 s1 (by omega)
      have HE := Box.mk E
      have HC := Box.mk hc
      clear E hc
      go_enter Tryd.func33, Tryd.ntmps33
      go_wp2_with fail
      refine (rvalid_any n1 _ _ (by omega) (by omega) (by omega) (by omega)).mono ?_
      rintro e w1 ⟨rfl, hb1⟩
      rw [v1]
      have HB1 : Hid (Bx2 w w1 n1 D1 n2 D2) := (Bx2.start w n1 D1 n2 D2).next hb1
      clear hb1
      obtain ⟨p0, p1⟩ := HB1.out.b0.c2
      obtain ⟨q0, q1⟩ := HB1.out.b1.c2
      go_wp2_with fail
      refine (rvalid_any n2 _ _ (by omega) (by omega) (by omega) (by omega)).mono ?_
      rintro e w2 ⟨rfl, hb2⟩
      rw [v2]
      have HB : Hid (Bx2 w w2 n1 D1 n2 D2) := HB1.out.next hb2
      clear hb2 p0 p1 q0 q1 HB1
      obtain ⟨p0, p1⟩ := HB.out.b0.c2
      obtain ⟨q0, q1⟩ := HB.out.b1.c2
      have hz := HB.out.b1.lt
      go_wp2_with fail
      go_ret
      exact ⟨ret_int (by rw [HE.out]), HB.out.below⟩
  · by_cases s2 : n2 < 0
    · have E := rc_pn v1 v2 (by omega) s2
      have HE := Box.mk E
      have HC := Box.mk hc
      clear E hc
      go_enter Tryd.func33, Tryd.ntmps33
      go_wp2_with fail
      refine (rvalid_any n1 _ _ (by omega) (by omega) (by omega) (by omega)).mono ?_
      rintro e w1 ⟨rfl, hb1⟩
      rw [v1]
      have HB1 : Hid (Bx2 w w1 n1 D1 n2 D2) := (Bx2.start w n1 D1 n2 D2).next hb1
      clear hb1
      obtain ⟨p0, p1⟩ := HB1.out.b0.c2
      obtain ⟨q0, q1⟩ := HB1.out.b1.c2
      go_wp2_with fail
      refine (rvalid_any n2 _ _ (by omega) (by omega) (by omega) (by omega)).mono ?_
      rintro e w2 ⟨rfl, hb2⟩
      rw [v2]
      have HB : Hid (Bx2 w w2 n1 D1 n2 D2) := HB1.out.next hb2
      clear hb2 p0 p1 q0 q1 HB1
      obtain ⟨p0, p1⟩ := HB.out.b0.c2
      obtain ⟨q0, q1⟩ := HB.out.b1.c2
      have hz := HB.out.b1.lt
      go_wp2_with fail
      go_ret
      exact ⟨ret_int (by rw [HE.out]), HB.out.below⟩
    · have E := rc_pp v1 v2 (by omega) (by omega)
      rw [hc] at E
      have HE := Box.mk E
      have HC := Box.mk hc
      clear E hc
      go_enter Tryd.func33, Tryd.ntmps33
      go_wp2_with fail
      refine (rvalid_any n1 _ _ (by omega) (by omega) (by omega) (by omega)).mono ?_
      rintro e w1 ⟨rfl, hb1⟩
      rw [v1]
      have HB1 : Hid (Bx2 w w1 n1 D1 n2 D2) := (Bx2.start w n1 D1 n2 D2).next hb1
      clear hb1
      obtain ⟨p0, p1⟩ := HB1.out.b0.c2
      obtain ⟨q0, q1⟩ := HB1.out.b1.c2
      go_wp2_with fail
      refine (rvalid_any n2 _ _ (by omega) (by omega) (by omega) (by omega)).mono ?_
      rintro e w2 ⟨rfl, hb2⟩
      rw [v2]
      have HB : Hid (Bx2 w w2 n1 D1 n2 D2) := HB1.out.next hb2
      clear hb2 p0 p1 q0 q1 HB1
      obtain ⟨p0, p1⟩ := HB.out.b0.c2
      obtain ⟨q0, q1⟩ := HB.out.b1.c2
      have hz := HB.out.b1.lt
      go_wp2_with fail
      go_region_held3 (fun w' => w'.cell? ⟨w.heap.size, 0, none⟩ = some (.int .i64 n1) ∧ w'.cell? ⟨w.heap.size, 1, none⟩ = some (.int .i64 (D1 : Nat)) ∧ w'.cell? ⟨w.heap.size + 1, 0, none⟩ = some (.int .i64 n2) ∧ w'.cell? ⟨w.heap.size + 1, 1, none⟩ = some (.int .i64 (D2 : Nat)))
        (first | exact ⟨HB.out.b0.c2.1, HB.out.b0.c2.2, HB.out.b1.c2.1, HB.out.b1.c2.2⟩ | go_keep)
        (first
          | (go_at_call 45; (with_reducible refine (size_b n1 _ x1).mono ?_); rintro e w5 ⟨rfl, hb5⟩; have HB : Hid (Bx2 w w5 n1 D1 n2 D2) := (by first | exact HB.out.next hb5 | exact (HB.out.next (below_drewN _ _)).next hb5); clear hb5)
          | (go_at_call 45; (with_reducible refine (size_b n2 _ y1).mono ?_); rintro e w5 ⟨rfl, hb5⟩; have HB : Hid (Bx2 w w5 n1 D1 n2 D2) := (by first | exact HB.out.next hb5 | exact (HB.out.next (below_drewN _ _)).next hb5); clear hb5)
          | (go_at_call 51; (with_reducible refine (from_b n1.natAbs _ x1).mono ?_); rintro e w5 ⟨rfl, hb5⟩; have HB : Hid (Bx2 w w5 n1 D1 n2 D2) := (by first | exact HB.out.next hb5 | exact (HB.out.next (below_drewN _ _)).next hb5); clear hb5)
          | (go_at_call 51; (with_reducible refine (from_b n2.natAbs _ y1).mono ?_); rintro e w5 ⟨rfl, hb5⟩; have HB : Hid (Bx2 w w5 n1 D1 n2 D2) := (by first | exact HB.out.next hb5 | exact (HB.out.next (below_drewN _ _)).next hb5); clear hb5)
          | (go_at_call 51; (with_reducible refine (from_b D1 _ z1).mono ?_); rintro e w5 ⟨rfl, hb5⟩; have HB : Hid (Bx2 w w5 n1 D1 n2 D2) := (by first | exact HB.out.next hb5 | exact (HB.out.next (below_drewN _ _)).next hb5); clear hb5)
          | (go_at_call 51; (with_reducible refine (from_b D2 _ z2).mono ?_); rintro e w5 ⟨rfl, hb5⟩; have HB : Hid (Bx2 w w5 n1 D1 n2 D2) := (by first | exact HB.out.next hb5 | exact (HB.out.next (below_drewN _ _)).next hb5); clear hb5)
          | (go_at_call 50; (with_reducible refine (times_b _ x1).mono ?_); rintro e w5 ⟨rfl, hb5⟩; have HB : Hid (Bx2 w w5 n1 D1 n2 D2) := (by first | exact HB.out.next hb5 | exact (HB.out.next (below_drewN _ _)).next hb5); clear hb5)
          | (go_at_call 50; (with_reducible refine (times_b _ y1).mono ?_); rintro e w5 ⟨rfl, hb5⟩; have HB : Hid (Bx2 w w5 n1 D1 n2 D2) := (by first | exact HB.out.next hb5 | exact (HB.out.next (below_drewN _ _)).next hb5); clear hb5)
          | (go_at_call 66; (with_reducible refine (less_b _ HC.out PA.out PB.out).mono ?_); rintro e w5 ⟨rfl, hb5⟩; have HB : Hid (Bx2 w w5 n1 D1 n2 D2) := (by first | exact HB.out.next hb5 | exact (HB.out.next (below_drewN _ _)).next hb5); clear hb5))
      all_goals
        obtain ⟨p0, p1⟩ := HB.out.b0.c2
        go_wp2_with fail
        go_ret
        exact ⟨ret_int (by rw [HE.out]), by first | exact HB.out.below | exact (HB.out.next (below_drewN _ _)).below⟩
theorem rcompare_any (n1 d1 n2 d2 : Int) (w : World) (l1 : -9223372036854775808 ≤ n1) (u1 : n1 ≤ 9223372036854775807) (l2 : -9223372036854775808 ≤ d1) (u2 : d1 ≤ 9223372036854775807) (l3 : -9223372036854775808 ≤ n2) (u3 : n2 ≤ 9223372036854775807) (l4 : -9223372036854775808 ≤ d2) (u4 : d2 ≤ 9223372036854775807) : Calls Tryd.prog 33 #[.agg #[.int .i64 n1, .int .i64 d1], .agg #[.int .i64 n2, .int .i64 d2]] w (RetB (.int .i64 (cmpF n1 d1 n2 d2)) w) := by
  by_cases v1 : validB n1 d1 = true
  · by_cases v2 : validB n2 d2 = true
    · obtain ⟨D1, rfl⟩ : ∃ D : Nat, d1 = D := ⟨d1.natAbs, by have := (valid_bd v1).2.1; omega⟩
      obtain ⟨D2, rfl⟩ : ∃ D : Nat, d2 = D := ⟨d2.natAbs, by have := (valid_bd v2).2.1; omega⟩
      exact rcompare_good n1 n2 D1 D2 w v1 v2
    · exact rcompare_bad n1 d1 n2 d2 w l1 u1 l2 u2 l3 u3 l4 u4 (.inr (by simpa using v2))
  · exact rcompare_bad n1 d1 n2 d2 w l1 u1 l2 u2 l3 u3 l4 u4 (.inl (by simpa using v1))
end Go.Proofs.YtlplligfnbkofaaDoor
