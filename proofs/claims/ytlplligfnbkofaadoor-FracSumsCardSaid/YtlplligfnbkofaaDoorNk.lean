/- Add of the reference. -/
import Derived.Test.YtlplligfnbkofaaDoorNj
set_option linter.unusedVariables false
set_option linter.unusedSimpArgs false
namespace Go.Proofs.YtlplligfnbkofaaDoor
open Go.RowKit FracM DigM

/-- the memory of Add: two fractions, the result, and numbers in blocks of their own -/
structure Nm3 (w W : World) (n1 n2 : Int) (D1 D2 : Nat) (L : List (Nat × Nat)) : Prop where
  bx : Bx3 w W n1 D1 n2 D2
  blk : ∀ p ∈ L, D8 W p.1 (dg p.2) ∧ w.heap.size + 1 + 1 < p.1
theorem Nm3.next {w W W' : World} {n1 n2 : Int} {D1 D2 : Nat} {L : List (Nat × Nat)} (h : Nm3 w W n1 n2 D1 D2 L) (hb : Below W.heap.size W W') : Nm3 w W' n1 n2 D1 D2 L :=
  ⟨h.bx.next hb, fun p hp => ⟨(h.blk p hp).1.below hb, (h.blk p hp).2⟩⟩
def Over (w : World) (L : List (Nat × Nat)) (B : Nat) : Prop := (∀ p ∈ L, p.1 < B) ∧ w.heap.size + 1 + 1 < B
theorem Nm3.over {w W : World} {n1 n2 : Int} {D1 D2 : Nat} {L : List (Nat × Nat)} (h : Nm3 w W n1 n2 D1 D2 L) : Over w L W.heap.size :=
  ⟨fun p hp => Blk.lt (h.blk p hp).1, h.bx.b2.lt⟩
theorem Nm3.put {w W : World} {n1 n2 : Int} {D1 D2 B X : Nat} {L : List (Nat × Nat)} {f : Nat → Nat} (h : Nm3 w W n1 n2 D1 D2 L) (hn : D8 W B f) (ho : Over w L B) : Nm3 w (put8 W B (dg X)) n1 n2 D1 D2 ((B, X) :: L) :=
  ⟨h.bx.far8 ho.2 _, fun p hp => by
    rcases List.mem_cons.1 hp with rfl | hp
    · exact ⟨hn.put _, ho.2⟩
    · exact ⟨(h.blk p hp).1.putFar (by have := ho.1 p hp; omega) _, (h.blk p hp).2⟩⟩
theorem Nm3.new {w W : World} {n1 n2 : Int} {D1 D2 X : Nat} {L : List (Nat × Nat)} (h : Nm3 w W n1 n2 D1 D2 L) : Nm3 w (W.alloc (.cells (d8 (dg X)) 67)) n1 n2 D1 D2 ((W.heap.size, X) :: L) :=
  ⟨h.bx.next (bel1 _ _), fun p hp => by
    rcases List.mem_cons.1 hp with rfl | hp
    · exact ⟨Blk.new _ _ _, h.bx.b2.lt⟩
    · exact ⟨Blk.alloc (h.blk p hp).1 _, (h.blk p hp).2⟩⟩
theorem Nm3.put' {w W W' : World} {n1 n2 : Int} {D1 D2 B : Nat} (X : Nat) {L : List (Nat × Nat)} {f : Nat → Nat} (h : Nm3 w W n1 n2 D1 D2 L) (hn : D8 W B f) (ho : Over w L B) (e : W' = put8 W B (dg X)) : Nm3 w W' n1 n2 D1 D2 ((B, X) :: L) := by
  subst e; exact h.put hn ho
theorem Nm3.new' {w W W' : World} {n1 n2 : Int} {D1 D2 : Nat} (X : Nat) {L : List (Nat × Nat)} (h : Nm3 w W n1 n2 D1 D2 L) (e : W' = W.alloc (.cells (d8 (dg X)) 67)) : Nm3 w W' n1 n2 D1 D2 ((W.heap.size, X) :: L) := by
  subst e; exact h.new
def NCutL (w : World) (n1 n2 : Int) (D1 D2 X : Nat) (L : List (Nat × Nat)) (s : Value) (wx : World) : Prop :=
  ∃ B, s = .pointer (some ⟨B, 0, none⟩) ∧ Nm3 w wx n1 n2 D1 D2 ((B, X) :: L)
abbrev Cell28 (w : World) (n1 n2 : Int) (D1 D2 A X B Y C Z : Nat) (w' : World) : Prop := Cell4 w n1 n2 D1 D2 w' ∧ Cell8 A X w' ∧ Cell8 B Y w' ∧ Cell8 C Z w'
theorem Nm3.c28 {w W : World} {n1 n2 : Int} {D1 D2 A X B Y C Z : Nat} (h : Nm3 w W n1 n2 D1 D2 [(C, Z), (B, Y), (A, X)]) : Cell28 w n1 n2 D1 D2 A X B Y C Z W :=
  ⟨h.bx.c4, D8.cells (h.blk (A, X) (by simp)).1, D8.cells (h.blk (B, Y) (by simp)).1, D8.cells (h.blk (C, Z) (by simp)).1⟩
theorem Nm3.c28w {w W : World} {n1 n2 : Int} {D1 D2 A X B Y C Z : Nat} (h : Nm3 w W n1 n2 D1 D2 [(C, Z), (B, Y), (A, X)]) : Cell28 w n1 n2 D1 D2 A X B Y C Z W.drew :=
  (h.next (below_drewN W 1)).c28
theorem Nm3.c28R {w W : World} {n1 n2 : Int} {D1 D2 A X B Y C Z : Nat} (h : Nm3 w W n1 n2 D1 D2 [(C, Z), (B, Y), (A, X)]) (u0 u1 : Value) : Cell28 w n1 n2 D1 D2 A X B Y C Z ((W.setCell ⟨w.heap.size + 1 + 1, 0, none⟩ u0).setCell ⟨w.heap.size + 1 + 1, 1, none⟩ u1) :=
  ⟨h.bx.farR _ _, D8.farR (h.blk (A, X) (by simp)).1 (h.blk (A, X) (by simp)).2 _ _, D8.farR (h.blk (B, Y) (by simp)).1 (h.blk (B, Y) (by simp)).2 _ _, D8.farR (h.blk (C, Z) (by simp)).1 (h.blk (C, Z) (by simp)).2 _ _⟩
theorem abs_cases (n : Int) : ((n.natAbs : Nat) : Int) = if decide (n < 0) then -n else n := by
  by_cases h : n < 0 <;> simp [h] <;> omega
theorem add_same {n1 n2 : Int} {D1 D2 : Nat} {b : Bool} (h1 : decide (n1 < 0) = b) (h2 : decide (n2 < 0) = b) : n1 * D2 + n2 * D1 = sg b (n1.natAbs * D2 + n2.natAbs * D1) := by
  cases b
  · simp only [sg, Bool.false_eq_true, if_false, Int.natCast_add, Int.natCast_mul, abs_cases, h1, h2]
  · simp only [sg, if_true, Int.natCast_add, Int.natCast_mul, abs_cases, h1, h2]; grind
theorem add_lt {n1 n2 : Int} {D1 D2 : Nat} {b1 b2 : Bool} (h1 : decide (n1 < 0) = b1) (h2 : decide (n2 < 0) = b2) (hb : (b1 == b2) = false) (hl : n1.natAbs * D2 ≤ n2.natAbs * D1) : n1 * D2 + n2 * D1 = sg b2 (n2.natAbs * D1 - n1.natAbs * D2) := by
  cases b1 <;> cases b2 <;> simp at hb
  · simp only [sg, if_true, Int.natCast_sub hl, Int.natCast_mul, abs_cases, h1, h2, Bool.false_eq_true, if_false]; grind
  · simp only [sg, if_true, Int.natCast_sub hl, Int.natCast_mul, abs_cases, h1, h2, Bool.false_eq_true, if_false]; grind
theorem add_ge {n1 n2 : Int} {D1 D2 : Nat} {b1 b2 : Bool} (h1 : decide (n1 < 0) = b1) (h2 : decide (n2 < 0) = b2) (hb : (b1 == b2) = false) (hl : n2.natAbs * D1 ≤ n1.natAbs * D2) : n1 * D2 + n2 * D1 = sg b1 (n1.natAbs * D2 - n2.natAbs * D1) := by
  cases b1 <;> cases b2 <;> simp at hb
  · simp only [sg, if_true, Int.natCast_sub hl, Int.natCast_mul, abs_cases, h1, h2, Bool.false_eq_true, if_false]; grind
  · simp only [sg, if_true, Int.natCast_sub hl, Int.natCast_mul, abs_cases, h1, h2, Bool.false_eq_true, if_false]; grind
theorem sum7 {x y z t : Nat} (hx : x ≤ 4611686018427387904) (hy : y ≤ 4611686018427387904) (hz : z ≤ 4611686018427387904) (ht : t ≤ 4611686018427387904) : x * y + z * t < 4294967296 ^ 7 :=
  Nat.lt_of_le_of_lt (Nat.add_le_add (Nat.mul_le_mul hx hy) (Nat.mul_le_mul hz ht)) (by decide)
theorem plus_b {a b : Nat} (w : World) : Calls Tryd.prog 65 #[nv a, nv b] w (RetB (nv (a + b)) w) := plus_any a b w
theorem minus_b {a b : Nat} (w : World) (h : b ≤ a) : Calls Tryd.prog 67 #[nv a, nv b] w (RetB (nv (a - b)) w) := minus_any a b w h
set_option maxHeartbeats 1000000 in
theorem rAdd_bad (n1 d1 n2 d2 : Int) (w : World) (l1 : -9223372036854775808 ≤ n1) (u1 : n1 ≤ 9223372036854775807) (l2 : -9223372036854775808 ≤ d1) (u2 : d1 ≤ 9223372036854775807) (l3 : -9223372036854775808 ≤ n2) (u3 : n2 ≤ 9223372036854775807) (l4 : -9223372036854775808 ≤ d2) (u4 : d2 ≤ 9223372036854775807) (v : validB n1 d1 = false ∨ validB n2 d2 = false) : Calls Tryd.prog 31 #[.agg #[.int .i64 n1, .int .i64 d1], .agg #[.int .i64 n2, .int .i64 d2]] w (RetF (addF n1 d1 n2 d2) w) := by
  have E := Box.mk (add_no (n1 := n1) (d1 := d1) (n2 := n2) (d2 := d2) v)
  generalize v1 : validB n1 d1 = b1 at *
  generalize v2 : validB n2 d2 = b2 at *
  rcases v with rfl | rfl
  · cases b2
    all_goals
      go_enter Tryd.func31, Tryd.ntmps31
      go_wp2_with fail
      refine (rvalid_any n1 d1 _ (by omega) (by omega) (by omega) (by omega)).mono ?_
      rintro e w1 ⟨rfl, hb⟩
      rw [v1]
      have HB2 : Hid (Bx3 w w1 n1 d1 n2 d2) := (Bx3.start w n1 d1 n2 d2).next hb
      clear hb
      have HB := Lib.hid HB2.out; clear HB2
      obtain ⟨p0, p1⟩ := HB.out.b0.c2
      obtain ⟨q0, q1⟩ := HB.out.b1.c2
      go_wp2_with fail
      refine (rvalid_any n2 d2 _ (by omega) (by omega) (by omega) (by omega)).mono ?_
      rintro e w2 ⟨rfl, hb⟩
      rw [v2]
      have HB2 : Hid (Bx3 w w2 n1 d1 n2 d2) := HB.out.next hb
      clear hb p0 p1 q0 q1 HB
      have HB := Lib.hid HB2.out; clear HB2
      obtain ⟨p0, p1⟩ := HB.out.b0.c2
      obtain ⟨q0, q1⟩ := HB.out.b1.c2
      obtain ⟨p0, p1⟩ := HB.out.b0.c2
      obtain ⟨q0, q1⟩ := HB.out.b1.c2
      obtain ⟨r0, r1⟩ := HB.out.b2.c2
      have rf := HB.out.b2.frozen
      have hz := HB.out.b2.lt
      go_wp2_with fail
      exact bodyPost_ret (v := .tuple #[.agg #[.int .i64 0, .int .i64 0], .int .i64 1]) (by simp [results, Tryd.results31, go_sem, r0, r1, rf, hz]) rfl (retF E.out rfl (bset2 HB.out.below (by omega) _ _))
  · cases b1
    all_goals
      go_enter Tryd.func31, Tryd.ntmps31
      go_wp2_with fail
      refine (rvalid_any n1 d1 _ (by omega) (by omega) (by omega) (by omega)).mono ?_
      rintro e w1 ⟨rfl, hb⟩
      rw [v1]
      have HB2 : Hid (Bx3 w w1 n1 d1 n2 d2) := (Bx3.start w n1 d1 n2 d2).next hb
      clear hb
      have HB := Lib.hid HB2.out; clear HB2
      obtain ⟨p0, p1⟩ := HB.out.b0.c2
      obtain ⟨q0, q1⟩ := HB.out.b1.c2
      go_wp2_with fail
      refine (rvalid_any n2 d2 _ (by omega) (by omega) (by omega) (by omega)).mono ?_
      rintro e w2 ⟨rfl, hb⟩
      rw [v2]
      have HB2 : Hid (Bx3 w w2 n1 d1 n2 d2) := HB.out.next hb
      clear hb p0 p1 q0 q1 HB
      have HB := Lib.hid HB2.out; clear HB2
      obtain ⟨p0, p1⟩ := HB.out.b0.c2
      obtain ⟨q0, q1⟩ := HB.out.b1.c2
      obtain ⟨p0, p1⟩ := HB.out.b0.c2
      obtain ⟨q0, q1⟩ := HB.out.b1.c2
      obtain ⟨r0, r1⟩ := HB.out.b2.c2
      have rf := HB.out.b2.frozen
      have hz := HB.out.b2.lt
      go_wp2_with fail
      exact bodyPost_ret (v := .tuple #[.agg #[.int .i64 0, .int .i64 0], .int .i64 1]) (by simp [results, Tryd.results31, go_sem, r0, r1, rf, hz]) rfl (retF E.out rfl (bset2 HB.out.below (by omega) _ _))
set_option maxHeartbeats 1000000 in
set_option maxRecDepth 100000 in
theorem rAdd_short (n1 n2 : Int) (D1 D2 : Nat) (w : World) (v1 : validB n1 D1 = true) (v2 : validB n2 D2 = true) (s1 : shortB n1 D1 = true) (s2 : shortB n2 D2 = true) : Calls Tryd.prog 31 #[.agg #[.int .i64 n1, .int .i64 (D1 : Nat)], .agg #[.int .i64 n2, .int .i64 (D2 : Nat)]] w (RetF (addF n1 D1 n2 D2) w) := by
  obtain ⟨x1, x2, x3⟩ := valid_bd v1
  obtain ⟨y1, y2, y3⟩ := valid_bd v2
  have g1 : IntKind.u64.wrap (D1 : Int) = D1 := fin_u64 _ (by omega) (by omega)
  have g2 : IntKind.u64.wrap (D2 : Int) = D2 := fin_u64 _ (by omega) (by omega)
  have z1 : D1 ≤ 4611686018427387904 := by omega
  have z2 : D2 ≤ 4611686018427387904 := by omega
  obtain ⟨k1, k2⟩ := short_iff s1
  obtain ⟨k3, k4⟩ := short_iff s2
  have m0 := mulB (A := 0) (x := n1) (y := (D2 : Int)) k1 (by omega)
  have m1 := mulB (A := 0) (x := n2) (y := (D1 : Int)) k3 (by omega)
  have m2 := mulB (A := 0) (x := (D1 : Int)) (y := (D2 : Int)) (by omega) (by omega)
  have m3 : 0 < (D1 : Int) * (D2 : Int) := Int.mul_pos (by omega) (by omega)
  obtain ⟨rr, hr⟩ : ∃ rr, rr = low (n1 * D2 + n2 * D1) ((D1 : Int) * (D2 : Int)).natAbs := ⟨_, rfl⟩
  have HE : Box (newF (n1 * D2 + n2 * D1) ((D1 : Int) * (D2 : Int)) = rr) := ⟨by rw [newF_pos m3 (by omega) (by omega), hr]⟩
  have HS : Box (addF n1 D1 n2 D2 = rr) := ⟨by rw [addF_v v1 v2, hr]⟩
  clear hr
  go_enter Tryd.func31, Tryd.ntmps31
  go_wp2_with fail
  refine (rvalid_any n1 _ _ (by omega) (by omega) (by omega) (by omega)).mono ?_
  rintro e w1 ⟨rfl, hb⟩
  rw [v1]
  have HB2 : Hid (Bx3 w w1 n1 D1 n2 D2) := (Bx3.start w n1 D1 n2 D2).next hb
  clear hb
  have HB := Lib.hid HB2.out; clear HB2
  obtain ⟨p0, p1⟩ := HB.out.b0.c2
  obtain ⟨q0, q1⟩ := HB.out.b1.c2
  go_wp2_with fail
  refine (rvalid_any n2 _ _ (by omega) (by omega) (by omega) (by omega)).mono ?_
  rintro e w2 ⟨rfl, hb⟩
  rw [v2]
  have HB2 : Hid (Bx3 w w2 n1 D1 n2 D2) := HB.out.next hb
  clear hb p0 p1 q0 q1 HB
  have HB := Lib.hid HB2.out; clear HB2
  obtain ⟨p0, p1⟩ := HB.out.b0.c2
  obtain ⟨q0, q1⟩ := HB.out.b1.c2
  go_wp2_with fail
  refine (short_any n1 _ _ (by omega) (by omega)).mono ?_
  rintro e w3 ⟨rfl, hb⟩
  rw [s1]
  have HB2 : Hid (Bx3 w w3 n1 D1 n2 D2) := HB.out.next hb
  clear hb p0 p1 q0 q1 HB
  have HB := Lib.hid HB2.out; clear HB2
  obtain ⟨p0, p1⟩ := HB.out.b0.c2
  obtain ⟨q0, q1⟩ := HB.out.b1.c2
  go_wp2_with fail
  refine (short_any n2 _ _ (by omega) (by omega)).mono ?_
  rintro e w4 ⟨rfl, hb⟩
  rw [s2]
  have HB2 : Hid (Bx3 w w4 n1 D1 n2 D2) := HB.out.next hb
  clear hb p0 p1 q0 q1 HB
  have HB := Lib.hid HB2.out; clear HB2
  obtain ⟨p0, p1⟩ := HB.out.b0.c2
  obtain ⟨q0, q1⟩ := HB.out.b1.c2
  obtain ⟨r0, r1⟩ := HB.out.b2.c2
  have rf := HB.out.b2.frozen
  have hz := HB.out.b2.lt
  go_wp2_with fail
  refine (rnew_any (n1 * (D2 : Int) + n2 * (D1 : Int)) ((D1 : Int) * (D2 : Int)) _ (by omega) (by omega) (by omega) (by omega)).mono ?_
  rintro e w5 ⟨rfl, hb⟩
  rw [HE.out]
  have HB2 : Hid (Bx3 w w5 n1 D1 n2 D2) := HB.out.next hb
  clear hb p0 p1 q0 q1 r0 r1 rf hz HB
  have HB := Lib.hid HB2.out; clear HB2
  obtain ⟨r0, r1⟩ := HB.out.b2.c2
  have rf := HB.out.b2.frozen
  have hz := HB.out.b2.lt
  obtain ⟨rx, ry, rc⟩ := rr
  go_wp2_with fail
  exact bodyPost_ret (v := .tuple #[.agg #[.int .i64 rx, .int .i64 ry], .int .i64 rc]) (by simp [results, Tryd.results31, go_sem, r0, r1, rf, hz]) rfl (retF HS.out rfl (bset2 HB.out.below (by omega) _ _))
set_option maxHeartbeats 8000000 in
set_option maxRecDepth 100000 in
theorem rAdd_long (n1 n2 : Int) (D1 D2 : Nat) (w : World) (v1 : validB n1 D1 = true) (v2 : validB n2 D2 = true) (s : shortB n1 D1 = false ∨ shortB n2 D2 = false) : Calls Tryd.prog 31 #[.agg #[.int .i64 n1, .int .i64 (D1 : Nat)], .agg #[.int .i64 n2, .int .i64 (D2 : Nat)]] w (RetF (addF n1 D1 n2 D2) w) := by
  obtain ⟨x1, x2, x3⟩ := valid_bd v1
  obtain ⟨y1, y2, y3⟩ := valid_bd v2
  have g1 : IntKind.u64.wrap (D1 : Int) = D1 := fin_u64 _ (by omega) (by omega)
  have g2 : IntKind.u64.wrap (D2 : Int) = D2 := fin_u64 _ (by omega) (by omega)
  have z1 : D1 ≤ 4611686018427387904 := by omega
  have z2 : D2 ≤ 4611686018427387904 := by omega
  have hD0 : 0 < D1 * D2 := Nat.mul_pos (by omega) (by omega)
  obtain ⟨b1, hb1⟩ : ∃ b1, decide (n1 < 0) = b1 := ⟨_, rfl⟩
  obtain ⟨b2, hb2⟩ : ∃ b2, decide (n2 < 0) = b2 := ⟨_, rfl⟩
  have HA := Box.mk (addF_v v1 v2)
  rw [nat_mul_abs] at HA
  have PS := Box.mk (sum7 x1 z2 y1 z1)
  have PX := Box.mk (small2 x1 z2); have PY := Box.mk (small2 y1 z1)
  have Q7 := Box.mk (prod7 z1 z2)
  generalize s1 : shortB n1 D1 = c1 at *
  generalize s2 : shortB n2 D2 = c2 at *
  go_enter Tryd.func31, Tryd.ntmps31
  go_wp2_with fail
  refine (rvalid_any n1 _ _ (by omega) (by omega) (by omega) (by omega)).mono ?_
  rintro e w1 ⟨rfl, hb⟩
  rw [v1]
  have HB2 : Hid (Bx3 w w1 n1 D1 n2 D2) := (Bx3.start w n1 D1 n2 D2).next hb
  clear hb
  have HB := Lib.hid HB2.out; clear HB2
  obtain ⟨p0, p1⟩ := HB.out.b0.c2
  obtain ⟨q0, q1⟩ := HB.out.b1.c2
  go_wp2_with fail
  refine (rvalid_any n2 _ _ (by omega) (by omega) (by omega) (by omega)).mono ?_
  rintro e w2 ⟨rfl, hb⟩
  rw [v2]
  have HB2 : Hid (Bx3 w w2 n1 D1 n2 D2) := HB.out.next hb
  clear hb p0 p1 q0 q1 HB
  have HB := Lib.hid HB2.out; clear HB2
  obtain ⟨p0, p1⟩ := HB.out.b0.c2
  obtain ⟨q0, q1⟩ := HB.out.b1.c2
  go_wp2_with fail
  refine (short_any n1 _ _ (by omega) (by omega)).mono ?_
  rintro e w3 ⟨rfl, hb⟩
  rw [s1]
  have HB2 : Hid (Bx3 w w3 n1 D1 n2 D2) := HB.out.next hb
  clear hb p0 p1 q0 q1 HB
  have HB := Lib.hid HB2.out; clear HB2
  obtain ⟨p0, p1⟩ := HB.out.b0.c2
  obtain ⟨q0, q1⟩ := HB.out.b1.c2
  go_wp2_with fail
  refine (short_any n2 _ _ (by omega) (by omega)).mono ?_
  rintro e w4 ⟨rfl, hb⟩
  rw [s2]
  have HB2 : Hid (Bx3 w w4 n1 D1 n2 D2) := HB.out.next hb
  clear hb p0 p1 q0 q1 HB
  have HB := Lib.hid HB2.out; clear HB2
  obtain ⟨p0, p1⟩ := HB.out.b0.c2
  obtain ⟨q0, q1⟩ := HB.out.b1.c2
  have s3 : (c1 && c2) = false := by rcases s with rfl | rfl <;> simp
  clear s
  go_upto_region 7 with (fail)
  go_cut [29] (fun s wx => s = .bool false ∧ Nm3 w wx n1 n2 D1 D2 [])
  case first =>
    cases c1
    · go_wp2_with fail
      go_meet
      exact ⟨rfl, HB.out, fun p hp => by cases hp⟩
    · obtain rfl : c2 = false := by simpa using s3
      go_wp2_with fail
      go_meet
      exact ⟨rfl, HB.out, fun p hp => by cases hp⟩
  case rest =>
    obtain ⟨rfl, hbx⟩ := hcut
    clear HB p0 p1 q0 q1 s3
    have HB := Lib.hid hbx; clear hbx
    go_upto_region 9 with (fail)
    go_cut [8] (fun s wx => NCutL w n1 n2 D1 D2 (n1.natAbs * D2) [] s wx)
    case first =>
      obtain ⟨p0, p1⟩ := HB.out.bx.b0.c2
      obtain ⟨q0, q1⟩ := HB.out.bx.b1.c2
      go_region_held3 (fun w' => w'.cell? ⟨w.heap.size, 0, none⟩ = some (.int .i64 n1) ∧ w'.cell? ⟨w.heap.size, 1, none⟩ = some (.int .i64 (D1 : Nat)) ∧ w'.cell? ⟨w.heap.size + 1, 0, none⟩ = some (.int .i64 n2) ∧ w'.cell? ⟨w.heap.size + 1, 1, none⟩ = some (.int .i64 (D2 : Nat)))
        (first | with_reducible exact HB.out.bx.c4 | with_reducible exact HB.out.bx.c4w | with_reducible exact (HB.out.bx.next (bel1 _ _)).c4 | with_reducible exact (HB.out.bx.next (below_drewN _ _)).c4 | with_reducible exact ((HB.out.bx.next (bel1 _ _)).next (below_drewN _ _)).c4 | with_reducible exact ((HB.out.bx.next (below_drewN _ _)).next (bel1 _ _)).c4 | with_reducible exact (HB.out.bx.far8 hNz2 (dg (n1.natAbs * D2))).c4 | go_keep)
        (first
          | (go_at_call 45; (with_reducible refine (size_b n1 _ x1).mono ?_); rintro e w5 ⟨rfl, hb5⟩; (first | (replace HN := Lib.hid (D8.below HN.out hb5)) | (have HN : Hid (D8 w5 _ (fun _ => 0)) := D8.below (Blk.new _ _ _) hb5; have hNz := Box.mk HB.out.over; have hNz2 := HB.out.bx.b2.lt) | (have HN : Hid (D8 w5 _ (fun _ => 0)) := D8.below (Blk.drewN (Blk.new _ _ _) _) hb5; have hNz := Box.mk HB.out.over; have hNz2 := HB.out.bx.b2.lt) | skip); have HB2 : Hid (Nm3 w w5 n1 n2 D1 D2 []) := (by first | exact HB.out.next hb5 | exact (HB.out.next (below_drewN _ _)).next hb5 | exact (HB.out.next (bel1 _ _)).next hb5 | exact ((HB.out.next (bel1 _ _)).next (below_drewN _ _)).next hb5 | exact ((HB.out.next (below_drewN _ _)).next (bel1 _ _)).next hb5); clear HB; have HB := Lib.hid HB2.out; clear HB2; clear hb5; (try clear m0 m1 m2 m3 m4 m5 m6 m7 mf); (try (obtain ⟨m0, m1, m2, m3, m4, m5, m6, m7⟩ := HN.out.cells; have mf := Blk.frozen HN.out)))
          | (go_at_call 51; (with_reducible refine (from_b n1.natAbs _ x1).mono ?_); rintro e w5 ⟨rfl, hb5⟩; (first | (replace HN := Lib.hid (D8.below HN.out hb5)) | (have HN : Hid (D8 w5 _ (fun _ => 0)) := D8.below (Blk.new _ _ _) hb5; have hNz := Box.mk HB.out.over; have hNz2 := HB.out.bx.b2.lt) | (have HN : Hid (D8 w5 _ (fun _ => 0)) := D8.below (Blk.drewN (Blk.new _ _ _) _) hb5; have hNz := Box.mk HB.out.over; have hNz2 := HB.out.bx.b2.lt) | skip); have HB2 : Hid (Nm3 w w5 n1 n2 D1 D2 []) := (by first | exact HB.out.next hb5 | exact (HB.out.next (below_drewN _ _)).next hb5 | exact (HB.out.next (bel1 _ _)).next hb5 | exact ((HB.out.next (bel1 _ _)).next (below_drewN _ _)).next hb5 | exact ((HB.out.next (below_drewN _ _)).next (bel1 _ _)).next hb5); clear HB; have HB := Lib.hid HB2.out; clear HB2; clear hb5; (try clear m0 m1 m2 m3 m4 m5 m6 m7 mf); (try (obtain ⟨m0, m1, m2, m3, m4, m5, m6, m7⟩ := HN.out.cells; have mf := Blk.frozen HN.out)))
          | (go_at_call 51; (with_reducible refine (from_b D2 _ z2).mono ?_); rintro e w5 ⟨rfl, hb5⟩; (first | (replace HN := Lib.hid (D8.below HN.out hb5)) | (have HN : Hid (D8 w5 _ (fun _ => 0)) := D8.below (Blk.new _ _ _) hb5; have hNz := Box.mk HB.out.over; have hNz2 := HB.out.bx.b2.lt) | (have HN : Hid (D8 w5 _ (fun _ => 0)) := D8.below (Blk.drewN (Blk.new _ _ _) _) hb5; have hNz := Box.mk HB.out.over; have hNz2 := HB.out.bx.b2.lt) | skip); have HB2 : Hid (Nm3 w w5 n1 n2 D1 D2 []) := (by first | exact HB.out.next hb5 | exact (HB.out.next (below_drewN _ _)).next hb5 | exact (HB.out.next (bel1 _ _)).next hb5 | exact ((HB.out.next (bel1 _ _)).next (below_drewN _ _)).next hb5 | exact ((HB.out.next (below_drewN _ _)).next (bel1 _ _)).next hb5); clear HB; have HB := Lib.hid HB2.out; clear HB2; clear hb5; (try clear m0 m1 m2 m3 m4 m5 m6 m7 mf); (try (obtain ⟨m0, m1, m2, m3, m4, m5, m6, m7⟩ := HN.out.cells; have mf := Blk.frozen HN.out)))
          | (go_at_call 50; (with_reducible refine (times_b _ x1).mono ?_); rintro e w5 ⟨rfl, hb5⟩; (first | (replace HN := Lib.hid (D8.below HN.out hb5)) | (have HN : Hid (D8 w5 _ (fun _ => 0)) := D8.below (Blk.new _ _ _) hb5; have hNz := Box.mk HB.out.over; have hNz2 := HB.out.bx.b2.lt) | (have HN : Hid (D8 w5 _ (fun _ => 0)) := D8.below (Blk.drewN (Blk.new _ _ _) _) hb5; have hNz := Box.mk HB.out.over; have hNz2 := HB.out.bx.b2.lt) | skip); have HB2 : Hid (Nm3 w w5 n1 n2 D1 D2 []) := (by first | exact HB.out.next hb5 | exact (HB.out.next (below_drewN _ _)).next hb5 | exact (HB.out.next (bel1 _ _)).next hb5 | exact ((HB.out.next (bel1 _ _)).next (below_drewN _ _)).next hb5 | exact ((HB.out.next (below_drewN _ _)).next (bel1 _ _)).next hb5); clear HB; have HB := Lib.hid HB2.out; clear HB2; clear hb5; (try clear m0 m1 m2 m3 m4 m5 m6 m7 mf); (try (obtain ⟨m0, m1, m2, m3, m4, m5, m6, m7⟩ := HN.out.cells; have mf := Blk.frozen HN.out))))
      all_goals
        go_wp2_with fail
        go_meet
        first
          | (have hk := HB.out.put' (n1.natAbs * D2) HN.out hNz.out rfl; exact ⟨_, rfl, hk⟩)
          | (have hk := HB.out.new' (n1.natAbs * D2) rfl; exact ⟨_, rfl, hk⟩)
    case rest =>
      clear HB
      obtain ⟨A, rfl, hbx⟩ := hcut
      have HB := Lib.hid hbx; clear hbx
      go_upto_region 10 with (fail)
      go_cut [9] (fun s wx => NCutL w n1 n2 D1 D2 (n2.natAbs * D1) [(A, n1.natAbs * D2)] s wx)
      case first =>
        obtain ⟨p0, p1⟩ := HB.out.bx.b0.c2
        obtain ⟨q0, q1⟩ := HB.out.bx.b1.c2
        go_region_held3 (fun w' => w'.cell? ⟨w.heap.size, 0, none⟩ = some (.int .i64 n1) ∧ w'.cell? ⟨w.heap.size, 1, none⟩ = some (.int .i64 (D1 : Nat)) ∧ w'.cell? ⟨w.heap.size + 1, 0, none⟩ = some (.int .i64 n2) ∧ w'.cell? ⟨w.heap.size + 1, 1, none⟩ = some (.int .i64 (D2 : Nat)))
          (first | with_reducible exact HB.out.bx.c4 | with_reducible exact HB.out.bx.c4w | with_reducible exact (HB.out.bx.next (bel1 _ _)).c4 | with_reducible exact (HB.out.bx.next (below_drewN _ _)).c4 | with_reducible exact ((HB.out.bx.next (bel1 _ _)).next (below_drewN _ _)).c4 | with_reducible exact ((HB.out.bx.next (below_drewN _ _)).next (bel1 _ _)).c4 | with_reducible exact (HB.out.bx.far8 hNz2 (dg (n2.natAbs * D1))).c4 | go_keep)
          (first
            | (go_at_call 45; (with_reducible refine (size_b n2 _ y1).mono ?_); rintro e w5 ⟨rfl, hb5⟩; (first | (replace HN := Lib.hid (D8.below HN.out hb5)) | (have HN : Hid (D8 w5 _ (fun _ => 0)) := D8.below (Blk.new _ _ _) hb5; have hNz := Box.mk HB.out.over; have hNz2 := HB.out.bx.b2.lt) | (have HN : Hid (D8 w5 _ (fun _ => 0)) := D8.below (Blk.drewN (Blk.new _ _ _) _) hb5; have hNz := Box.mk HB.out.over; have hNz2 := HB.out.bx.b2.lt) | skip); have HB2 : Hid (Nm3 w w5 n1 n2 D1 D2 [(A, n1.natAbs * D2)]) := (by first | exact HB.out.next hb5 | exact (HB.out.next (below_drewN _ _)).next hb5 | exact (HB.out.next (bel1 _ _)).next hb5 | exact ((HB.out.next (bel1 _ _)).next (below_drewN _ _)).next hb5 | exact ((HB.out.next (below_drewN _ _)).next (bel1 _ _)).next hb5); clear HB; have HB := Lib.hid HB2.out; clear HB2; clear hb5; (try clear m0 m1 m2 m3 m4 m5 m6 m7 mf); (try (obtain ⟨m0, m1, m2, m3, m4, m5, m6, m7⟩ := HN.out.cells; have mf := Blk.frozen HN.out)))
            | (go_at_call 51; (with_reducible refine (from_b n2.natAbs _ y1).mono ?_); rintro e w5 ⟨rfl, hb5⟩; (first | (replace HN := Lib.hid (D8.below HN.out hb5)) | (have HN : Hid (D8 w5 _ (fun _ => 0)) := D8.below (Blk.new _ _ _) hb5; have hNz := Box.mk HB.out.over; have hNz2 := HB.out.bx.b2.lt) | (have HN : Hid (D8 w5 _ (fun _ => 0)) := D8.below (Blk.drewN (Blk.new _ _ _) _) hb5; have hNz := Box.mk HB.out.over; have hNz2 := HB.out.bx.b2.lt) | skip); have HB2 : Hid (Nm3 w w5 n1 n2 D1 D2 [(A, n1.natAbs * D2)]) := (by first | exact HB.out.next hb5 | exact (HB.out.next (below_drewN _ _)).next hb5 | exact (HB.out.next (bel1 _ _)).next hb5 | exact ((HB.out.next (bel1 _ _)).next (below_drewN _ _)).next hb5 | exact ((HB.out.next (below_drewN _ _)).next (bel1 _ _)).next hb5); clear HB; have HB := Lib.hid HB2.out; clear HB2; clear hb5; (try clear m0 m1 m2 m3 m4 m5 m6 m7 mf); (try (obtain ⟨m0, m1, m2, m3, m4, m5, m6, m7⟩ := HN.out.cells; have mf := Blk.frozen HN.out)))
            | (go_at_call 51; (with_reducible refine (from_b D1 _ z1).mono ?_); rintro e w5 ⟨rfl, hb5⟩; (first | (replace HN := Lib.hid (D8.below HN.out hb5)) | (have HN : Hid (D8 w5 _ (fun _ => 0)) := D8.below (Blk.new _ _ _) hb5; have hNz := Box.mk HB.out.over; have hNz2 := HB.out.bx.b2.lt) | (have HN : Hid (D8 w5 _ (fun _ => 0)) := D8.below (Blk.drewN (Blk.new _ _ _) _) hb5; have hNz := Box.mk HB.out.over; have hNz2 := HB.out.bx.b2.lt) | skip); have HB2 : Hid (Nm3 w w5 n1 n2 D1 D2 [(A, n1.natAbs * D2)]) := (by first | exact HB.out.next hb5 | exact (HB.out.next (below_drewN _ _)).next hb5 | exact (HB.out.next (bel1 _ _)).next hb5 | exact ((HB.out.next (bel1 _ _)).next (below_drewN _ _)).next hb5 | exact ((HB.out.next (below_drewN _ _)).next (bel1 _ _)).next hb5); clear HB; have HB := Lib.hid HB2.out; clear HB2; clear hb5; (try clear m0 m1 m2 m3 m4 m5 m6 m7 mf); (try (obtain ⟨m0, m1, m2, m3, m4, m5, m6, m7⟩ := HN.out.cells; have mf := Blk.frozen HN.out)))
            | (go_at_call 50; (with_reducible refine (times_b _ y1).mono ?_); rintro e w5 ⟨rfl, hb5⟩; (first | (replace HN := Lib.hid (D8.below HN.out hb5)) | (have HN : Hid (D8 w5 _ (fun _ => 0)) := D8.below (Blk.new _ _ _) hb5; have hNz := Box.mk HB.out.over; have hNz2 := HB.out.bx.b2.lt) | (have HN : Hid (D8 w5 _ (fun _ => 0)) := D8.below (Blk.drewN (Blk.new _ _ _) _) hb5; have hNz := Box.mk HB.out.over; have hNz2 := HB.out.bx.b2.lt) | skip); have HB2 : Hid (Nm3 w w5 n1 n2 D1 D2 [(A, n1.natAbs * D2)]) := (by first | exact HB.out.next hb5 | exact (HB.out.next (below_drewN _ _)).next hb5 | exact (HB.out.next (bel1 _ _)).next hb5 | exact ((HB.out.next (bel1 _ _)).next (below_drewN _ _)).next hb5 | exact ((HB.out.next (below_drewN _ _)).next (bel1 _ _)).next hb5); clear HB; have HB := Lib.hid HB2.out; clear HB2; clear hb5; (try clear m0 m1 m2 m3 m4 m5 m6 m7 mf); (try (obtain ⟨m0, m1, m2, m3, m4, m5, m6, m7⟩ := HN.out.cells; have mf := Blk.frozen HN.out))))
        all_goals
          go_wp2_with fail
          go_meet
          first
            | (have hk := HB.out.put' (n2.natAbs * D1) HN.out hNz.out rfl; exact ⟨_, rfl, hk⟩)
            | (have hk := HB.out.new' (n2.natAbs * D1) rfl; exact ⟨_, rfl, hk⟩)
      case rest =>
        clear HB
        obtain ⟨B, rfl, hbx⟩ := hcut
        have HB := Lib.hid hbx; clear hbx
        go_upto_region 11 with (fail)
        go_cut [10] (fun s wx => NCutL w n1 n2 D1 D2 (D1 * D2) [(B, n2.natAbs * D1), (A, n1.natAbs * D2)] s wx)
        case first =>
          obtain ⟨p0, p1⟩ := HB.out.bx.b0.c2
          obtain ⟨q0, q1⟩ := HB.out.bx.b1.c2
          go_region_held3 (fun w' => w'.cell? ⟨w.heap.size, 0, none⟩ = some (.int .i64 n1) ∧ w'.cell? ⟨w.heap.size, 1, none⟩ = some (.int .i64 (D1 : Nat)) ∧ w'.cell? ⟨w.heap.size + 1, 0, none⟩ = some (.int .i64 n2) ∧ w'.cell? ⟨w.heap.size + 1, 1, none⟩ = some (.int .i64 (D2 : Nat)))
            (first | with_reducible exact HB.out.bx.c4 | with_reducible exact HB.out.bx.c4w | with_reducible exact (HB.out.bx.next (bel1 _ _)).c4 | with_reducible exact (HB.out.bx.next (below_drewN _ _)).c4 | with_reducible exact ((HB.out.bx.next (bel1 _ _)).next (below_drewN _ _)).c4 | with_reducible exact ((HB.out.bx.next (below_drewN _ _)).next (bel1 _ _)).c4 | with_reducible exact (HB.out.bx.far8 hNz2 (dg (D1 * D2))).c4 | go_keep)
            (first
              | (go_at_call 51; (with_reducible refine (from_b D1 _ z1).mono ?_); rintro e w5 ⟨rfl, hb5⟩; (first | (replace HN := Lib.hid (D8.below HN.out hb5)) | (have HN : Hid (D8 w5 _ (fun _ => 0)) := D8.below (Blk.new _ _ _) hb5; have hNz := Box.mk HB.out.over; have hNz2 := HB.out.bx.b2.lt) | (have HN : Hid (D8 w5 _ (fun _ => 0)) := D8.below (Blk.drewN (Blk.new _ _ _) _) hb5; have hNz := Box.mk HB.out.over; have hNz2 := HB.out.bx.b2.lt) | skip); have HB2 : Hid (Nm3 w w5 n1 n2 D1 D2 [(B, n2.natAbs * D1), (A, n1.natAbs * D2)]) := (by first | exact HB.out.next hb5 | exact (HB.out.next (below_drewN _ _)).next hb5 | exact (HB.out.next (bel1 _ _)).next hb5 | exact ((HB.out.next (bel1 _ _)).next (below_drewN _ _)).next hb5 | exact ((HB.out.next (below_drewN _ _)).next (bel1 _ _)).next hb5); clear HB; have HB := Lib.hid HB2.out; clear HB2; clear hb5; (try clear m0 m1 m2 m3 m4 m5 m6 m7 mf); (try (obtain ⟨m0, m1, m2, m3, m4, m5, m6, m7⟩ := HN.out.cells; have mf := Blk.frozen HN.out)))
              | (go_at_call 51; (with_reducible refine (from_b D2 _ z2).mono ?_); rintro e w5 ⟨rfl, hb5⟩; (first | (replace HN := Lib.hid (D8.below HN.out hb5)) | (have HN : Hid (D8 w5 _ (fun _ => 0)) := D8.below (Blk.new _ _ _) hb5; have hNz := Box.mk HB.out.over; have hNz2 := HB.out.bx.b2.lt) | (have HN : Hid (D8 w5 _ (fun _ => 0)) := D8.below (Blk.drewN (Blk.new _ _ _) _) hb5; have hNz := Box.mk HB.out.over; have hNz2 := HB.out.bx.b2.lt) | skip); have HB2 : Hid (Nm3 w w5 n1 n2 D1 D2 [(B, n2.natAbs * D1), (A, n1.natAbs * D2)]) := (by first | exact HB.out.next hb5 | exact (HB.out.next (below_drewN _ _)).next hb5 | exact (HB.out.next (bel1 _ _)).next hb5 | exact ((HB.out.next (bel1 _ _)).next (below_drewN _ _)).next hb5 | exact ((HB.out.next (below_drewN _ _)).next (bel1 _ _)).next hb5); clear HB; have HB := Lib.hid HB2.out; clear HB2; clear hb5; (try clear m0 m1 m2 m3 m4 m5 m6 m7 mf); (try (obtain ⟨m0, m1, m2, m3, m4, m5, m6, m7⟩ := HN.out.cells; have mf := Blk.frozen HN.out)))
              | (go_at_call 50; (with_reducible refine (times_b _ z1).mono ?_); rintro e w5 ⟨rfl, hb5⟩; (first | (replace HN := Lib.hid (D8.below HN.out hb5)) | (have HN : Hid (D8 w5 _ (fun _ => 0)) := D8.below (Blk.new _ _ _) hb5; have hNz := Box.mk HB.out.over; have hNz2 := HB.out.bx.b2.lt) | (have HN : Hid (D8 w5 _ (fun _ => 0)) := D8.below (Blk.drewN (Blk.new _ _ _) _) hb5; have hNz := Box.mk HB.out.over; have hNz2 := HB.out.bx.b2.lt) | skip); have HB2 : Hid (Nm3 w w5 n1 n2 D1 D2 [(B, n2.natAbs * D1), (A, n1.natAbs * D2)]) := (by first | exact HB.out.next hb5 | exact (HB.out.next (below_drewN _ _)).next hb5 | exact (HB.out.next (bel1 _ _)).next hb5 | exact ((HB.out.next (bel1 _ _)).next (below_drewN _ _)).next hb5 | exact ((HB.out.next (below_drewN _ _)).next (bel1 _ _)).next hb5); clear HB; have HB := Lib.hid HB2.out; clear HB2; clear hb5; (try clear m0 m1 m2 m3 m4 m5 m6 m7 mf); (try (obtain ⟨m0, m1, m2, m3, m4, m5, m6, m7⟩ := HN.out.cells; have mf := Blk.frozen HN.out))))
          all_goals
            go_wp2_with fail
            go_meet
            first
              | (have hk := HB.out.put' (D1 * D2) HN.out hNz.out rfl; exact ⟨_, rfl, hk⟩)
              | (have hk := HB.out.new' (D1 * D2) rfl; exact ⟨_, rfl, hk⟩)
        case rest =>
          clear HB
          obtain ⟨C, rfl, hbx⟩ := hcut
          have HB := Lib.hid hbx; clear hbx
          obtain ⟨p0, p1⟩ := HB.out.bx.b0.c2
          obtain ⟨q0, q1⟩ := HB.out.bx.b1.c2
          obtain ⟨m0, m1, m2, m3, m4, m5, m6, m7⟩ := D8.cells (HB.out.blk (A, n1.natAbs * D2) (by simp)).1
          obtain ⟨k0, k1, k2, k3, k4, k5, k6, k7⟩ := D8.cells (HB.out.blk (B, n2.natAbs * D1) (by simp)).1
          by_cases hbb : (b1 == b2) = true
          · obtain rfl : b1 = b2 := by simpa using hbb
            obtain ⟨rx, ry, rc, hr⟩ : ∃ rx ry rc, low (sg b1 (n1.natAbs * D2 + n2.natAbs * D1)) (D1 * D2) = (rx, ry, rc) := ⟨_, _, _, rfl⟩
            have HE := Box.mk hr
            have HS : Box (addF n1 D1 n2 D2 = (rx, ry, rc)) := ⟨by rw [HA.out, add_same hb1 hb2, hr]⟩
            have P7 : Box (n1.natAbs * D2 + n2.natAbs * D1 < 4294967296 ^ 7) := ⟨PS.out⟩
            clear hr
            go_upto_region 13 with (fail)
            clear p0 p1 q0 q1 m0 m1 m2 m3 m4 m5 m6 m7 k0 k1 k2 k3 k4 k5 k6 k7
            go_region_held3 (fun w' => (w'.cell? ⟨w.heap.size, 0, none⟩ = some (.int .i64 n1) ∧ w'.cell? ⟨w.heap.size, 1, none⟩ = some (.int .i64 (D1 : Nat)) ∧ w'.cell? ⟨w.heap.size + 1, 0, none⟩ = some (.int .i64 n2) ∧ w'.cell? ⟨w.heap.size + 1, 1, none⟩ = some (.int .i64 (D2 : Nat))) ∧ (w'.cell? ⟨A, 0, none⟩ = some (.int .u64 (dg (n1.natAbs * D2) 0 : Nat)) ∧ w'.cell? ⟨A, 1, none⟩ = some (.int .u64 (dg (n1.natAbs * D2) 1 : Nat)) ∧ w'.cell? ⟨A, 2, none⟩ = some (.int .u64 (dg (n1.natAbs * D2) 2 : Nat)) ∧ w'.cell? ⟨A, 3, none⟩ = some (.int .u64 (dg (n1.natAbs * D2) 3 : Nat)) ∧ w'.cell? ⟨A, 4, none⟩ = some (.int .u64 (dg (n1.natAbs * D2) 4 : Nat)) ∧ w'.cell? ⟨A, 5, none⟩ = some (.int .u64 (dg (n1.natAbs * D2) 5 : Nat)) ∧ w'.cell? ⟨A, 6, none⟩ = some (.int .u64 (dg (n1.natAbs * D2) 6 : Nat)) ∧ w'.cell? ⟨A, 7, none⟩ = some (.int .u64 (dg (n1.natAbs * D2) 7 : Nat))) ∧ (w'.cell? ⟨B, 0, none⟩ = some (.int .u64 (dg (n2.natAbs * D1) 0 : Nat)) ∧ w'.cell? ⟨B, 1, none⟩ = some (.int .u64 (dg (n2.natAbs * D1) 1 : Nat)) ∧ w'.cell? ⟨B, 2, none⟩ = some (.int .u64 (dg (n2.natAbs * D1) 2 : Nat)) ∧ w'.cell? ⟨B, 3, none⟩ = some (.int .u64 (dg (n2.natAbs * D1) 3 : Nat)) ∧ w'.cell? ⟨B, 4, none⟩ = some (.int .u64 (dg (n2.natAbs * D1) 4 : Nat)) ∧ w'.cell? ⟨B, 5, none⟩ = some (.int .u64 (dg (n2.natAbs * D1) 5 : Nat)) ∧ w'.cell? ⟨B, 6, none⟩ = some (.int .u64 (dg (n2.natAbs * D1) 6 : Nat)) ∧ w'.cell? ⟨B, 7, none⟩ = some (.int .u64 (dg (n2.natAbs * D1) 7 : Nat))) ∧ (w'.cell? ⟨C, 0, none⟩ = some (.int .u64 (dg (D1 * D2) 0 : Nat)) ∧ w'.cell? ⟨C, 1, none⟩ = some (.int .u64 (dg (D1 * D2) 1 : Nat)) ∧ w'.cell? ⟨C, 2, none⟩ = some (.int .u64 (dg (D1 * D2) 2 : Nat)) ∧ w'.cell? ⟨C, 3, none⟩ = some (.int .u64 (dg (D1 * D2) 3 : Nat)) ∧ w'.cell? ⟨C, 4, none⟩ = some (.int .u64 (dg (D1 * D2) 4 : Nat)) ∧ w'.cell? ⟨C, 5, none⟩ = some (.int .u64 (dg (D1 * D2) 5 : Nat)) ∧ w'.cell? ⟨C, 6, none⟩ = some (.int .u64 (dg (D1 * D2) 6 : Nat)) ∧ w'.cell? ⟨C, 7, none⟩ = some (.int .u64 (dg (D1 * D2) 7 : Nat))))
              (first | with_reducible exact HB.out.c28 | with_reducible exact HB.out.c28w | with_reducible exact (HB.out.next (below_drewN _ _)).c28 | with_reducible exact HB.out.c28R _ _ | go_keep)
              (first
                | (go_at_call 65; (with_reducible refine (plus_b _).mono ?_); rintro e w5 ⟨rfl, hb5⟩; have HB2 : Hid (Nm3 w w5 n1 n2 D1 D2 [(C, D1 * D2), (B, n2.natAbs * D1), (A, n1.natAbs * D2)]) := (by first | exact HB.out.next hb5 | exact (HB.out.next (below_drewN _ _)).next hb5); clear HB; have HB := Lib.hid HB2.out; clear HB2; clear hb5)
                | (go_at_call 52; (with_reducible refine (lowest_e _ HE.out P7.out Q7.out hD0).mono ?_); rintro e w5 ⟨rfl, hb5⟩; have HB2 : Hid (Nm3 w w5 n1 n2 D1 D2 [(C, D1 * D2), (B, n2.natAbs * D1), (A, n1.natAbs * D2)]) := (by first | exact HB.out.next hb5 | exact (HB.out.next (below_drewN _ _)).next hb5); clear HB; have HB := Lib.hid HB2.out; clear HB2; clear hb5; obtain ⟨r0, r1⟩ := HB.out.bx.b2.c2; have rf := HB.out.bx.b2.frozen; have hz := HB.out.bx.b2.lt))
            all_goals
              go_wp2_with fail
              exact bodyPost_ret (v := .tuple #[.agg #[.int .i64 rx, .int .i64 ry], .int .i64 rc]) (by simp [results, Tryd.results31, go_sem, r0, r1, rf, hz]) rfl (retF HS.out rfl (bset2 HB.out.bx.below (by omega) _ _))
          · have hbf : (b1 == b2) = false := by simpa using hbb
            clear hbb
            go_wp2_with fail
            refine (less_any _ _ _ PX.out PY.out).mono ?_
            rintro e w6 ⟨rfl, hb6⟩
            clear p0 p1 q0 q1 m0 m1 m2 m3 m4 m5 m6 m7 k0 k1 k2 k3 k4 k5 k6 k7
            have HB2 := Lib.hid (HB.out.next hb6); clear HB hb6
            have HB := Lib.hid HB2.out; clear HB2
            obtain ⟨p0, p1⟩ := HB.out.bx.b0.c2
            obtain ⟨q0, q1⟩ := HB.out.bx.b1.c2
            obtain ⟨m0, m1, m2, m3, m4, m5, m6, m7⟩ := D8.cells (HB.out.blk (A, n1.natAbs * D2) (by simp)).1
            obtain ⟨k0, k1, k2, k3, k4, k5, k6, k7⟩ := D8.cells (HB.out.blk (B, n2.natAbs * D1) (by simp)).1
            by_cases hlt : n1.natAbs * D2 < n2.natAbs * D1
            · rw [show lessN (n1.natAbs * D2) (n2.natAbs * D1) = -1 by unfold lessN; rw [if_pos hlt]]
              obtain ⟨rx, ry, rc, hr⟩ : ∃ rx ry rc, low (sg b2 (n2.natAbs * D1 - n1.natAbs * D2)) (D1 * D2) = (rx, ry, rc) := ⟨_, _, _, rfl⟩
              have HE := Box.mk hr
              have HS : Box (addF n1 D1 n2 D2 = (rx, ry, rc)) := ⟨by rw [HA.out, add_lt hb1 hb2 hbf (by omega), hr]⟩
              have P7 : Box (n2.natAbs * D1 - n1.natAbs * D2 < 4294967296 ^ 7) := ⟨Nat.lt_of_le_of_lt (Nat.le_trans (Nat.sub_le _ _) (Nat.le_add_left _ _)) PS.out⟩
              clear hr
              go_upto_region 15 with (fail)
              clear p0 p1 q0 q1 m0 m1 m2 m3 m4 m5 m6 m7 k0 k1 k2 k3 k4 k5 k6 k7
              go_region_held3 (fun w' => (w'.cell? ⟨w.heap.size, 0, none⟩ = some (.int .i64 n1) ∧ w'.cell? ⟨w.heap.size, 1, none⟩ = some (.int .i64 (D1 : Nat)) ∧ w'.cell? ⟨w.heap.size + 1, 0, none⟩ = some (.int .i64 n2) ∧ w'.cell? ⟨w.heap.size + 1, 1, none⟩ = some (.int .i64 (D2 : Nat))) ∧ (w'.cell? ⟨A, 0, none⟩ = some (.int .u64 (dg (n1.natAbs * D2) 0 : Nat)) ∧ w'.cell? ⟨A, 1, none⟩ = some (.int .u64 (dg (n1.natAbs * D2) 1 : Nat)) ∧ w'.cell? ⟨A, 2, none⟩ = some (.int .u64 (dg (n1.natAbs * D2) 2 : Nat)) ∧ w'.cell? ⟨A, 3, none⟩ = some (.int .u64 (dg (n1.natAbs * D2) 3 : Nat)) ∧ w'.cell? ⟨A, 4, none⟩ = some (.int .u64 (dg (n1.natAbs * D2) 4 : Nat)) ∧ w'.cell? ⟨A, 5, none⟩ = some (.int .u64 (dg (n1.natAbs * D2) 5 : Nat)) ∧ w'.cell? ⟨A, 6, none⟩ = some (.int .u64 (dg (n1.natAbs * D2) 6 : Nat)) ∧ w'.cell? ⟨A, 7, none⟩ = some (.int .u64 (dg (n1.natAbs * D2) 7 : Nat))) ∧ (w'.cell? ⟨B, 0, none⟩ = some (.int .u64 (dg (n2.natAbs * D1) 0 : Nat)) ∧ w'.cell? ⟨B, 1, none⟩ = some (.int .u64 (dg (n2.natAbs * D1) 1 : Nat)) ∧ w'.cell? ⟨B, 2, none⟩ = some (.int .u64 (dg (n2.natAbs * D1) 2 : Nat)) ∧ w'.cell? ⟨B, 3, none⟩ = some (.int .u64 (dg (n2.natAbs * D1) 3 : Nat)) ∧ w'.cell? ⟨B, 4, none⟩ = some (.int .u64 (dg (n2.natAbs * D1) 4 : Nat)) ∧ w'.cell? ⟨B, 5, none⟩ = some (.int .u64 (dg (n2.natAbs * D1) 5 : Nat)) ∧ w'.cell? ⟨B, 6, none⟩ = some (.int .u64 (dg (n2.natAbs * D1) 6 : Nat)) ∧ w'.cell? ⟨B, 7, none⟩ = some (.int .u64 (dg (n2.natAbs * D1) 7 : Nat))) ∧ (w'.cell? ⟨C, 0, none⟩ = some (.int .u64 (dg (D1 * D2) 0 : Nat)) ∧ w'.cell? ⟨C, 1, none⟩ = some (.int .u64 (dg (D1 * D2) 1 : Nat)) ∧ w'.cell? ⟨C, 2, none⟩ = some (.int .u64 (dg (D1 * D2) 2 : Nat)) ∧ w'.cell? ⟨C, 3, none⟩ = some (.int .u64 (dg (D1 * D2) 3 : Nat)) ∧ w'.cell? ⟨C, 4, none⟩ = some (.int .u64 (dg (D1 * D2) 4 : Nat)) ∧ w'.cell? ⟨C, 5, none⟩ = some (.int .u64 (dg (D1 * D2) 5 : Nat)) ∧ w'.cell? ⟨C, 6, none⟩ = some (.int .u64 (dg (D1 * D2) 6 : Nat)) ∧ w'.cell? ⟨C, 7, none⟩ = some (.int .u64 (dg (D1 * D2) 7 : Nat))))
                (first | with_reducible exact HB.out.c28 | with_reducible exact HB.out.c28w | with_reducible exact (HB.out.next (below_drewN _ _)).c28 | with_reducible exact HB.out.c28R _ _ | go_keep)
                (first
                  | (go_at_call 67; (with_reducible refine (minus_b _ (by omega)).mono ?_); rintro e w5 ⟨rfl, hb5⟩; have HB2 : Hid (Nm3 w w5 n1 n2 D1 D2 [(C, D1 * D2), (B, n2.natAbs * D1), (A, n1.natAbs * D2)]) := (by first | exact HB.out.next hb5 | exact (HB.out.next (below_drewN _ _)).next hb5); clear HB; have HB := Lib.hid HB2.out; clear HB2; clear hb5)
                  | (go_at_call 52; (with_reducible refine (lowest_e _ HE.out P7.out Q7.out hD0).mono ?_); rintro e w5 ⟨rfl, hb5⟩; have HB2 : Hid (Nm3 w w5 n1 n2 D1 D2 [(C, D1 * D2), (B, n2.natAbs * D1), (A, n1.natAbs * D2)]) := (by first | exact HB.out.next hb5 | exact (HB.out.next (below_drewN _ _)).next hb5); clear HB; have HB := Lib.hid HB2.out; clear HB2; clear hb5; obtain ⟨r0, r1⟩ := HB.out.bx.b2.c2; have rf := HB.out.bx.b2.frozen; have hz := HB.out.bx.b2.lt))
              all_goals
                go_wp2_with fail
                exact bodyPost_ret (v := .tuple #[.agg #[.int .i64 rx, .int .i64 ry], .int .i64 rc]) (by simp [results, Tryd.results31, go_sem, r0, r1, rf, hz]) rfl (retF HS.out rfl (bset2 HB.out.bx.below (by omega) _ _))
            · obtain ⟨c, hc, hc1, hc2⟩ : ∃ c, lessN (n1.natAbs * D2) (n2.natAbs * D1) = c ∧ 0 ≤ c ∧ c ≤ 1 := ⟨_, rfl, by unfold lessN; rw [if_neg hlt]; split <;> omega, by unfold lessN; rw [if_neg hlt]; split <;> omega⟩
              rw [hc]
              clear hc
              have hc3 : ¬ c < 0 := by omega
              obtain ⟨rx, ry, rc, hr⟩ : ∃ rx ry rc, low (sg b1 (n1.natAbs * D2 - n2.natAbs * D1)) (D1 * D2) = (rx, ry, rc) := ⟨_, _, _, rfl⟩
              have HE := Box.mk hr
              have HS : Box (addF n1 D1 n2 D2 = (rx, ry, rc)) := ⟨by rw [HA.out, add_ge hb1 hb2 hbf (by omega), hr]⟩
              have P7 : Box (n1.natAbs * D2 - n2.natAbs * D1 < 4294967296 ^ 7) := ⟨Nat.lt_of_le_of_lt (Nat.le_trans (Nat.sub_le _ _) (Nat.le_add_right _ _)) PS.out⟩
              clear hr
              go_upto_region 16 with (fail)
              clear p0 p1 q0 q1 m0 m1 m2 m3 m4 m5 m6 m7 k0 k1 k2 k3 k4 k5 k6 k7
              go_region_held3 (fun w' => (w'.cell? ⟨w.heap.size, 0, none⟩ = some (.int .i64 n1) ∧ w'.cell? ⟨w.heap.size, 1, none⟩ = some (.int .i64 (D1 : Nat)) ∧ w'.cell? ⟨w.heap.size + 1, 0, none⟩ = some (.int .i64 n2) ∧ w'.cell? ⟨w.heap.size + 1, 1, none⟩ = some (.int .i64 (D2 : Nat))) ∧ (w'.cell? ⟨A, 0, none⟩ = some (.int .u64 (dg (n1.natAbs * D2) 0 : Nat)) ∧ w'.cell? ⟨A, 1, none⟩ = some (.int .u64 (dg (n1.natAbs * D2) 1 : Nat)) ∧ w'.cell? ⟨A, 2, none⟩ = some (.int .u64 (dg (n1.natAbs * D2) 2 : Nat)) ∧ w'.cell? ⟨A, 3, none⟩ = some (.int .u64 (dg (n1.natAbs * D2) 3 : Nat)) ∧ w'.cell? ⟨A, 4, none⟩ = some (.int .u64 (dg (n1.natAbs * D2) 4 : Nat)) ∧ w'.cell? ⟨A, 5, none⟩ = some (.int .u64 (dg (n1.natAbs * D2) 5 : Nat)) ∧ w'.cell? ⟨A, 6, none⟩ = some (.int .u64 (dg (n1.natAbs * D2) 6 : Nat)) ∧ w'.cell? ⟨A, 7, none⟩ = some (.int .u64 (dg (n1.natAbs * D2) 7 : Nat))) ∧ (w'.cell? ⟨B, 0, none⟩ = some (.int .u64 (dg (n2.natAbs * D1) 0 : Nat)) ∧ w'.cell? ⟨B, 1, none⟩ = some (.int .u64 (dg (n2.natAbs * D1) 1 : Nat)) ∧ w'.cell? ⟨B, 2, none⟩ = some (.int .u64 (dg (n2.natAbs * D1) 2 : Nat)) ∧ w'.cell? ⟨B, 3, none⟩ = some (.int .u64 (dg (n2.natAbs * D1) 3 : Nat)) ∧ w'.cell? ⟨B, 4, none⟩ = some (.int .u64 (dg (n2.natAbs * D1) 4 : Nat)) ∧ w'.cell? ⟨B, 5, none⟩ = some (.int .u64 (dg (n2.natAbs * D1) 5 : Nat)) ∧ w'.cell? ⟨B, 6, none⟩ = some (.int .u64 (dg (n2.natAbs * D1) 6 : Nat)) ∧ w'.cell? ⟨B, 7, none⟩ = some (.int .u64 (dg (n2.natAbs * D1) 7 : Nat))) ∧ (w'.cell? ⟨C, 0, none⟩ = some (.int .u64 (dg (D1 * D2) 0 : Nat)) ∧ w'.cell? ⟨C, 1, none⟩ = some (.int .u64 (dg (D1 * D2) 1 : Nat)) ∧ w'.cell? ⟨C, 2, none⟩ = some (.int .u64 (dg (D1 * D2) 2 : Nat)) ∧ w'.cell? ⟨C, 3, none⟩ = some (.int .u64 (dg (D1 * D2) 3 : Nat)) ∧ w'.cell? ⟨C, 4, none⟩ = some (.int .u64 (dg (D1 * D2) 4 : Nat)) ∧ w'.cell? ⟨C, 5, none⟩ = some (.int .u64 (dg (D1 * D2) 5 : Nat)) ∧ w'.cell? ⟨C, 6, none⟩ = some (.int .u64 (dg (D1 * D2) 6 : Nat)) ∧ w'.cell? ⟨C, 7, none⟩ = some (.int .u64 (dg (D1 * D2) 7 : Nat))))
                (first | with_reducible exact HB.out.c28 | with_reducible exact HB.out.c28w | with_reducible exact (HB.out.next (below_drewN _ _)).c28 | with_reducible exact HB.out.c28R _ _ | go_keep)
                (first
                  | (go_at_call 67; (with_reducible refine (minus_b _ (by omega)).mono ?_); rintro e w5 ⟨rfl, hb5⟩; have HB2 : Hid (Nm3 w w5 n1 n2 D1 D2 [(C, D1 * D2), (B, n2.natAbs * D1), (A, n1.natAbs * D2)]) := (by first | exact HB.out.next hb5 | exact (HB.out.next (below_drewN _ _)).next hb5); clear HB; have HB := Lib.hid HB2.out; clear HB2; clear hb5)
                  | (go_at_call 52; (with_reducible refine (lowest_e _ HE.out P7.out Q7.out hD0).mono ?_); rintro e w5 ⟨rfl, hb5⟩; have HB2 : Hid (Nm3 w w5 n1 n2 D1 D2 [(C, D1 * D2), (B, n2.natAbs * D1), (A, n1.natAbs * D2)]) := (by first | exact HB.out.next hb5 | exact (HB.out.next (below_drewN _ _)).next hb5); clear HB; have HB := Lib.hid HB2.out; clear HB2; clear hb5; obtain ⟨r0, r1⟩ := HB.out.bx.b2.c2; have rf := HB.out.bx.b2.frozen; have hz := HB.out.bx.b2.lt))
              all_goals
                go_wp2_with fail
                exact bodyPost_ret (v := .tuple #[.agg #[.int .i64 rx, .int .i64 ry], .int .i64 rc]) (by simp [results, Tryd.results31, go_sem, r0, r1, rf, hz]) rfl (retF HS.out rfl (bset2 HB.out.bx.below (by omega) _ _))
end Go.Proofs.YtlplligfnbkofaaDoor
