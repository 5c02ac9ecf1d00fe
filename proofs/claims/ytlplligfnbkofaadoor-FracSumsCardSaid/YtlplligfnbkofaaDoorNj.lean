/- short, Mul, Div of the reference. -/
import Derived.Test.YtlplligfnbkofaaDoorNi
import Derived.Deep.RegionHeld3
import Derived.Deep.DeepCutAuto
set_option linter.unusedVariables false
set_option linter.unusedSimpArgs false
namespace Go.Proofs.YtlplligfnbkofaaDoor
open Go.RowKit FracM DigM

def shortB (n d : Int) : Bool := decide (n.natAbs ≤ 1073741824) && decide (d ≤ 1073741824)
theorem short_any (n d : Int) (w : World) (l1 : -9223372036854775808 ≤ n) (u1 : n ≤ 9223372036854775807) : Calls Tryd.prog 49 #[.agg #[.int .i64 n, .int .i64 d]] w (RetB (.bool (shortB n d)) w) := by
  by_cases h1 : n.natAbs ≤ 1073741824
  · have h2 : ((n.natAbs : Nat) : Int) ≤ 1073741824 := by omega
    have E : Box (shortB n d = decide (d ≤ 1073741824)) := ⟨by simp [shortB, h1]⟩
    clear h1
    go_enter Tryd.func49, Tryd.ntmps49
    go_wp2_with fail
    refine (size_any n _ l1 u1).mono ?_
    rintro e w1 ⟨rfl, rfl⟩
    go_wp2_with fail
    go_ret
    exact ⟨ret_bool (by rw [E.out]), bel1 _ _⟩
  · have h2 : ¬ ((n.natAbs : Nat) : Int) ≤ 1073741824 := by omega
    have E : Box (shortB n d = false) := ⟨by simp [shortB, h1]⟩
    clear h1
    go_enter Tryd.func49, Tryd.ntmps49
    go_wp2_with fail
    refine (size_any n _ l1 u1).mono ?_
    rintro e w1 ⟨rfl, rfl⟩
    go_wp2_with fail
    go_ret
    exact ⟨ret_bool (by rw [E.out]), bel1 _ _⟩
abbrev Cell4 (w : World) (n1 n2 : Int) (D1 D2 : Nat) (w' : World) : Prop := w'.cell? ⟨w.heap.size, 0, none⟩ = some (.int .i64 n1) ∧ w'.cell? ⟨w.heap.size, 1, none⟩ = some (.int .i64 (D1 : Nat)) ∧ w'.cell? ⟨w.heap.size + 1, 0, none⟩ = some (.int .i64 n2) ∧ w'.cell? ⟨w.heap.size + 1, 1, none⟩ = some (.int .i64 (D2 : Nat))
theorem Bx3.c4 {w W : World} {n1 n2 : Int} {D1 D2 : Nat} (h : Bx3 w W n1 D1 n2 D2) : Cell4 w n1 n2 D1 D2 W := ⟨h.b0.c2.1, h.b0.c2.2, h.b1.c2.1, h.b1.c2.2⟩
theorem Blk.putFar8 {W : World} {g g' : Nat} {t : TypeId} {cs : Array Value} (h : Blk W g t cs) (hg : g ≠ g') (f : Nat → Nat) : Blk (put8 W g' f) g t cs :=
  (((((((h.far (p := ⟨g', 0, none⟩) hg _).far (p := ⟨g', 1, none⟩) hg _).far (p := ⟨g', 2, none⟩) hg _).far (p := ⟨g', 3, none⟩) hg _).far (p := ⟨g', 4, none⟩) hg _).far (p := ⟨g', 5, none⟩) hg _).far (p := ⟨g', 6, none⟩) hg _).far (p := ⟨g', 7, none⟩) hg _
theorem Bx3.far8 {w W : World} {n1 d1 n2 d2 : Int} {B : Nat} (h : Bx3 w W n1 d1 n2 d2) (hB : w.heap.size + 1 + 1 < B) (f : Nat → Nat) : Bx3 w (put8 W B f) n1 d1 n2 d2 :=
  ⟨⟨put8_below h.below (by omega) _, h.b0.putFar8 (by omega) _, h.b1.putFar8 (by omega) _⟩, h.b2.putFar8 (by omega) _⟩
theorem mul_sg {n1 n2 : Int} : n1 * n2 = sg (decide (n1 < 0) != decide (n2 < 0)) (n1.natAbs * n2.natAbs) := by
  rcases Int.lt_or_le n1 0 with h1 | h1
  · rcases Int.lt_or_le n2 0 with h2 | h2
    · simp only [h1, h2, decide_true, bne_self_eq_false, sg, Bool.false_eq_true, if_false, Int.natCast_mul]
      rw [show ((n1.natAbs : Nat) : Int) = -n1 by omega, show ((n2.natAbs : Nat) : Int) = -n2 by omega]; grind
    · have : ¬ n2 < 0 := by omega
      simp only [h1, this, decide_true, decide_false, sg, Int.natCast_mul, show (true != false) = true from rfl, if_true]
      rw [show ((n1.natAbs : Nat) : Int) = -n1 by omega, show ((n2.natAbs : Nat) : Int) = n2 by omega]; grind
  · have h1' : ¬ n1 < 0 := by omega
    rcases Int.lt_or_le n2 0 with h2 | h2
    · simp only [h1', h2, decide_true, decide_false, sg, Int.natCast_mul, show (false != true) = true from rfl, if_true]
      rw [show ((n1.natAbs : Nat) : Int) = n1 by omega, show ((n2.natAbs : Nat) : Int) = -n2 by omega]; grind
    · have : ¬ n2 < 0 := by omega
      simp only [h1', this, decide_false, bne_self_eq_false, sg, Bool.false_eq_true, if_false, Int.natCast_mul]
      rw [show ((n1.natAbs : Nat) : Int) = n1 by omega, show ((n2.natAbs : Nat) : Int) = n2 by omega]
theorem mulB {x y A : Int} (h1 : x.natAbs ≤ 1073741824) (h2 : y.natAbs ≤ 1073741824) : -1152921504606846976 ≤ x * y ∧ x * y ≤ 1152921504606846976 := by
  have := Nat.mul_le_mul h1 h2
  rw [← Int.natAbs_mul] at this
  omega
theorem short_iff {n d : Int} (h : shortB n d = true) : n.natAbs ≤ 1073741824 ∧ d ≤ 1073741824 := by simpa [shortB] using h
theorem prod7 {x y : Nat} (hx : x ≤ 4611686018427387904) (hy : y ≤ 4611686018427387904) : x * y < 4294967296 ^ 7 :=
  Nat.lt_of_le_of_lt (Nat.mul_le_mul hx hy) (by decide)
theorem nat_mul_abs (D1 D2 : Nat) : ((D1 : Int) * (D2 : Int)).natAbs = D1 * D2 := by rw [Int.natAbs_mul]; rfl
abbrev Cell8 (B X : Nat) (w' : World) : Prop := w'.cell? ⟨B, 0, none⟩ = some (.int .u64 (dg X 0 : Nat)) ∧ w'.cell? ⟨B, 1, none⟩ = some (.int .u64 (dg X 1 : Nat)) ∧ w'.cell? ⟨B, 2, none⟩ = some (.int .u64 (dg X 2 : Nat)) ∧ w'.cell? ⟨B, 3, none⟩ = some (.int .u64 (dg X 3 : Nat)) ∧ w'.cell? ⟨B, 4, none⟩ = some (.int .u64 (dg X 4 : Nat)) ∧ w'.cell? ⟨B, 5, none⟩ = some (.int .u64 (dg X 5 : Nat)) ∧ w'.cell? ⟨B, 6, none⟩ = some (.int .u64 (dg X 6 : Nat)) ∧ w'.cell? ⟨B, 7, none⟩ = some (.int .u64 (dg X 7 : Nat))
theorem Bx3.farR {w W : World} {n1 n2 : Int} {D1 D2 : Nat} (h : Bx3 w W n1 D1 n2 D2) (u0 u1 : Value) : Cell4 w n1 n2 D1 D2 ((W.setCell ⟨w.heap.size + 1 + 1, 0, none⟩ u0).setCell ⟨w.heap.size + 1 + 1, 1, none⟩ u1) := by
  have a := ((h.b0.far (p := ⟨w.heap.size + 1 + 1, 0, none⟩) (by simp only; omega) u0).far (p := ⟨w.heap.size + 1 + 1, 1, none⟩) (by simp only; omega) u1).c2
  have b := ((h.b1.far (p := ⟨w.heap.size + 1 + 1, 0, none⟩) (by simp only; omega) u0).far (p := ⟨w.heap.size + 1 + 1, 1, none⟩) (by simp only; omega) u1).c2
  exact ⟨a.1, a.2, b.1, b.2⟩
theorem D8.farR {w W : World} {B X : Nat} (h : D8 W B (dg X)) (hB : w.heap.size + 1 + 1 < B) (u0 u1 : Value) : Cell8 B X ((W.setCell ⟨w.heap.size + 1 + 1, 0, none⟩ u0).setCell ⟨w.heap.size + 1 + 1, 1, none⟩ u1) :=
  D8.cells ((h.far (p := ⟨w.heap.size + 1 + 1, 0, none⟩) (by simp only; omega) u0).far (p := ⟨w.heap.size + 1 + 1, 1, none⟩) (by simp only; omega) u1)
theorem D8.c8d {W : World} {B X : Nat} (h : D8 W B (dg X)) (n : Nat) : Cell8 B X (W.drewN n) := D8.cells (W := W.drewN n) (Blk.drewN h n)
theorem D8.c8w {W : World} {B X : Nat} (h : D8 W B (dg X)) : Cell8 B X W.drew := h.c8d 1
theorem Bx3.c4w {w W : World} {n1 n2 : Int} {D1 D2 : Nat} (h : Bx3 w W n1 D1 n2 D2) : Cell4 w n1 n2 D1 D2 W.drew := (h.next (below_drewN W 1)).c4
theorem lowest_e {ng : Bool} {p q : Nat} {a b c : Int} (w : World) (h : low (sg ng p) q = (a, b, c)) (hp : p < 4294967296 ^ 7) (hq : q < 4294967296 ^ 7) (h0 : 0 < q) : Calls Tryd.prog 52 #[.bool ng, nv p, nv q] w (RetE a b c w) := by
  have := lowest_any ng p q w hp hq h0
  unfold RetF at this; rw [h] at this; exact this
/-- behind 'x := ..': the number lies in a block of its own -/
def NCut (w : World) (n1 n2 : Int) (D1 D2 X : Nat) (s : Value) (wx : World) : Prop :=
  ∃ B, s = .pointer (some ⟨B, 0, none⟩) ∧ w.heap.size + 1 + 1 < B ∧ D8 wx B (dg X) ∧ Bx3 w wx n1 D1 n2 D2
set_option maxHeartbeats 1000000 in
theorem rMul_bad (n1 d1 n2 d2 : Int) (w : World) (l1 : -9223372036854775808 ≤ n1) (u1 : n1 ≤ 9223372036854775807) (l2 : -9223372036854775808 ≤ d1) (u2 : d1 ≤ 9223372036854775807) (l3 : -9223372036854775808 ≤ n2) (u3 : n2 ≤ 9223372036854775807) (l4 : -9223372036854775808 ≤ d2) (u4 : d2 ≤ 9223372036854775807) (v : validB n1 d1 = false ∨ validB n2 d2 = false) : Calls Tryd.prog 19 #[.agg #[.int .i64 n1, .int .i64 d1], .agg #[.int .i64 n2, .int .i64 d2]] w (RetF (mulF n1 d1 n2 d2) w) := by
  have E := Box.mk (mul_no (n1 := n1) (d1 := d1) (n2 := n2) (d2 := d2) v)
  generalize v1 : validB n1 d1 = b1 at *
  generalize v2 : validB n2 d2 = b2 at *
  rcases v with rfl | rfl
  · cases b2
    all_goals
      go_enter Tryd.func19, Tryd.ntmps19
      go_wp2_with fail
      refine (rvalid_any n1 d1 _ (by omega) (by omega) (by omega) (by omega)).mono ?_
      rintro e w1 ⟨rfl, hb⟩
      rw [v1]
      have HB2 : Hid (Bx3 w w1 n1 d1 n2 d2) := (Bx3.start w n1 d1 n2 d2).next hb
      clear hb
      have HB := Lib.hid HB2.out; clear HB2
      obtain ⟨p0, p1⟩ := HB.out.b0.c2
      obtain ⟨q0, q1⟩ := HB.out.b1.c2
      go_wp2_with fail
      refine (rvalid_any n2 d2 _ (by omega) (by omega) (by omega) (by omega)).mono ?_
      rintro e w2 ⟨rfl, hb⟩
      rw [v2]
      have HB2 : Hid (Bx3 w w2 n1 d1 n2 d2) := HB.out.next hb
      clear hb p0 p1 q0 q1 HB
      have HB := Lib.hid HB2.out; clear HB2
      obtain ⟨p0, p1⟩ := HB.out.b0.c2
      obtain ⟨q0, q1⟩ := HB.out.b1.c2
      obtain ⟨p0, p1⟩ := HB.out.b0.c2
      obtain ⟨q0, q1⟩ := HB.out.b1.c2
      obtain ⟨r0, r1⟩ := HB.out.b2.c2
      have rf := HB.out.b2.frozen
      have hz := HB.out.b2.lt
      go_wp2_with fail
      exact bodyPost_ret (v := .tuple #[.agg #[.int .i64 0, .int .i64 0], .int .i64 1]) (by simp [results, Tryd.results19, go_sem, r0, r1, rf, hz]) rfl (retF E.out rfl (bset2 HB.out.below (by omega) _ _))
  · cases b1
    all_goals
      go_enter Tryd.func19, Tryd.ntmps19
      go_wp2_with fail
      refine (rvalid_any n1 d1 _ (by omega) (by omega) (by omega) (by omega)).mono ?_
      rintro e w1 ⟨rfl, hb⟩
      rw [v1]
      have HB2 : Hid (Bx3 w w1 n1 d1 n2 d2) := (Bx3.start w n1 d1 n2 d2).next hb
      clear hb
      have HB := Lib.hid HB2.out; clear HB2
      obtain ⟨p0, p1⟩ := HB.out.b0.c2
      obtain ⟨q0, q1⟩ := HB.out.b1.c2
      go_wp2_with fail
      refine (rvalid_any n2 d2 _ (by omega) (by omega) (by omega) (by omega)).mono ?_
      rintro e w2 ⟨rfl, hb⟩
      rw [v2]
      have HB2 : Hid (Bx3 w w2 n1 d1 n2 d2) := HB.out.next hb
      clear hb p0 p1 q0 q1 HB
      have HB := Lib.hid HB2.out; clear HB2
      obtain ⟨p0, p1⟩ := HB.out.b0.c2
      obtain ⟨q0, q1⟩ := HB.out.b1.c2
      obtain ⟨p0, p1⟩ := HB.out.b0.c2
      obtain ⟨q0, q1⟩ := HB.out.b1.c2
      obtain ⟨r0, r1⟩ := HB.out.b2.c2
      have rf := HB.out.b2.frozen
      have hz := HB.out.b2.lt
      go_wp2_with fail
      exact bodyPost_ret (v := .tuple #[.agg #[.int .i64 0, .int .i64 0], .int .i64 1]) (by simp [results, Tryd.results19, go_sem, r0, r1, rf, hz]) rfl (retF E.out rfl (bset2 HB.out.below (by omega) _ _))
set_option maxHeartbeats 1000000 in
set_option maxRecDepth 100000 in
theorem rMul_short (n1 n2 : Int) (D1 D2 : Nat) (w : World) (v1 : validB n1 D1 = true) (v2 : validB n2 D2 = true) (s1 : shortB n1 D1 = true) (s2 : shortB n2 D2 = true) : Calls Tryd.prog 19 #[.agg #[.int .i64 n1, .int .i64 (D1 : Nat)], .agg #[.int .i64 n2, .int .i64 (D2 : Nat)]] w (RetF (mulF n1 D1 n2 D2) w) := by
  obtain ⟨x1, x2, x3⟩ := valid_bd v1
  obtain ⟨y1, y2, y3⟩ := valid_bd v2
  have g1 : IntKind.u64.wrap (D1 : Int) = D1 := fin_u64 _ (by omega) (by omega)
  have g2 : IntKind.u64.wrap (D2 : Int) = D2 := fin_u64 _ (by omega) (by omega)
  have z1 : D1 ≤ 4611686018427387904 := by omega
  have z2 : D2 ≤ 4611686018427387904 := by omega
  obtain ⟨k1, k2⟩ := short_iff s1
  obtain ⟨k3, k4⟩ := short_iff s2
  have m1 := mulB (A := 0) k1 k3
  have m2 := mulB (A := 0) (x := (D1 : Int)) (y := (D2 : Int)) (by omega) (by omega)
  have m3 : 0 < (D1 : Int) * (D2 : Int) := Int.mul_pos (by omega) (by omega)
  obtain ⟨rr, hr⟩ : ∃ rr, rr = low (n1 * n2) ((D1 : Int) * (D2 : Int)).natAbs := ⟨_, rfl⟩
  have HE : Box (newF (n1 * n2) ((D1 : Int) * (D2 : Int)) = rr) := ⟨by rw [newF_pos m3 (by omega) (by omega), hr]⟩
  have HS : Box (mulF n1 D1 n2 D2 = rr) := ⟨by rw [mulF_v v1 v2, hr]⟩
  clear hr
  go_enter Tryd.func19, Tryd.ntmps19
  go_wp2_with fail
  refine (rvalid_any n1 _ _ (by omega) (by omega) (by omega) (by omega)).mono ?_
  rintro e w1 ⟨rfl, hb⟩
  rw [v1]
  have HB2 : Hid (Bx3 w w1 n1 D1 n2 D2) := (Bx3.start w n1 D1 n2 D2).next hb
  clear hb
  have HB := Lib.hid HB2.out; clear HB2
  obtain ⟨p0, p1⟩ := HB.out.b0.c2
  obtain ⟨q0, q1⟩ := HB.out.b1.c2
  go_wp2_with fail
  refine (rvalid_any n2 _ _ (by omega) (by omega) (by omega) (by omega)).mono ?_
  rintro e w2 ⟨rfl, hb⟩
  rw [v2]
  have HB2 : Hid (Bx3 w w2 n1 D1 n2 D2) := HB.out.next hb
  clear hb p0 p1 q0 q1 HB
  have HB := Lib.hid HB2.out; clear HB2
  obtain ⟨p0, p1⟩ := HB.out.b0.c2
  obtain ⟨q0, q1⟩ := HB.out.b1.c2
  go_wp2_with fail
  refine (short_any n1 _ _ (by omega) (by omega)).mono ?_
  rintro e w3 ⟨rfl, hb⟩
  rw [s1]
  have HB2 : Hid (Bx3 w w3 n1 D1 n2 D2) := HB.out.next hb
  clear hb p0 p1 q0 q1 HB
  have HB := Lib.hid HB2.out; clear HB2
  obtain ⟨p0, p1⟩ := HB.out.b0.c2
  obtain ⟨q0, q1⟩ := HB.out.b1.c2
  go_wp2_with fail
  refine (short_any n2 _ _ (by omega) (by omega)).mono ?_
  rintro e w4 ⟨rfl, hb⟩
  rw [s2]
  have HB2 : Hid (Bx3 w w4 n1 D1 n2 D2) := HB.out.next hb
  clear hb p0 p1 q0 q1 HB
  have HB := Lib.hid HB2.out; clear HB2
  obtain ⟨p0, p1⟩ := HB.out.b0.c2
  obtain ⟨q0, q1⟩ := HB.out.b1.c2
  obtain ⟨r0, r1⟩ := HB.out.b2.c2
  have rf := HB.out.b2.frozen
  have hz := HB.out.b2.lt
  go_wp2_with fail
  refine (rnew_any (n1 * n2) ((D1 : Int) * (D2 : Int)) _ (by omega) (by omega) (by omega) (by omega)).mono ?_
  rintro e w5 ⟨rfl, hb⟩
  rw [HE.out]
  have HB2 : Hid (Bx3 w w5 n1 D1 n2 D2) := HB.out.next hb
  clear hb p0 p1 q0 q1 r0 r1 rf hz HB
  have HB := Lib.hid HB2.out; clear HB2
  obtain ⟨r0, r1⟩ := HB.out.b2.c2
  have rf := HB.out.b2.frozen
  have hz := HB.out.b2.lt
  obtain ⟨rx, ry, rc⟩ := rr
  go_wp2_with fail
  exact bodyPost_ret (v := .tuple #[.agg #[.int .i64 rx, .int .i64 ry], .int .i64 rc]) (by simp [results, Tryd.results19, go_sem, r0, r1, rf, hz]) rfl (retF HS.out rfl (bset2 HB.out.below (by omega) _ _))
set_option maxHeartbeats 8000000 in
set_option maxRecDepth 100000 in
theorem rMul_long (n1 n2 : Int) (D1 D2 : Nat) (w : World) (v1 : validB n1 D1 = true) (v2 : validB n2 D2 = true) (s : shortB n1 D1 = false ∨ shortB n2 D2 = false) : Calls Tryd.prog 19 #[.agg #[.int .i64 n1, .int .i64 (D1 : Nat)], .agg #[.int .i64 n2, .int .i64 (D2 : Nat)]] w (RetF (mulF n1 D1 n2 D2) w) := by
  obtain ⟨x1, x2, x3⟩ := valid_bd v1
  obtain ⟨y1, y2, y3⟩ := valid_bd v2
  have g1 : IntKind.u64.wrap (D1 : Int) = D1 := fin_u64 _ (by omega) (by omega)
  have g2 : IntKind.u64.wrap (D2 : Int) = D2 := fin_u64 _ (by omega) (by omega)
  have z1 : D1 ≤ 4611686018427387904 := by omega
  have z2 : D2 ≤ 4611686018427387904 := by omega
  have hD0 : 0 < D1 * D2 := Nat.mul_pos (by omega) (by omega)
  obtain ⟨b1, hb1⟩ : ∃ b1, decide (n1 < 0) = b1 := ⟨_, rfl⟩
  obtain ⟨b2, hb2⟩ : ∃ b2, decide (n2 < 0) = b2 := ⟨_, rfl⟩
  obtain ⟨rr, hr⟩ : ∃ rr, rr = low (sg (!(b1 == b2)) (n1.natAbs * n2.natAbs)) (D1 * D2) := ⟨_, rfl⟩
  have HE : Box (low (sg (!(b1 == b2)) (n1.natAbs * n2.natAbs)) (D1 * D2) = rr) := ⟨hr.symm⟩
  have HS : Box (mulF n1 D1 n2 D2 = rr) := ⟨by rw [mulF_v v1 v2, hr, nat_mul_abs, mul_sg, hb1, hb2] <;> rfl⟩
  have P7 := Box.mk (prod7 x1 y1); have Q7 := Box.mk (prod7 z1 z2)
  clear hr
  generalize s1 : shortB n1 D1 = c1 at *
  generalize s2 : shortB n2 D2 = c2 at *
  go_enter Tryd.func19, Tryd.ntmps19
  go_wp2_with fail
  refine (rvalid_any n1 _ _ (by omega) (by omega) (by omega) (by omega)).mono ?_
  rintro e w1 ⟨rfl, hb⟩
  rw [v1]
  have HB2 : Hid (Bx3 w w1 n1 D1 n2 D2) := (Bx3.start w n1 D1 n2 D2).next hb
  clear hb
  have HB := Lib.hid HB2.out; clear HB2
  obtain ⟨p0, p1⟩ := HB.out.b0.c2
  obtain ⟨q0, q1⟩ := HB.out.b1.c2
  go_wp2_with fail
  refine (rvalid_any n2 _ _ (by omega) (by omega) (by omega) (by omega)).mono ?_
  rintro e w2 ⟨rfl, hb⟩
  rw [v2]
  have HB2 : Hid (Bx3 w w2 n1 D1 n2 D2) := HB.out.next hb
  clear hb p0 p1 q0 q1 HB
  have HB := Lib.hid HB2.out; clear HB2
  obtain ⟨p0, p1⟩ := HB.out.b0.c2
  obtain ⟨q0, q1⟩ := HB.out.b1.c2
  go_wp2_with fail
  refine (short_any n1 _ _ (by omega) (by omega)).mono ?_
  rintro e w3 ⟨rfl, hb⟩
  rw [s1]
  have HB2 : Hid (Bx3 w w3 n1 D1 n2 D2) := HB.out.next hb
  clear hb p0 p1 q0 q1 HB
  have HB := Lib.hid HB2.out; clear HB2
  obtain ⟨p0, p1⟩ := HB.out.b0.c2
  obtain ⟨q0, q1⟩ := HB.out.b1.c2
  go_wp2_with fail
  refine (short_any n2 _ _ (by omega) (by omega)).mono ?_
  rintro e w4 ⟨rfl, hb⟩
  rw [s2]
  have HB2 : Hid (Bx3 w w4 n1 D1 n2 D2) := HB.out.next hb
  clear hb p0 p1 q0 q1 HB
  have HB := Lib.hid HB2.out; clear HB2
  obtain ⟨p0, p1⟩ := HB.out.b0.c2
  obtain ⟨q0, q1⟩ := HB.out.b1.c2
  have s3 : (c1 && c2) = false := by rcases s with rfl | rfl <;> simp
  clear s
  go_upto_region 7 with (fail)
  go_cut [27] (fun s wx => s = .bool false ∧ Bx3 w wx n1 D1 n2 D2)
  case first =>
    cases c1
    · go_wp2_with fail
      go_meet
      exact ⟨rfl, HB.out⟩
    · obtain rfl : c2 = false := by simpa using s3
      go_wp2_with fail
      go_meet
      exact ⟨rfl, HB.out⟩
  case rest =>
    obtain ⟨rfl, hbx⟩ := hcut
    rename World => wd
    clear HB p0 p1 q0 q1 s3
    have HB := Lib.hid hbx; clear hbx
    go_upto_region 9 with (fail)
    go_cut [8] (fun s wx => NCut w n1 n2 D1 D2 (n1.natAbs * n2.natAbs) s wx)
    case first =>
      obtain ⟨p0, p1⟩ := HB.out.b0.c2
      obtain ⟨q0, q1⟩ := HB.out.b1.c2
      go_region_held3 (fun w' => w'.cell? ⟨w.heap.size, 0, none⟩ = some (.int .i64 n1) ∧ w'.cell? ⟨w.heap.size, 1, none⟩ = some (.int .i64 (D1 : Nat)) ∧ w'.cell? ⟨w.heap.size + 1, 0, none⟩ = some (.int .i64 n2) ∧ w'.cell? ⟨w.heap.size + 1, 1, none⟩ = some (.int .i64 (D2 : Nat)))
        (first | with_reducible exact HB.out.c4 | with_reducible exact (HB.out.next (bel1 _ _)).c4 | with_reducible exact (HB.out.next (below_drewN _ _)).c4 | with_reducible exact ((HB.out.next (bel1 _ _)).next (below_drewN _ _)).c4 | with_reducible exact ((HB.out.next (below_drewN _ _)).next (bel1 _ _)).c4 | with_reducible exact (HB.out.far8 (by omega) (dg (n1.natAbs * n2.natAbs))).c4 | go_keep)
        (first
          | (go_at_call 45; (with_reducible refine (size_b n1 _ x1).mono ?_); rintro e w5 ⟨rfl, hb5⟩; (first | (replace HN := Lib.hid (D8.below HN.out hb5)) | (have HN : Hid (D8 w5 _ (fun _ => 0)) := D8.below (Blk.new _ _ _) hb5; have hNz := HB.out.b2.lt) | (have HN : Hid (D8 w5 _ (fun _ => 0)) := D8.below (Blk.drewN (Blk.new _ _ _) _) hb5; have hNz := HB.out.b2.lt) | skip); have HB2 : Hid (Bx3 w w5 n1 D1 n2 D2) := (by first | exact HB.out.next hb5 | exact (HB.out.next (below_drewN _ _)).next hb5 | exact (HB.out.next (bel1 _ _)).next hb5 | exact ((HB.out.next (bel1 _ _)).next (below_drewN _ _)).next hb5 | exact ((HB.out.next (below_drewN _ _)).next (bel1 _ _)).next hb5); clear HB; have HB := Lib.hid HB2.out; clear HB2; clear hb5; (try clear m0 m1 m2 m3 m4 m5 m6 m7 mf); (try (obtain ⟨m0, m1, m2, m3, m4, m5, m6, m7⟩ := HN.out.cells; have mf := Blk.frozen HN.out)))
          | (go_at_call 45; (with_reducible refine (size_b n2 _ y1).mono ?_); rintro e w5 ⟨rfl, hb5⟩; (first | (replace HN := Lib.hid (D8.below HN.out hb5)) | (have HN : Hid (D8 w5 _ (fun _ => 0)) := D8.below (Blk.new _ _ _) hb5; have hNz := HB.out.b2.lt) | (have HN : Hid (D8 w5 _ (fun _ => 0)) := D8.below (Blk.drewN (Blk.new _ _ _) _) hb5; have hNz := HB.out.b2.lt) | skip); have HB2 : Hid (Bx3 w w5 n1 D1 n2 D2) := (by first | exact HB.out.next hb5 | exact (HB.out.next (below_drewN _ _)).next hb5 | exact (HB.out.next (bel1 _ _)).next hb5 | exact ((HB.out.next (bel1 _ _)).next (below_drewN _ _)).next hb5 | exact ((HB.out.next (below_drewN _ _)).next (bel1 _ _)).next hb5); clear HB; have HB := Lib.hid HB2.out; clear HB2; clear hb5; (try clear m0 m1 m2 m3 m4 m5 m6 m7 mf); (try (obtain ⟨m0, m1, m2, m3, m4, m5, m6, m7⟩ := HN.out.cells; have mf := Blk.frozen HN.out)))
          | (go_at_call 51; (with_reducible refine (from_b n1.natAbs _ x1).mono ?_); rintro e w5 ⟨rfl, hb5⟩; (first | (replace HN := Lib.hid (D8.below HN.out hb5)) | (have HN : Hid (D8 w5 _ (fun _ => 0)) := D8.below (Blk.new _ _ _) hb5; have hNz := HB.out.b2.lt) | (have HN : Hid (D8 w5 _ (fun _ => 0)) := D8.below (Blk.drewN (Blk.new _ _ _) _) hb5; have hNz := HB.out.b2.lt) | skip); have HB2 : Hid (Bx3 w w5 n1 D1 n2 D2) := (by first | exact HB.out.next hb5 | exact (HB.out.next (below_drewN _ _)).next hb5 | exact (HB.out.next (bel1 _ _)).next hb5 | exact ((HB.out.next (bel1 _ _)).next (below_drewN _ _)).next hb5 | exact ((HB.out.next (below_drewN _ _)).next (bel1 _ _)).next hb5); clear HB; have HB := Lib.hid HB2.out; clear HB2; clear hb5; (try clear m0 m1 m2 m3 m4 m5 m6 m7 mf); (try (obtain ⟨m0, m1, m2, m3, m4, m5, m6, m7⟩ := HN.out.cells; have mf := Blk.frozen HN.out)))
          | (go_at_call 51; (with_reducible refine (from_b n2.natAbs _ y1).mono ?_); rintro e w5 ⟨rfl, hb5⟩; (first | (replace HN := Lib.hid (D8.below HN.out hb5)) | (have HN : Hid (D8 w5 _ (fun _ => 0)) := D8.below (Blk.new _ _ _) hb5; have hNz := HB.out.b2.lt) | (have HN : Hid (D8 w5 _ (fun _ => 0)) := D8.below (Blk.drewN (Blk.new _ _ _) _) hb5; have hNz := HB.out.b2.lt) | skip); have HB2 : Hid (Bx3 w w5 n1 D1 n2 D2) := (by first | exact HB.out.next hb5 | exact (HB.out.next (below_drewN _ _)).next hb5 | exact (HB.out.next (bel1 _ _)).next hb5 | exact ((HB.out.next (bel1 _ _)).next (below_drewN _ _)).next hb5 | exact ((HB.out.next (below_drewN _ _)).next (bel1 _ _)).next hb5); clear HB; have HB := Lib.hid HB2.out; clear HB2; clear hb5; (try clear m0 m1 m2 m3 m4 m5 m6 m7 mf); (try (obtain ⟨m0, m1, m2, m3, m4, m5, m6, m7⟩ := HN.out.cells; have mf := Blk.frozen HN.out)))
          | (go_at_call 50; (with_reducible refine (times_b _ x1).mono ?_); rintro e w5 ⟨rfl, hb5⟩; (first | (replace HN := Lib.hid (D8.below HN.out hb5)) | (have HN : Hid (D8 w5 _ (fun _ => 0)) := D8.below (Blk.new _ _ _) hb5; have hNz := HB.out.b2.lt) | (have HN : Hid (D8 w5 _ (fun _ => 0)) := D8.below (Blk.drewN (Blk.new _ _ _) _) hb5; have hNz := HB.out.b2.lt) | skip); have HB2 : Hid (Bx3 w w5 n1 D1 n2 D2) := (by first | exact HB.out.next hb5 | exact (HB.out.next (below_drewN _ _)).next hb5 | exact (HB.out.next (bel1 _ _)).next hb5 | exact ((HB.out.next (bel1 _ _)).next (below_drewN _ _)).next hb5 | exact ((HB.out.next (below_drewN _ _)).next (bel1 _ _)).next hb5); clear HB; have HB := Lib.hid HB2.out; clear HB2; clear hb5; (try clear m0 m1 m2 m3 m4 m5 m6 m7 mf); (try (obtain ⟨m0, m1, m2, m3, m4, m5, m6, m7⟩ := HN.out.cells; have mf := Blk.frozen HN.out))))
      all_goals
        go_wp2_with fail
        go_meet
        first
          | exact ⟨_, rfl, hNz, HN.out.put (dg (n1.natAbs * n2.natAbs)), HB.out.far8 hNz (dg (n1.natAbs * n2.natAbs))⟩
          | exact ⟨_, rfl, HB.out.b2.lt, Blk.new _ _ _, HB.out.next (bel1 _ _)⟩
    case rest =>
      clear HB
      obtain ⟨B, rfl, hB, hD, hbx⟩ := hcut
      rename World => we
      have HB := Lib.hid hbx; have HN := Lib.hid hD; clear hbx hD
      obtain ⟨rx, ry, rc⟩ := rr
      go_upto_region 10 with (fail)
      go_region_held3 (fun w' => (w'.cell? ⟨w.heap.size, 0, none⟩ = some (.int .i64 n1) ∧ w'.cell? ⟨w.heap.size, 1, none⟩ = some (.int .i64 (D1 : Nat)) ∧ w'.cell? ⟨w.heap.size + 1, 0, none⟩ = some (.int .i64 n2) ∧ w'.cell? ⟨w.heap.size + 1, 1, none⟩ = some (.int .i64 (D2 : Nat))) ∧ (w'.cell? ⟨B, 0, none⟩ = some (.int .u64 (dg (n1.natAbs * n2.natAbs) 0 : Nat)) ∧ w'.cell? ⟨B, 1, none⟩ = some (.int .u64 (dg (n1.natAbs * n2.natAbs) 1 : Nat)) ∧ w'.cell? ⟨B, 2, none⟩ = some (.int .u64 (dg (n1.natAbs * n2.natAbs) 2 : Nat)) ∧ w'.cell? ⟨B, 3, none⟩ = some (.int .u64 (dg (n1.natAbs * n2.natAbs) 3 : Nat)) ∧ w'.cell? ⟨B, 4, none⟩ = some (.int .u64 (dg (n1.natAbs * n2.natAbs) 4 : Nat)) ∧ w'.cell? ⟨B, 5, none⟩ = some (.int .u64 (dg (n1.natAbs * n2.natAbs) 5 : Nat)) ∧ w'.cell? ⟨B, 6, none⟩ = some (.int .u64 (dg (n1.natAbs * n2.natAbs) 6 : Nat)) ∧ w'.cell? ⟨B, 7, none⟩ = some (.int .u64 (dg (n1.natAbs * n2.natAbs) 7 : Nat))))
        (first | with_reducible exact ⟨HB.out.c4, HN.out.cells⟩ | with_reducible exact ⟨(HB.out.next (below_drewN _ _)).c4, HN.out.c8d _⟩ | with_reducible exact ⟨HB.out.c4w, HN.out.c8w⟩ | with_reducible exact ⟨HB.out.farR _ _, HN.out.farR hB _ _⟩ | go_keep)
        (first
          | (go_at_call 51; (with_reducible refine (from_b D1 _ z1).mono ?_); rintro e w5 ⟨rfl, hb5⟩; have HN2 : Hid (D8 w5 B (dg (n1.natAbs * n2.natAbs))) := (by first | exact D8.below HN.out hb5 | exact D8.below (W := World.drew _) HN.out hb5 | exact D8.below (W := World.drewN _ _) HN.out hb5); clear HN; have HN := Lib.hid HN2.out; clear HN2; have HB2 : Hid (Bx3 w w5 n1 D1 n2 D2) := (by first | exact HB.out.next hb5 | exact (HB.out.next (below_drewN _ _)).next hb5); clear HB; have HB := Lib.hid HB2.out; clear HB2; clear hb5)
          | (go_at_call 51; (with_reducible refine (from_b D2 _ z2).mono ?_); rintro e w5 ⟨rfl, hb5⟩; have HN2 : Hid (D8 w5 B (dg (n1.natAbs * n2.natAbs))) := (by first | exact D8.below HN.out hb5 | exact D8.below (W := World.drew _) HN.out hb5 | exact D8.below (W := World.drewN _ _) HN.out hb5); clear HN; have HN := Lib.hid HN2.out; clear HN2; have HB2 : Hid (Bx3 w w5 n1 D1 n2 D2) := (by first | exact HB.out.next hb5 | exact (HB.out.next (below_drewN _ _)).next hb5); clear HB; have HB := Lib.hid HB2.out; clear HB2; clear hb5)
          | (go_at_call 50; (with_reducible refine (times_b _ z1).mono ?_); rintro e w5 ⟨rfl, hb5⟩; have HN2 : Hid (D8 w5 B (dg (n1.natAbs * n2.natAbs))) := (by first | exact D8.below HN.out hb5 | exact D8.below (W := World.drew _) HN.out hb5 | exact D8.below (W := World.drewN _ _) HN.out hb5); clear HN; have HN := Lib.hid HN2.out; clear HN2; have HB2 : Hid (Bx3 w w5 n1 D1 n2 D2) := (by first | exact HB.out.next hb5 | exact (HB.out.next (below_drewN _ _)).next hb5); clear HB; have HB := Lib.hid HB2.out; clear HB2; clear hb5)
          | (go_at_call 52; (with_reducible refine (lowest_e _ HE.out P7.out Q7.out hD0).mono ?_); rintro e w5 ⟨rfl, hb5⟩; have HN2 : Hid (D8 w5 B (dg (n1.natAbs * n2.natAbs))) := (by first | exact D8.below HN.out hb5 | exact D8.below (W := World.drew _) HN.out hb5 | exact D8.below (W := World.drewN _ _) HN.out hb5); clear HN; have HN := Lib.hid HN2.out; clear HN2; have HB2 : Hid (Bx3 w w5 n1 D1 n2 D2) := (by first | exact HB.out.next hb5 | exact (HB.out.next (below_drewN _ _)).next hb5); clear HB; have HB := Lib.hid HB2.out; clear HB2; clear hb5; obtain ⟨r0, r1⟩ := HB.out.b2.c2; have rf := HB.out.b2.frozen; have hz := HB.out.b2.lt))
      all_goals
        go_wp2_with fail
        exact bodyPost_ret (v := .tuple #[.agg #[.int .i64 rx, .int .i64 ry], .int .i64 rc]) (by simp [results, Tryd.results19, go_sem, r0, r1, rf, hz]) rfl (retF HS.out rfl (bset2 HB.out.below (by omega) _ _))
end Go.Proofs.YtlplligfnbkofaaDoor
