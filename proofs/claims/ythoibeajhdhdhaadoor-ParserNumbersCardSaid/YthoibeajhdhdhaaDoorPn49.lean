/- Contracts, packed: Fj. -/
import Derived.Test.YthoibeajhdhdhaaDoorPn48
import Derived.Deep.RegionHeld3
import Derived.Deep.DeepCutAuto
set_option linter.unusedVariables false
set_option linter.unusedSimpArgs false
namespace Go.Proofs.YthoibeajhdhdhaaDoor
section
open Go.RowKit FracM

theorem add_no {n1 d1 n2 d2 : Int} (h : validB n1 d1 = false ∨ validB n2 d2 = false) : addF n1 d1 n2 d2 = (0, 0, 1) := by
  unfold addF; rcases h with h | h <;> simp [h]
theorem w2_bd2 {x : Int} {h l : Nat} {n : Bool} (H : W2 x h l n) (hx : x.natAbs ≤ 42535295865117307932921825928971026432) : h < 4611686018427387904 := by
  have h1 := H.1; have h2 := H.2.1
  rcases Nat.lt_or_ge h 4611686018427387904 with hl | hl
  · exact hl
  · have : 4611686018427387904 * 18446744073709551616 ≤ h * 18446744073709551616 := Nat.mul_le_mul_right _ hl
    have h3 : h * 18446744073709551616 ≤ x.natAbs := by rw [← h1]; exact Nat.le_add_right _ _
    have := Nat.le_trans this (Nat.le_trans h3 hx)
    exact absurd this (by decide)
/-- behind the sum: it lies in a block of its own -/
def SumCut (w : World) (n1 d1 n2 d2 : Int) (hi lo : Nat) (ng : Bool) (s : Value) (wx : World) : Prop :=
  ∃ B, s = .pointer (some ⟨B, 0, none⟩) ∧ w.heap.size + 1 + 1 < B ∧ Blk wx B 111 #[.int .u64 hi, .int .u64 lo, .bool ng] ∧ Bx3 w wx n1 d1 n2 d2
def CellS (w : World) (n1 d1 n2 d2 : Int) (w' : World) : Prop := w'.cell? ⟨w.heap.size, 0, none⟩ = some (.int .i64 n1) ∧ w'.cell? ⟨w.heap.size, 1, none⟩ = some (.int .i64 d1) ∧ w'.cell? ⟨w.heap.size + 1, 0, none⟩ = some (.int .i64 n2) ∧ w'.cell? ⟨w.heap.size + 1, 1, none⟩ = some (.int .i64 d2)
theorem Bx2.cellS {w W : World} {n1 d1 n2 d2 : Int} (h : Bx2 w W n1 d1 n2 d2) : CellS w n1 d1 n2 d2 W := ⟨h.b0.c2.1, h.b0.c2.2, h.b1.c2.1, h.b1.c2.2⟩
theorem Bx3.far3 {w W : World} {n1 d1 n2 d2 : Int} {B : Nat} (h : Bx3 w W n1 d1 n2 d2) (hB : w.heap.size + 1 + 1 < B) (u0 u1 u2 : Value) : Bx3 w (((W.setCell ⟨B, 0, none⟩ u0).setCell ⟨B, 1, none⟩ u1).setCell ⟨B, 2, none⟩ u2) n1 d1 n2 d2 := by
  have f : ∀ {g : Nat} {cs : Array Value} {t : TypeId}, Blk W g t cs → g < B → Blk (((W.setCell ⟨B, 0, none⟩ u0).setCell ⟨B, 1, none⟩ u1).setCell ⟨B, 2, none⟩ u2) g t cs := fun hb hg => ((hb.far (by simp only; omega) _).far (by simp only; omega) _).far (by simp only; omega) _
  exact ⟨⟨bset3 h.below (by omega) _ _ _, f h.b0 (by omega), f h.b1 (by omega)⟩, f h.b2 (by omega)⟩
theorem Blk.put3 {W : World} {B : Nat} {t : TypeId} {a b c : Value} (h : Blk W B t #[a, b, c]) (u0 u1 u2 : Value) : Blk (((W.setCell ⟨B, 0, none⟩ u0).setCell ⟨B, 1, none⟩ u1).setCell ⟨B, 2, none⟩ u2) B t #[u0, u1, u2] := by
  have := ((h.set 0 u0).set 1 u1).set 2 u2
  simpa using this
theorem abss2 {a c : Int} {B1 B2 : Nat} (h1 : a.natAbs ≤ 4611686018427387904) (h2 : B1 ≤ 4611686018427387904) (h3 : c.natAbs ≤ 4611686018427387904) (h4 : B2 ≤ 4611686018427387904) : (a * (B1 : Int) + c * (B2 : Int)).natAbs ≤ 42535295865117307932921825928971026432 := by
  have e1 : (a * (B1 : Int)).natAbs ≤ 21267647932558653966460912964485513216 := prod_bd h1 (by simpa using h2)
  have e2 : (c * (B2 : Int)).natAbs ≤ 21267647932558653966460912964485513216 := prod_bd h3 (by simpa using h4)
  exact Nat.le_trans (Int.natAbs_add_le _ _) (Nat.le_trans (Nat.add_le_add e1 e2) (by decide))
theorem div64_q {m lo h q : Nat} (w : World) (hq : q = (m * 18446744073709551616 + lo) / h) {r : Nat} (hr : r = (m * 18446744073709551616 + lo) % h) (h1 : 1 ≤ h) (h2 : h < 18446744073709551616) (h3 : lo < 18446744073709551616) (h4 : m < h) :
    Calls Tryd.prog 74 #[.int .u64 m, .int .u64 lo, .int .u64 h] w fun e w' => e = .returned (.tuple #[.int .u64 q, .int .u64 r]) ∧ ∃ n, w' = w.drewN n := by
  subst hq hr; exact div64_any m lo h w h1 h2 h3 h4
theorem mul64_q {x y a b : Nat} (w : World) (ha : a = x * y / 18446744073709551616) (hb : b = x * y % 18446744073709551616) (h1 : x < 18446744073709551616) (h2 : y < 18446744073709551616) :
    Calls Tryd.prog 75 #[.int .u64 x, .int .u64 y] w fun e w' => e = .returned (.tuple #[.int .u64 a, .int .u64 b]) ∧ w' = w := by
  subst ha hb; exact Tryd.bits_Mul64 x y h1 h2 w
/-- a quiet callee behind earlier draws -/
theorem later_quiet {f : FuncId} {args : Array Value} {w : World} {k n : Nat} {v : Value} (h : ∀ W : World, Calls Tryd.prog f args W fun e w' => e = .returned v ∧ ∃ m, w' = W.drewN m) :
    Calls Tryd.prog f args (w.drewN (k + n)) fun e w' => e = .returned v ∧ ∃ m, w' = w.drewN (k + m) :=
  (h _).mono fun _ _ ⟨he, m, hm⟩ => ⟨he, n + m, by rw [hm, World.drewN_drewN, Nat.add_assoc]⟩
theorem later_same {f : FuncId} {args : Array Value} {w : World} {k n : Nat} {v : Value} (h : ∀ W : World, Calls Tryd.prog f args W fun e w' => e = .returned v ∧ w' = W) :
    Calls Tryd.prog f args (w.drewN (k + n)) fun e w' => e = .returned v ∧ ∃ m, w' = w.drewN (k + m) :=
  (h _).mono fun _ _ ⟨he, hm⟩ => ⟨he, n, hm⟩
theorem ne1 {n : Nat} (h : ¬ n = 0) : ((n : Int) != 0) = true := by simp; omega
theorem ne1f {n : Nat} (h : n = 0) : ((n : Int) != 0) = false := by simp; omega
theorem hi_zero {a b : Nat} (h : a * 18446744073709551616 + b ≤ 4611686018427387904) : a = 0 := by
  rcases Nat.eq_zero_or_pos a with h0 | h0
  · exact h0
  · have : 1 * 18446744073709551616 ≤ a * 18446744073709551616 := Nat.mul_le_mul_right _ h0
    have := Nat.le_trans this (Nat.le_trans (Nat.le_add_right _ _) h)
    exact absurd this (by decide)
theorem ov_den {X d : Nat} (h1 : 0 = X / 18446744073709551616) (h2 : d = X % 18446744073709551616) : X = d := by
  have := Nat.div_add_mod X 18446744073709551616
  rw [← h1, ← h2] at this
  simpa using this.symm
/-- what Add computes -/
structure AddP (n1 n2 : Int) (D1 D2 g E1 E2 h T DD : Nat) (t : Int) : Prop where
  hg : g = Nat.gcd D1 D2
  e1 : E1 = D1 / g
  e2 : E2 = D2 / g
  ht : t = n1 * (E2 : Int) + n2 * (E1 : Int)
  hh : h = Nat.gcd (t.natAbs % g) g
  hT : T = t.natAbs / h
  hD : DD = E1 * (D2 / h)
theorem AddP.val {n1 n2 : Int} {D1 D2 g E1 E2 h T DD : Nat} {t : Int} (P : AddP n1 n2 D1 D2 g E1 E2 h T DD t) (v1 : validB n1 D1 = true) (v2 : validB n2 D2 = true) :
    addF n1 D1 n2 D2 = if T ≤ 4611686018427387904 ∧ DD ≤ 4611686018427387904 then (t.sign * (T : Int), (DD : Int), 0) else (0, 0, 5) := by
  obtain ⟨hg, e1, e2, ht, hh, hT, hD⟩ := P
  obtain ⟨a1, a2, a3, a4⟩ := valid_iff.1 v1
  obtain ⟨b1, b2, b3, b4⟩ := valid_iff.1 v2
  rw [Int.natAbs_natCast] at a4 b4
  rw [addF_v v1 v2, ← Int.natCast_mul, Int.natAbs_natCast]
  rw [prog_add (g := g) (t := t) (h := h) (by omega) (by omega) a4 b4 hg (by rw [ht, e1, e2]) (by rw [hh, FracM.gcd_mod_left])]
  rw [← hT, ← e1, ← hD]
  rfl
theorem fadd_zero {n1 n2 : Int} {D1 D2 g E1 E2 : Nat} (v1 : validB n1 D1 = true) (v2 : validB n2 D2 = true) (hg : g = Nat.gcd D1 D2) (e1 : E1 = D1 / g) (e2 : E2 = D2 / g) (ht : n1 * (E2 : Int) + n2 * (E1 : Int) = 0) : addF n1 D1 n2 D2 = (0, 1, 0) := by
  have P : AddP n1 n2 D1 D2 g E1 E2 (Nat.gcd ((0 : Int).natAbs % g) g) ((0 : Int).natAbs / Nat.gcd ((0 : Int).natAbs % g) g) (E1 * (D2 / Nat.gcd ((0 : Int).natAbs % g) g)) 0 := ⟨hg, e1, e2, ht.symm, rfl, rfl, rfl⟩
  have hv := P.val v1 v2
  -- the sum is 0 over the product: lowest terms 0 / 1
  have w1 := (valid_iff.1 v1).1
  have w2 := (valid_iff.1 v2).1
  have hgp : 0 < g := by rw [hg]; exact Nat.gcd_pos_of_pos_left _ (by omega)
  have hd1 : g * E1 = D1 := by rw [e1, hg]; exact Nat.mul_div_cancel' (Nat.gcd_dvd_left _ _)
  have hd2 : g * E2 = D2 := by rw [e2, hg]; exact Nat.mul_div_cancel' (Nat.gcd_dvd_right _ _)
  have hs : n1 * (D2 : Int) + n2 * (D1 : Int) = 0 := by
    rw [← hd1, ← hd2]; push_cast
    have : n1 * ((g : Int) * (E2 : Int)) + n2 * ((g : Int) * (E1 : Int)) = (g : Int) * (n1 * (E2 : Int) + n2 * (E1 : Int)) := by grind
    rw [this, ht]; simp
  rw [addF_v v1 v2, hs, ← Int.natCast_mul, Int.natAbs_natCast]
  unfold low
  have hp : 0 < D1 * D2 := Nat.mul_pos (by omega) (by omega)
  simp [Nat.div_self hp, M]
theorem sign_mul_T {t : Int} {T : Nat} (h0 : ¬ t = 0) : t.sign * (T : Int) = if t < 0 then -(T : Int) else T := by
  rcases Int.lt_or_lt_of_ne h0 with h | h
  · rw [Int.sign_eq_neg_one_of_neg h, if_pos h]; omega
  · rw [Int.sign_eq_one_of_pos h, if_neg (by omega)]; omega
/-- a quotient of two words -/
theorem two_div {N hi lo h : Nat} (e : hi * 18446744073709551616 + lo = N) (hh : 0 < h) (hlo : lo < 18446744073709551616) : N / h = (hi / h) * 18446744073709551616 + ((hi % h) * 18446744073709551616 + lo) / h ∧ ((hi % h) * 18446744073709551616 + lo) / h < 18446744073709551616 := by
  subst e
  have e1 := Nat.div_add_mod hi h
  have hm := Nat.mod_lt hi hh
  constructor
  · have : hi * 18446744073709551616 + lo = h * ((hi / h) * 18446744073709551616) + ((hi % h) * 18446744073709551616 + lo) := by
      have : hi * 18446744073709551616 = h * (hi / h) * 18446744073709551616 + (hi % h) * 18446744073709551616 := by rw [← Nat.add_mul, e1]
      rw [this, Nat.mul_assoc, Nat.add_assoc]
    rw [this, Nat.mul_add_div hh]
  · refine Nat.div_lt_of_lt_mul ?_
    have h1 : (hi % h + 1) * 18446744073709551616 ≤ h * 18446744073709551616 := Nat.mul_le_mul_right _ hm
    rw [Nat.add_mul, Nat.one_mul] at h1
    exact Nat.lt_of_lt_of_le (Nat.add_lt_add_left hlo _) h1
theorem add_bad1 (n1 d1 n2 d2 : Int) (w : World) (l1 : -9223372036854775808 ≤ n1) (u1 : n1 ≤ 9223372036854775807) (l2 : -9223372036854775808 ≤ d1) (u2 : d1 ≤ 9223372036854775807) (l3 : -9223372036854775808 ≤ n2) (u3 : n2 ≤ 9223372036854775807) (l4 : -9223372036854775808 ≤ d2) (u4 : d2 ≤ 9223372036854775807) (v1 : validB n1 d1 = false) :
    Calls Tryd.prog 49 #[.agg #[.int .i64 n1, .int .i64 d1], .agg #[.int .i64 n2, .int .i64 d2]] w (RetF (addF n1 d1 n2 d2) w) := by
  have E := Lib.hid (add_no (d2 := d2) (n2 := n2) (.inl v1))
  go_enter Tryd.func49, Tryd.ntmps49
  go_wp2_with fail
  refine (valid_any n1 d1 _ (by omega) (by omega) (by omega) (by omega)).mono ?_
  rintro e w1 ⟨rfl, hb1⟩
  rw [v1]
  have HB1 : Hid (Bx3 w w1 n1 d1 n2 d2) := (Bx3.start w n1 d1 n2 d2).next hb1
  clear hb1
  obtain ⟨p0, p1⟩ := HB1.out.b0.c2
  obtain ⟨q0, q1⟩ := HB1.out.b1.c2
  obtain ⟨r0, r1⟩ := HB1.out.b2.c2
  have rf := HB1.out.b2.frozen
  have hz := HB1.out.b2.lt
  go_wp2_with fail
  exact bodyPost_ret (v := .tuple #[.agg #[.int .i64 0, .int .i64 0], .int .i64 1]) (by simp [results, Tryd.results49, go_sem, r0, r1]) rfl (retF E.out rfl (bset2 HB1.out.below (by omega) _ _))
theorem add_bad2 (n1 d1 n2 d2 : Int) (w : World) (l1 : -9223372036854775808 ≤ n1) (u1 : n1 ≤ 9223372036854775807) (l2 : -9223372036854775808 ≤ d1) (u2 : d1 ≤ 9223372036854775807) (l3 : -9223372036854775808 ≤ n2) (u3 : n2 ≤ 9223372036854775807) (l4 : -9223372036854775808 ≤ d2) (u4 : d2 ≤ 9223372036854775807) (v1 : validB n1 d1 = true) (v2 : validB n2 d2 = false) :
    Calls Tryd.prog 49 #[.agg #[.int .i64 n1, .int .i64 d1], .agg #[.int .i64 n2, .int .i64 d2]] w (RetF (addF n1 d1 n2 d2) w) := by
  have E := Lib.hid (add_no (d1 := d1) (n1 := n1) (.inr v2))
  go_enter Tryd.func49, Tryd.ntmps49
  go_wp2_with fail
  refine (valid_any n1 d1 _ (by omega) (by omega) (by omega) (by omega)).mono ?_
  rintro e w1 ⟨rfl, hb1⟩
  rw [v1]
  have HB1 : Hid (Bx3 w w1 n1 d1 n2 d2) := (Bx3.start w n1 d1 n2 d2).next hb1
  clear hb1
  obtain ⟨p0, p1⟩ := HB1.out.b0.c2
  obtain ⟨q0, q1⟩ := HB1.out.b1.c2
  obtain ⟨r0, r1⟩ := HB1.out.b2.c2
  have rf := HB1.out.b2.frozen
  go_wp2_with fail
  refine (valid_any n2 d2 _ (by omega) (by omega) (by omega) (by omega)).mono ?_
  rintro e w2 ⟨rfl, hb2⟩
  rw [v2]
  have HB2 : Hid (Bx3 w w2 n1 d1 n2 d2) := HB1.out.next hb2
  clear hb2 p0 p1 q0 q1 r0 r1 rf HB1
  obtain ⟨p0, p1⟩ := HB2.out.b0.c2
  obtain ⟨q0, q1⟩ := HB2.out.b1.c2
  obtain ⟨r0, r1⟩ := HB2.out.b2.c2
  have rf := HB2.out.b2.frozen
  have hz := HB2.out.b2.lt
  go_wp2_with fail
  exact bodyPost_ret (v := .tuple #[.agg #[.int .i64 0, .int .i64 0], .int .i64 1]) (by simp [results, Tryd.results49, go_sem, r0, r1]) rfl (retF E.out rfl (bset2 HB2.out.below (by omega) _ _))
set_option maxHeartbeats 4000000 in
set_option maxRecDepth 100000 in
theorem add_good (n1 n2 : Int) (D1 D2 : Nat) (w : World) (v1 : validB n1 (D1 : Int) = true) (v2 : validB n2 (D2 : Int) = true) :
    Calls Tryd.prog 49 #[.agg #[.int .i64 n1, .int .i64 (D1 : Int)], .agg #[.int .i64 n2, .int .i64 (D2 : Int)]] w (RetF (addF n1 D1 n2 D2) w) := by
  obtain ⟨x1, x2, x3⟩ := valid_bd v1
  obtain ⟨y1, y2, y3⟩ := valid_bd v2
  obtain ⟨g, hg⟩ : ∃ g, g = Nat.gcd D1 D2 := ⟨_, rfl⟩
  have g1 : 1 ≤ g := by rw [hg]; exact Nat.gcd_pos_of_pos_right _ (by omega)
  have g2 : g ≤ D2 := by rw [hg]; exact Nat.gcd_le_right _ (by omega)
  obtain ⟨E1, hE1⟩ : ∃ E1, E1 = D1 / g := ⟨_, rfl⟩
  obtain ⟨E2, hE2⟩ : ∃ E2, E2 = D2 / g := ⟨_, rfl⟩
  have b1 : E1 ≤ D1 := by rw [hE1]; exact Nat.div_le_self _ _
  have b2 : E2 ≤ D2 := by rw [hE2]; exact Nat.div_le_self _ _
  have c1 : (D1 : Int) / (g : Int) = (E1 : Int) := by rw [hE1]; exact (Int.natCast_ediv _ _).symm
  have c2 : (D2 : Int) / (g : Int) = (E2 : Int) := by rw [hE2]; exact (Int.natCast_ediv _ _).symm
  have z1 : ((g : Int) == 0) = false := by simp; omega
  have HP : Hid (g = Nat.gcd D1 D2 ∧ E1 = D1 / g ∧ E2 = D2 / g) := ⟨hg, hE1, hE2⟩
  clear hg hE1 hE2
  go_enter Tryd.func49, Tryd.ntmps49
  go_wp2_with fail
  refine (valid_any n1 _ _ (by omega) (by omega) (by omega) (by omega)).mono ?_
  rintro e w1 ⟨rfl, hb1⟩
  rw [v1]
  have HB1 : Hid (Bx3 w w1 n1 (D1 : Int) n2 (D2 : Int)) := (Bx3.start w n1 _ n2 _).next hb1
  clear hb1
  obtain ⟨p0, p1⟩ := HB1.out.b0.c2
  obtain ⟨q0, q1⟩ := HB1.out.b1.c2
  obtain ⟨r0, r1⟩ := HB1.out.b2.c2
  have rf := HB1.out.b2.frozen
  go_wp2_with fail
  refine (valid_any n2 _ _ (by omega) (by omega) (by omega) (by omega)).mono ?_
  rintro e w2 ⟨rfl, hb2⟩
  rw [v2]
  have HB2 : Hid (Bx3 w w2 n1 (D1 : Int) n2 (D2 : Int)) := HB1.out.next hb2
  clear hb2 p0 p1 q0 q1 r0 r1 rf HB1
  obtain ⟨p0, p1⟩ := HB2.out.b0.c2
  obtain ⟨q0, q1⟩ := HB2.out.b1.c2
  obtain ⟨r0, r1⟩ := HB2.out.b2.c2
  have rf := HB2.out.b2.frozen
  have hz := HB2.out.b2.lt
  go_wp2_with fail
  refine (gcd_any D1 D2 _ (by omega) (by omega)).mono ?_
  rintro e w3 ⟨rfl, nq, rfl⟩
  rw [← HP.out.1]
  go_wp2_with fail
  have Z := W2.mk' (n1 * (E2 : Int) + n2 * (E1 : Int))
  generalize hiN (n1 * (E2 : Int) + n2 * (E1 : Int)) = hi at *
  generalize loN (n1 * (E2 : Int) + n2 * (E1 : Int)) = lo at *
  generalize hn : decide (n1 * (E2 : Int) + n2 * (E1 : Int) < 0) = ng at *
  have HZ := Box.mk Z; clear Z
  have c3 : IntKind.i64.wrap ((D1 : Int) / (g : Int)) = (E1 : Int) := by rw [c1]; exact fin_i64 _ (by omega) (by omega)
  have c4 : IntKind.i64.wrap ((D2 : Int) / (g : Int)) = (E2 : Int) := by rw [c2]; exact fin_i64 _ (by omega) (by omega)
  have c5 : IntKind.i64.wrap ((D1 : Int).tdiv (g : Int)) = (E1 : Int) := by rw [← Int.ofNat_tdiv, ← HP.out.2.1]; exact fin_i64 _ (by omega) (by omega)
  have c6 : IntKind.i64.wrap ((D2 : Int).tdiv (g : Int)) = (E2 : Int) := by rw [← Int.ofNat_tdiv, ← HP.out.2.2]; exact fin_i64 _ (by omega) (by omega)
  have c7 : IntKind.i64.wrap (E1 : Int) = (E1 : Int) := fin_i64 _ (by omega) (by omega)
  have c8 : IntKind.i64.wrap (E2 : Int) = (E2 : Int) := fin_i64 _ (by omega) (by omega)
  have k2 : E2 ≤ 4611686018427387904 := by omega
  have k3 : E1 ≤ 4611686018427387904 := by omega
  have hz2 := HB2.out.b2.lt
  have z2 : ¬ (g : Int) = 0 := by omega
  have z3 : ¬ g = 0 := by omega
  have z4 : (0 : Int) ≤ (D1 : Int) := by omega
  have z5 : (0 : Int) ≤ (D2 : Int) := by omega
  have z6 : (1 : Int) ≤ (g : Int) := by omega
  go_cut [7] (fun s7 wx => SumCut w n1 (D1 : Int) n2 (D2 : Int) hi lo ng s7 wx)
  case first =>
    go_region_held3 (fun w' => w'.cell? ⟨w.heap.size, 0, none⟩ = some (.int .i64 n1) ∧ w'.cell? ⟨w.heap.size, 1, none⟩ = some (.int .i64 (D1 : Int)) ∧ w'.cell? ⟨w.heap.size + 1, 0, none⟩ = some (.int .i64 n2) ∧ w'.cell? ⟨w.heap.size + 1, 1, none⟩ = some (.int .i64 (D2 : Int)))
      (first | exact HB2.out.toBx2.cellS | exact HB5.out.toBx2.cellS | exact (HB5.out.toBx2.next (bel1 _ _)).cellS | exact (HB5.out.far3 (by omega) _ _ _).toBx2.cellS | exact ((HB2.out.toBx2.next (bel1 _ _)).next (below_drewN _ _)).cellS | exact (HB2.out.toBx2.next (bel1 _ _)).cellS | go_keep)
      (first
        | (go_at_call 71; refine (sum_w _ HZ.out x1 k2 y1 k3).mono ?_; rintro e w5 ⟨rfl, hb5⟩; have HN5 : Hid (Blk w5 w2.heap.size 111 #[.int .u64 0, .int .u64 0, .bool false]) := ((Blk.new _ _ _).drewN _).below hb5; have HB5 : Hid (Bx3 w w5 n1 (D1 : Int) n2 (D2 : Int)) := ((HB2.out.next (bel1 _ _)).next (below_drewN _ _)).next hb5; obtain ⟨m0, m1, m2⟩ := HN5.out.c3; have mf := HN5.out.frozen; clear hb5)
        | (go_at_call 71; refine (sum_w _ HZ.out x1 k2 y1 k3).mono ?_; rintro e w5 ⟨rfl, hb5⟩; have HB5 : Hid (Bx3 w w5 n1 (D1 : Int) n2 (D2 : Int)) := (HB2.out.next (below_drewN _ _)).next hb5; have hz5 := HB5.out.b2.lt; clear hb5))
    all_goals
      go_wp2_with fail
      go_meet
      first
        | exact ⟨_, rfl, hz2, HN5.out.put3 _ _ _, HB5.out.far3 hz2 _ _ _⟩
        | exact ⟨_, rfl, hz5, Blk.new _ _ _, HB5.out.next (bel1 _ _)⟩
  case rest =>
    obtain ⟨B, rfl, hB, hblk, hbx⟩ := hcut
    rename_i wc
    clear c1 c2 c3 c4 c5 c6 c7 c8 z2 z3 z4 z5 z6 p0 p1 q0 q1 r0 r1 rf
    have HC : Hid (Blk wc B 111 #[.int .u64 hi, .int .u64 lo, .bool ng] ∧ Bx3 w wc n1 (D1 : Int) n2 (D2 : Int)) := ⟨hblk, hbx⟩
    clear hblk hbx HB2
    obtain ⟨m0, m1, m2⟩ := HC.out.1.c3
    have mf := HC.out.1.frozen
    obtain ⟨p0, p1⟩ := HC.out.2.b0.c2
    obtain ⟨q0, q1⟩ := HC.out.2.b1.c2
    obtain ⟨r0, r1⟩ := HC.out.2.b2.c2
    have rf := HC.out.2.b2.frozen
    have hBl := HC.out.1.lt
    have hT := HZ.out.1
    have hlo := HZ.out.2.1
    by_cases t0 : n1 * (E2 : Int) + n2 * (E1 : Int) = 0
    · have E := Lib.hid (fadd_zero v1 v2 HP.out.1 HP.out.2.1 HP.out.2.2 t0)
      rw [t0] at hT hn
      have w1 := eq0 (n := hi) (by simp at hT; omega)
      have w2' := eq0 (n := lo) (by simp at hT; omega)
      obtain rfl : ng = false := by rw [← hn]; rfl
      clear hT hn t0 HZ
      go_wp2_with fail
      exact bodyPost_ret (v := .tuple #[.agg #[.int .i64 0, .int .i64 1], .int .i64 0]) (by simp [results, Tryd.results49, go_sem, r0, r1]) rfl (retF E.out rfl (bset2 HC.out.2.below (by omega) _ _))
    have tb : hi < 4611686018427387904 := (w2_bd2 HZ.out (abss2 x1 k2 y1 k3))
    generalize ht : n1 * (E2 : Int) + n2 * (E1 : Int) = t at *
    have HT0 := Box.mk ht; have HTT := Box.mk hT
    obtain ⟨h, hh⟩ : ∃ h, h = Nat.gcd (t.natAbs % g) g := ⟨_, rfl⟩
    have h1 : 1 ≤ h := by rw [hh]; exact Nat.gcd_pos_of_pos_right _ (by omega)
    have h2 : h ≤ g := by rw [hh]; exact Nat.gcd_le_right _ (by omega)
    obtain ⟨q1', q2'⟩ := two_div hT (h := h) (by omega) hlo
    obtain ⟨high, hhi⟩ : ∃ high, high = hi / h := ⟨_, rfl⟩
    obtain ⟨low', hlw⟩ : ∃ low', low' = ((hi % h) * 18446744073709551616 + lo) / h := ⟨_, rfl⟩
    rw [← hhi, ← hlw] at q1'
    rw [← hlw] at q2'
    obtain ⟨K, hK⟩ : ∃ K, K = D2 / h := ⟨_, rfl⟩
    have hKb : K ≤ D2 := by rw [hK]; exact Nat.div_le_self _ _
    have P : AddP n1 n2 D1 D2 g E1 E2 h (high * 18446744073709551616 + low') (E1 * K) t := ⟨HP.out.1, HP.out.2.1, HP.out.2.2, ht.symm, hh, q1'.symm, by rw [hK]⟩
    have EV := Box.mk (P.val v1 v2)
    have HH : Box (h = Nat.gcd (t.natAbs % g) g) := ⟨hh⟩
    have hmod : hi % h < h := Nat.mod_lt _ (by omega)
    have e1 : (hi : Int) / (h : Int) = (high : Int) := by rw [hhi]; exact (Int.natCast_ediv _ _).symm
    have e2 : (D2 : Int) / (h : Int) = (K : Int) := by rw [hK]; exact (Int.natCast_ediv _ _).symm
    have hhb : high ≤ hi := by rw [hhi]; exact Nat.div_le_self _ _
    obtain ⟨m, hm⟩ : ∃ m, m = hi % h := ⟨_, rfl⟩
    rw [← hm] at hmod hlw
    have e3 : (hi : Int) % (h : Int) = (m : Int) := by rw [hm]; exact (Int.natCast_emod _ _).symm
    have HL : Box (low' = (m * 18446744073709551616 + lo) / h) := ⟨hlw⟩
    clear P hh q1' hhi hlw hK hm ht hT
    rcases ng with _ | _
    · have tp : 0 < t := by have h' : ¬ t < 0 := by simpa using hn
                            omega
      by_cases f0 : hi = 0
      · have f1 := eq0 f0
        have f2 := ne0 (n := lo) (fun h => by have := HTT.out; rw [f0, h] at this; simp at this; omega)
        clear f0
        go_wp2_with fail
        refine (rem64_any hi lo g _ (by omega) (by omega) hlo (by omega)).mono ?_
        rintro e w7 ⟨rfl, a7, rfl⟩
        rw [HTT.out]
        go_wp2_with fail
        refine (gcdu_any (t.natAbs % g) g _ (Nat.le_trans (Nat.le_of_lt (Nat.mod_lt _ (by omega))) (by omega)) (by omega)).mono ?_
        rintro e w8 ⟨rfl, a8, rfl⟩
        rw [← HH.out]
        have hz1 : ((h : Int) == 0) = false := by simp; omega
        have hz2' : ¬ (h : Int) = 0 := by omega
        have hz3 : (1 : Int) ≤ (h : Int) := by omega
        go_wp2_with fail
        have u1 : IntKind.u64.wrap ((hi : Int).tmod (h : Int)) = (m : Int) := by rw [Int.tmod_eq_emod_of_nonneg (by omega), e3]; exact fin_u64 _ (by omega) (by omega)
        have u2 : IntKind.u64.wrap ((hi : Int) % (h : Int)) = (m : Int) := by rw [e3]; exact fin_u64 _ (by omega) (by omega)
        have u3 : IntKind.u64.wrap (m : Int) = (m : Int) := fin_u64 _ (by omega) (by omega)
        obtain ⟨rr, hrr⟩ : ∃ rr, rr = (m * 18446744073709551616 + lo) % h := ⟨_, rfl⟩
        have HRR := Box.mk hrr; clear hrr
        have hh64 : h < 18446744073709551616 := by omega
        go_quiet ((go_at_call 74; exact later_quiet (fun W => div64_q W HL.out HRR.out h1 hh64 hlo hmod)))
        clear u1 u2 u3
        go_wp2_with fail
        have y1' : IntKind.i64.wrap ((D1 : Int).tdiv (g : Int)) = (E1 : Int) := by rw [← Int.ofNat_tdiv, ← HP.out.2.1]; exact fin_i64 _ (by omega) (by omega)
        have y2' : IntKind.u64.wrap ((D2 : Int).tdiv (h : Int)) = (K : Int) := by rw [Int.tdiv_eq_ediv_of_nonneg (by omega), e2]; exact fin_u64 _ (by omega) (by omega)
        have y3' : IntKind.u64.wrap (E1 : Int) = (E1 : Int) := fin_u64 _ (by omega) (by omega)
        have y4' : IntKind.u64.wrap (D2 : Int) = (D2 : Int) := fin_u64 _ (by omega) (by omega)
        have y5' : IntKind.u64.wrap (K : Int) = (K : Int) := fin_u64 _ (by omega) (by omega)
        have y6' : IntKind.i64.wrap (E1 : Int) = (E1 : Int) := fin_i64 _ (by omega) (by omega)
        have y7' : (D1 : Int) / (g : Int) = (E1 : Int) := by rw [HP.out.2.1]; exact (Int.natCast_ediv _ _).symm
        have gz2 : ¬ (g : Int) = 0 := by omega
        obtain ⟨over, hov⟩ : ∃ over, over = E1 * K / 18446744073709551616 := ⟨_, rfl⟩
        obtain ⟨den, hdn⟩ : ∃ den, den = E1 * K % 18446744073709551616 := ⟨_, rfl⟩
        have HO := Box.mk (And.intro hov hdn)
        have hdb : den < 18446744073709551616 := by rw [hdn]; exact Nat.mod_lt _ (by omega)
        clear hov hdn
        have hE64 : E1 < 18446744073709551616 := by omega
        have hK64 : K < 18446744073709551616 := by omega
        go_quiet ((go_at_call 75; exact later_same (fun W => mul64_q W HO.out.1 HO.out.2 hE64 hK64)))
        clear y1' y2' y3' y4' y5' y6' y7' e1 e2 e3
        by_cases s1 : high = 0
        case neg =>
          have s1' := ne1 s1
          have EE : Hid (addF n1 D1 n2 D2 = (0, 0, 5)) := by show _ = _; rw [EV.out, if_neg]; rintro ⟨b1, b2⟩; exact s1 (hi_zero b1)
          go_wp2_with fail
          exact bodyPost_ret (v := .tuple #[.agg #[.int .i64 0, .int .i64 0], .int .i64 5]) (by simp [results, Tryd.results49, go_sem, r0, r1]) rfl (retF EE.out rfl (bset2 (bdrew HC.out.2.below _) (by omega) _ _))
        have s1' := ne1f s1
        by_cases s2 : low' ≤ 4611686018427387904
        case neg =>
          have EE : Hid (addF n1 D1 n2 D2 = (0, 0, 5)) := by show _ = _; rw [EV.out, if_neg]; rintro ⟨b1, b2⟩; rw [s1, Nat.zero_mul, Nat.zero_add] at b1; exact s2 b1
          go_wp2_with fail
          exact bodyPost_ret (v := .tuple #[.agg #[.int .i64 0, .int .i64 0], .int .i64 5]) (by simp [results, Tryd.results49, go_sem, r0, r1]) rfl (retF EE.out rfl (bset2 (bdrew HC.out.2.below _) (by omega) _ _))
        by_cases s3 : over = 0
        case neg =>
          have s3' := ne1 s3
          have EE : Hid (addF n1 D1 n2 D2 = (0, 0, 5)) := by show _ = _; rw [EV.out, if_neg]; rintro ⟨b1, b2⟩; exact s3 (by rw [HO.out.1]; exact Nat.div_eq_of_lt (by omega))
          go_wp2_with fail
          exact bodyPost_ret (v := .tuple #[.agg #[.int .i64 0, .int .i64 0], .int .i64 5]) (by simp [results, Tryd.results49, go_sem, r0, r1]) rfl (retF EE.out rfl (bset2 (bdrew HC.out.2.below _) (by omega) _ _))
        have s3' := ne1f s3
        have HDn : Box (E1 * K = den) := ⟨by have a1 := HO.out.1; have a2 := HO.out.2; rw [s3] at a1; exact ov_den a1 a2⟩
        by_cases s4 : den ≤ 4611686018427387904
        case neg =>
          have EE : Hid (addF n1 D1 n2 D2 = (0, 0, 5)) := by show _ = _; rw [EV.out, if_neg]; rintro ⟨b1, b2⟩; rw [HDn.out] at b2; exact s4 b2
          go_wp2_with fail
          exact bodyPost_ret (v := .tuple #[.agg #[.int .i64 0, .int .i64 0], .int .i64 5]) (by simp [results, Tryd.results49, go_sem, r0, r1]) rfl (retF EE.out rfl (bset2 (bdrew HC.out.2.below _) (by omega) _ _))
        have EE : Hid (addF n1 D1 n2 D2 = ((low' : Int), (den : Int), 0)) := by
          show _ = _
          rw [EV.out, if_pos ⟨by rw [s1, Nat.zero_mul, Nat.zero_add]; exact s2, by rw [HDn.out]; exact s4⟩, HDn.out, s1, Nat.zero_mul, Nat.zero_add, sign_mul_T t0, if_neg (by simpa using hn)]
        go_wp2_with fail
        exact bodyPost_ret (v := .tuple #[.agg #[.int .i64 (low' : Int), .int .i64 (den : Int)], .int .i64 0]) (by simp [results, Tryd.results49, go_sem, r0, r1]) rfl (retF EE.out rfl (bset2 (bdrew HC.out.2.below _) (by omega) _ _))
      · have f1 := ne0 f0
        clear f0
        go_wp2_with fail
        refine (rem64_any hi lo g _ (by omega) (by omega) hlo (by omega)).mono ?_
        rintro e w7 ⟨rfl, a7, rfl⟩
        rw [HTT.out]
        go_wp2_with fail
        refine (gcdu_any (t.natAbs % g) g _ (Nat.le_trans (Nat.le_of_lt (Nat.mod_lt _ (by omega))) (by omega)) (by omega)).mono ?_
        rintro e w8 ⟨rfl, a8, rfl⟩
        rw [← HH.out]
        have hz1 : ((h : Int) == 0) = false := by simp; omega
        have hz2' : ¬ (h : Int) = 0 := by omega
        have hz3 : (1 : Int) ≤ (h : Int) := by omega
        go_wp2_with fail
        have u1 : IntKind.u64.wrap ((hi : Int).tmod (h : Int)) = (m : Int) := by rw [Int.tmod_eq_emod_of_nonneg (by omega), e3]; exact fin_u64 _ (by omega) (by omega)
        have u2 : IntKind.u64.wrap ((hi : Int) % (h : Int)) = (m : Int) := by rw [e3]; exact fin_u64 _ (by omega) (by omega)
        have u3 : IntKind.u64.wrap (m : Int) = (m : Int) := fin_u64 _ (by omega) (by omega)
        obtain ⟨rr, hrr⟩ : ∃ rr, rr = (m * 18446744073709551616 + lo) % h := ⟨_, rfl⟩
        have HRR := Box.mk hrr; clear hrr
        have hh64 : h < 18446744073709551616 := by omega
        go_quiet ((go_at_call 74; exact later_quiet (fun W => div64_q W HL.out HRR.out h1 hh64 hlo hmod)))
        clear u1 u2 u3
        go_wp2_with fail
        have y1' : IntKind.i64.wrap ((D1 : Int).tdiv (g : Int)) = (E1 : Int) := by rw [← Int.ofNat_tdiv, ← HP.out.2.1]; exact fin_i64 _ (by omega) (by omega)
        have y2' : IntKind.u64.wrap ((D2 : Int).tdiv (h : Int)) = (K : Int) := by rw [Int.tdiv_eq_ediv_of_nonneg (by omega), e2]; exact fin_u64 _ (by omega) (by omega)
        have y3' : IntKind.u64.wrap (E1 : Int) = (E1 : Int) := fin_u64 _ (by omega) (by omega)
        have y4' : IntKind.u64.wrap (D2 : Int) = (D2 : Int) := fin_u64 _ (by omega) (by omega)
        have y5' : IntKind.u64.wrap (K : Int) = (K : Int) := fin_u64 _ (by omega) (by omega)
        have y6' : IntKind.i64.wrap (E1 : Int) = (E1 : Int) := fin_i64 _ (by omega) (by omega)
        have y7' : (D1 : Int) / (g : Int) = (E1 : Int) := by rw [HP.out.2.1]; exact (Int.natCast_ediv _ _).symm
        have gz2 : ¬ (g : Int) = 0 := by omega
        obtain ⟨over, hov⟩ : ∃ over, over = E1 * K / 18446744073709551616 := ⟨_, rfl⟩
        obtain ⟨den, hdn⟩ : ∃ den, den = E1 * K % 18446744073709551616 := ⟨_, rfl⟩
        have HO := Box.mk (And.intro hov hdn)
        have hdb : den < 18446744073709551616 := by rw [hdn]; exact Nat.mod_lt _ (by omega)
        clear hov hdn
        have hE64 : E1 < 18446744073709551616 := by omega
        have hK64 : K < 18446744073709551616 := by omega
        go_quiet ((go_at_call 75; exact later_same (fun W => mul64_q W HO.out.1 HO.out.2 hE64 hK64)))
        clear y1' y2' y3' y4' y5' y6' y7' e1 e2 e3
        by_cases s1 : high = 0
        case neg =>
          have s1' := ne1 s1
          have EE : Hid (addF n1 D1 n2 D2 = (0, 0, 5)) := by show _ = _; rw [EV.out, if_neg]; rintro ⟨b1, b2⟩; exact s1 (hi_zero b1)
          go_wp2_with fail
          exact bodyPost_ret (v := .tuple #[.agg #[.int .i64 0, .int .i64 0], .int .i64 5]) (by simp [results, Tryd.results49, go_sem, r0, r1]) rfl (retF EE.out rfl (bset2 (bdrew HC.out.2.below _) (by omega) _ _))
        have s1' := ne1f s1
        by_cases s2 : low' ≤ 4611686018427387904
        case neg =>
          have EE : Hid (addF n1 D1 n2 D2 = (0, 0, 5)) := by show _ = _; rw [EV.out, if_neg]; rintro ⟨b1, b2⟩; rw [s1, Nat.zero_mul, Nat.zero_add] at b1; exact s2 b1
          go_wp2_with fail
          exact bodyPost_ret (v := .tuple #[.agg #[.int .i64 0, .int .i64 0], .int .i64 5]) (by simp [results, Tryd.results49, go_sem, r0, r1]) rfl (retF EE.out rfl (bset2 (bdrew HC.out.2.below _) (by omega) _ _))
        by_cases s3 : over = 0
        case neg =>
          have s3' := ne1 s3
          have EE : Hid (addF n1 D1 n2 D2 = (0, 0, 5)) := by show _ = _; rw [EV.out, if_neg]; rintro ⟨b1, b2⟩; exact s3 (by rw [HO.out.1]; exact Nat.div_eq_of_lt (by omega))
          go_wp2_with fail
          exact bodyPost_ret (v := .tuple #[.agg #[.int .i64 0, .int .i64 0], .int .i64 5]) (by simp [results, Tryd.results49, go_sem, r0, r1]) rfl (retF EE.out rfl (bset2 (bdrew HC.out.2.below _) (by omega) _ _))
        have s3' := ne1f s3
        have HDn : Box (E1 * K = den) := ⟨by have a1 := HO.out.1; have a2 := HO.out.2; rw [s3] at a1; exact ov_den a1 a2⟩
        by_cases s4 : den ≤ 4611686018427387904
        case neg =>
          have EE : Hid (addF n1 D1 n2 D2 = (0, 0, 5)) := by show _ = _; rw [EV.out, if_neg]; rintro ⟨b1, b2⟩; rw [HDn.out] at b2; exact s4 b2
          go_wp2_with fail
          exact bodyPost_ret (v := .tuple #[.agg #[.int .i64 0, .int .i64 0], .int .i64 5]) (by simp [results, Tryd.results49, go_sem, r0, r1]) rfl (retF EE.out rfl (bset2 (bdrew HC.out.2.below _) (by omega) _ _))
        have EE : Hid (addF n1 D1 n2 D2 = ((low' : Int), (den : Int), 0)) := by
          show _ = _
          rw [EV.out, if_pos ⟨by rw [s1, Nat.zero_mul, Nat.zero_add]; exact s2, by rw [HDn.out]; exact s4⟩, HDn.out, s1, Nat.zero_mul, Nat.zero_add, sign_mul_T t0, if_neg (by simpa using hn)]
        go_wp2_with fail
        exact bodyPost_ret (v := .tuple #[.agg #[.int .i64 (low' : Int), .int .i64 (den : Int)], .int .i64 0]) (by simp [results, Tryd.results49, go_sem, r0, r1]) rfl (retF EE.out rfl (bset2 (bdrew HC.out.2.below _) (by omega) _ _))
    · have tn : t < 0 := by simpa using hn
      go_wp2_with fail
      refine (rem64_any hi lo g _ (by omega) (by omega) hlo (by omega)).mono ?_
      rintro e w7 ⟨rfl, a7, rfl⟩
      rw [HTT.out]
      go_wp2_with fail
      refine (gcdu_any (t.natAbs % g) g _ (Nat.le_trans (Nat.le_of_lt (Nat.mod_lt _ (by omega))) (by omega)) (by omega)).mono ?_
      rintro e w8 ⟨rfl, a8, rfl⟩
      rw [← HH.out]
      have hz1 : ((h : Int) == 0) = false := by simp; omega
      have hz2' : ¬ (h : Int) = 0 := by omega
      have hz3 : (1 : Int) ≤ (h : Int) := by omega
      go_wp2_with fail
      have u1 : IntKind.u64.wrap ((hi : Int).tmod (h : Int)) = (m : Int) := by rw [Int.tmod_eq_emod_of_nonneg (by omega), e3]; exact fin_u64 _ (by omega) (by omega)
      have u2 : IntKind.u64.wrap ((hi : Int) % (h : Int)) = (m : Int) := by rw [e3]; exact fin_u64 _ (by omega) (by omega)
      have u3 : IntKind.u64.wrap (m : Int) = (m : Int) := fin_u64 _ (by omega) (by omega)
      obtain ⟨rr, hrr⟩ : ∃ rr, rr = (m * 18446744073709551616 + lo) % h := ⟨_, rfl⟩
      have HRR := Box.mk hrr; clear hrr
      have hh64 : h < 18446744073709551616 := by omega
      go_quiet ((go_at_call 74; exact later_quiet (fun W => div64_q W HL.out HRR.out h1 hh64 hlo hmod)))
      clear u1 u2 u3
      go_wp2_with fail
      have y1' : IntKind.i64.wrap ((D1 : Int).tdiv (g : Int)) = (E1 : Int) := by rw [← Int.ofNat_tdiv, ← HP.out.2.1]; exact fin_i64 _ (by omega) (by omega)
      have y2' : IntKind.u64.wrap ((D2 : Int).tdiv (h : Int)) = (K : Int) := by rw [Int.tdiv_eq_ediv_of_nonneg (by omega), e2]; exact fin_u64 _ (by omega) (by omega)
      have y3' : IntKind.u64.wrap (E1 : Int) = (E1 : Int) := fin_u64 _ (by omega) (by omega)
      have y4' : IntKind.u64.wrap (D2 : Int) = (D2 : Int) := fin_u64 _ (by omega) (by omega)
      have y5' : IntKind.u64.wrap (K : Int) = (K : Int) := fin_u64 _ (by omega) (by omega)
      have y6' : IntKind.i64.wrap (E1 : Int) = (E1 : Int) := fin_i64 _ (by omega) (by omega)
      have y7' : (D1 : Int) / (g : Int) = (E1 : Int) := by rw [HP.out.2.1]; exact (Int.natCast_ediv _ _).symm
      have gz2 : ¬ (g : Int) = 0 := by omega
      obtain ⟨over, hov⟩ : ∃ over, over = E1 * K / 18446744073709551616 := ⟨_, rfl⟩
      obtain ⟨den, hdn⟩ : ∃ den, den = E1 * K % 18446744073709551616 := ⟨_, rfl⟩
      have HO := Box.mk (And.intro hov hdn)
      have hdb : den < 18446744073709551616 := by rw [hdn]; exact Nat.mod_lt _ (by omega)
      clear hov hdn
      have hE64 : E1 < 18446744073709551616 := by omega
      have hK64 : K < 18446744073709551616 := by omega
      go_quiet ((go_at_call 75; exact later_same (fun W => mul64_q W HO.out.1 HO.out.2 hE64 hK64)))
      clear y1' y2' y3' y4' y5' y6' y7' e1 e2 e3
      by_cases s1 : high = 0
      case neg =>
        have s1' := ne1 s1
        have EE : Hid (addF n1 D1 n2 D2 = (0, 0, 5)) := by show _ = _; rw [EV.out, if_neg]; rintro ⟨b1, b2⟩; exact s1 (hi_zero b1)
        go_wp2_with fail
        exact bodyPost_ret (v := .tuple #[.agg #[.int .i64 0, .int .i64 0], .int .i64 5]) (by simp [results, Tryd.results49, go_sem, r0, r1]) rfl (retF EE.out rfl (bset2 (bdrew HC.out.2.below _) (by omega) _ _))
      have s1' := ne1f s1
      by_cases s2 : low' ≤ 4611686018427387904
      case neg =>
        have EE : Hid (addF n1 D1 n2 D2 = (0, 0, 5)) := by show _ = _; rw [EV.out, if_neg]; rintro ⟨b1, b2⟩; rw [s1, Nat.zero_mul, Nat.zero_add] at b1; exact s2 b1
        go_wp2_with fail
        exact bodyPost_ret (v := .tuple #[.agg #[.int .i64 0, .int .i64 0], .int .i64 5]) (by simp [results, Tryd.results49, go_sem, r0, r1]) rfl (retF EE.out rfl (bset2 (bdrew HC.out.2.below _) (by omega) _ _))
      by_cases s3 : over = 0
      case neg =>
        have s3' := ne1 s3
        have EE : Hid (addF n1 D1 n2 D2 = (0, 0, 5)) := by show _ = _; rw [EV.out, if_neg]; rintro ⟨b1, b2⟩; exact s3 (by rw [HO.out.1]; exact Nat.div_eq_of_lt (by omega))
        go_wp2_with fail
        exact bodyPost_ret (v := .tuple #[.agg #[.int .i64 0, .int .i64 0], .int .i64 5]) (by simp [results, Tryd.results49, go_sem, r0, r1]) rfl (retF EE.out rfl (bset2 (bdrew HC.out.2.below _) (by omega) _ _))
      have s3' := ne1f s3
      have HDn : Box (E1 * K = den) := ⟨by have a1 := HO.out.1; have a2 := HO.out.2; rw [s3] at a1; exact ov_den a1 a2⟩
      by_cases s4 : den ≤ 4611686018427387904
      case neg =>
        have EE : Hid (addF n1 D1 n2 D2 = (0, 0, 5)) := by show _ = _; rw [EV.out, if_neg]; rintro ⟨b1, b2⟩; rw [HDn.out] at b2; exact s4 b2
        go_wp2_with fail
        exact bodyPost_ret (v := .tuple #[.agg #[.int .i64 0, .int .i64 0], .int .i64 5]) (by simp [results, Tryd.results49, go_sem, r0, r1]) rfl (retF EE.out rfl (bset2 (bdrew HC.out.2.below _) (by omega) _ _))
      have EE : Hid (addF n1 D1 n2 D2 = (-(low' : Int), (den : Int), 0)) := by
        show _ = _
        rw [EV.out, if_pos ⟨by rw [s1, Nat.zero_mul, Nat.zero_add]; exact s2, by rw [HDn.out]; exact s4⟩, HDn.out, s1, Nat.zero_mul, Nat.zero_add, sign_mul_T t0, if_pos (by simpa using hn)]
      go_wp2_with fail
      exact bodyPost_ret (v := .tuple #[.agg #[.int .i64 (-(low' : Int)), .int .i64 (den : Int)], .int .i64 0]) (by simp [results, Tryd.results49, go_sem, r0, r1]) rfl (retF EE.out rfl (bset2 (bdrew HC.out.2.below _) (by omega) _ _))
end
end Go.Proofs.YthoibeajhdhdhaaDoor
