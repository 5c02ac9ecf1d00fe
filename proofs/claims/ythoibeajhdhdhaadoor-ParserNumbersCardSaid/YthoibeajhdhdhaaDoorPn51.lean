/- Contracts, packed: Fq. -/
import Derived.Test.YthoibeajhdhdhaaDoorPn50
set_option linter.unusedVariables false
set_option linter.unusedSimpArgs false
namespace Go.Proofs.YthoibeajhdhdhaaDoor
section
open Go.RowKit FracM

theorem mul_no {n1 d1 n2 d2 : Int} (h : validB n1 d1 = false ∨ validB n2 d2 = false) : mulF n1 d1 n2 d2 = (0, 0, 1) := by
  unfold mulF; rcases h with h | h <;> simp [h]
theorem mul_val {n1 n2 : Int} {D1 D2 g h : Nat} {A C : Int} {D B : Nat} (v1 : validB n1 D1 = true) (v2 : validB n2 D2 = true) (hg : g = Nat.gcd n1.natAbs D2) (hh : h = Nat.gcd n2.natAbs D1)
    (hA : A = n1.tdiv g) (hC : C = n2.tdiv h) (hD : D = D1 / h) (hB : B = D2 / g) :
    mulF n1 D1 n2 D2 = if (A * C).natAbs ≤ 4611686018427387904 ∧ D * B ≤ 4611686018427387904 then (A * C, ((D * B : Nat) : Int), 0) else (0, 0, 5) := by
  obtain ⟨a1, a2, a3, a4⟩ := valid_iff.1 v1
  obtain ⟨b1, b2, b3, b4⟩ := valid_iff.1 v2
  rw [Int.natAbs_natCast] at a4 b4
  rw [mulF_v v1 v2, ← Int.natCast_mul, Int.natAbs_natCast]
  rw [prog_mul (g := g) (h := h) (by omega) (by omega) a4 b4 hg hh]
  have eA : n1.natAbs / g = A.natAbs := by rw [hA, Int.natAbs_tdiv]; rfl
  have eC : n2.natAbs / h = C.natAbs := by rw [hC, Int.natAbs_tdiv]; rfl
  have eS : (n1 * n2).sign * ((A.natAbs * C.natAbs : Nat) : Int) = A * C := by
    rw [hA, hC, tdiv_sign, tdiv_sign, Int.sign_mul]
    have z1 : (n1.sign * ((n1.natAbs / g : Nat) : Int)).natAbs = n1.natAbs / g := natAbs_sign_mul (fun h => by simp [h])
    have z2 : (n2.sign * ((n2.natAbs / h : Nat) : Int)).natAbs = n2.natAbs / h := natAbs_sign_mul (fun h => by simp [h])
    rw [z1, z2, Int.natCast_mul]
    simp only [Int.mul_assoc, Int.mul_left_comm]
  rw [eA, eC, eS, ← hD, ← hB, Int.natAbs_mul]
  rfl
/-- behind the first product: it lies in a block of its own -/
def ProCut (w : World) (n1 d1 n2 d2 : Int) (B0 : Nat) (c0 : Array Value) (hi lo : Nat) (ng : Bool) (s : Value) (wx : World) : Prop :=
  ∃ B, s = .pointer (some ⟨B, 0, none⟩) ∧ B0 < B ∧ Blk wx B 111 #[.int .u64 hi, .int .u64 lo, .bool ng] ∧ Bx3 w wx n1 d1 n2 d2 ∧ Blk wx B0 111 c0
theorem Blk.far3 {W : World} {g B : Nat} {cs : Array Value} {t : TypeId} (hb : Blk W g t cs) (hg : g < B) (u0 u1 u2 : Value) : Blk (((W.setCell ⟨B, 0, none⟩ u0).setCell ⟨B, 1, none⟩ u1).setCell ⟨B, 2, none⟩ u2) g t cs := ((hb.far (by simp only; omega) _).far (by simp only; omega) _).far (by simp only; omega) _
theorem mul_bad1 (n1 d1 n2 d2 : Int) (w : World) (l1 : -9223372036854775808 ≤ n1) (u1 : n1 ≤ 9223372036854775807) (l2 : -9223372036854775808 ≤ d1) (u2 : d1 ≤ 9223372036854775807) (l3 : -9223372036854775808 ≤ n2) (u3 : n2 ≤ 9223372036854775807) (l4 : -9223372036854775808 ≤ d2) (u4 : d2 ≤ 9223372036854775807) (v1 : validB n1 d1 = false)  :
    Calls Tryd.prog 50 #[.agg #[.int .i64 n1, .int .i64 d1], .agg #[.int .i64 n2, .int .i64 d2]] w (RetF (mulF n1 d1 n2 d2) w) := by
  have E := Lib.hid (mul_no (n1 := n1) (d1 := d1) (d2 := d2) (n2 := n2) (.inl v1))
  go_enter Tryd.func50, Tryd.ntmps50
  go_wp2_with fail
  refine (valid_any n1 d1 _ (by omega) (by omega) (by omega) (by omega)).mono ?_
  rintro e w1 ⟨rfl, hb1⟩
  rw [v1]
  have HB1 : Hid (Bx3 w w1 n1 d1 n2 d2) := (Bx3.start w n1 d1 n2 d2).next hb1
  clear hb1
  obtain ⟨p0, p1⟩ := HB1.out.b0.c2
  obtain ⟨q0, q1⟩ := HB1.out.b1.c2
  obtain ⟨r0, r1⟩ := HB1.out.b2.c2
  have rf := HB1.out.b2.frozen
  have hz := HB1.out.b2.lt
  go_wp2_with fail
  exact bodyPost_ret (v := .tuple #[.agg #[.int .i64 0, .int .i64 0], .int .i64 1]) (by simp [results, Tryd.results50, go_sem, r0, r1]) rfl (retF E.out rfl (bset2 HB1.out.below (by omega) _ _))
theorem mul_bad2 (n1 d1 n2 d2 : Int) (w : World) (l1 : -9223372036854775808 ≤ n1) (u1 : n1 ≤ 9223372036854775807) (l2 : -9223372036854775808 ≤ d1) (u2 : d1 ≤ 9223372036854775807) (l3 : -9223372036854775808 ≤ n2) (u3 : n2 ≤ 9223372036854775807) (l4 : -9223372036854775808 ≤ d2) (u4 : d2 ≤ 9223372036854775807) (v1 : validB n1 d1 = true) (v2 : validB n2 d2 = false) :
    Calls Tryd.prog 50 #[.agg #[.int .i64 n1, .int .i64 d1], .agg #[.int .i64 n2, .int .i64 d2]] w (RetF (mulF n1 d1 n2 d2) w) := by
  have E := Lib.hid (mul_no (n1 := n1) (d1 := d1) (d2 := d2) (n2 := n2) (.inr v2))
  go_enter Tryd.func50, Tryd.ntmps50
  go_wp2_with fail
  refine (valid_any n1 d1 _ (by omega) (by omega) (by omega) (by omega)).mono ?_
  rintro e w1 ⟨rfl, hb1⟩
  rw [v1]
  have HB1 : Hid (Bx3 w w1 n1 d1 n2 d2) := (Bx3.start w n1 d1 n2 d2).next hb1
  clear hb1
  obtain ⟨p0, p1⟩ := HB1.out.b0.c2
  obtain ⟨q0, q1⟩ := HB1.out.b1.c2
  obtain ⟨r0, r1⟩ := HB1.out.b2.c2
  have rf := HB1.out.b2.frozen
  go_wp2_with fail
  refine (valid_any n2 d2 _ (by omega) (by omega) (by omega) (by omega)).mono ?_
  rintro e w2 ⟨rfl, hb2⟩
  rw [v2]
  have HB2 : Hid (Bx3 w w2 n1 d1 n2 d2) := HB1.out.next hb2
  clear hb2 p0 p1 q0 q1 r0 r1 rf HB1
  obtain ⟨p0, p1⟩ := HB2.out.b0.c2
  obtain ⟨q0, q1⟩ := HB2.out.b1.c2
  obtain ⟨r0, r1⟩ := HB2.out.b2.c2
  have rf := HB2.out.b2.frozen
  have hz := HB2.out.b2.lt
  go_wp2_with fail
  exact bodyPost_ret (v := .tuple #[.agg #[.int .i64 0, .int .i64 0], .int .i64 1]) (by simp [results, Tryd.results50, go_sem, r0, r1]) rfl (retF E.out rfl (bset2 HB2.out.below (by omega) _ _))
set_option maxHeartbeats 4000000 in
set_option maxRecDepth 100000 in
theorem mul_good (n1 n2 : Int) (D1 D2 : Nat) (w : World) (v1 : validB n1 (D1 : Int) = true) (v2 : validB n2 (D2 : Int) = true) :
    Calls Tryd.prog 50 #[.agg #[.int .i64 n1, .int .i64 (D1 : Int)], .agg #[.int .i64 n2, .int .i64 (D2 : Int)]] w (RetF (mulF n1 D1 n2 D2) w) := by
  obtain ⟨x1, x2, x3⟩ := valid_bd v1
  obtain ⟨y1, y2, y3⟩ := valid_bd v2
  obtain ⟨g, hg⟩ : ∃ g, g = Nat.gcd n1.natAbs D2 := ⟨_, rfl⟩
  obtain ⟨h, hh⟩ : ∃ h, h = Nat.gcd n2.natAbs D1 := ⟨_, rfl⟩
  have g1 : 1 ≤ g := by rw [hg]; exact Nat.gcd_pos_of_pos_right _ (by omega)
  have h1 : 1 ≤ h := by rw [hh]; exact Nat.gcd_pos_of_pos_right _ (by omega)
  have g2 : g ≤ D2 := by rw [hg]; exact Nat.gcd_le_right _ (by omega)
  have h2 : h ≤ D1 := by rw [hh]; exact Nat.gcd_le_right _ (by omega)
  obtain ⟨A, hA⟩ : ∃ A, A = n1.tdiv g := ⟨_, rfl⟩
  obtain ⟨C, hC⟩ : ∃ C, C = n2.tdiv h := ⟨_, rfl⟩
  obtain ⟨D, hD⟩ : ∃ D, D = D1 / h := ⟨_, rfl⟩
  obtain ⟨B, hB⟩ : ∃ B, B = D2 / g := ⟨_, rfl⟩
  have a1 : A.natAbs ≤ n1.natAbs := by rw [hA, Int.natAbs_tdiv]; exact Nat.div_le_self _ _
  have a2 : C.natAbs ≤ n2.natAbs := by rw [hC, Int.natAbs_tdiv]; exact Nat.div_le_self _ _
  have a3 : D ≤ D1 := by rw [hD]; exact Nat.div_le_self _ _
  have a4 : B ≤ D2 := by rw [hB]; exact Nat.div_le_self _ _
  have EV := Box.mk (mul_val v1 v2 hg hh hA hC hD hB)
  have Z1 := W2.mk' (A * C)
  have Z2 := W2.mk' ((D : Int) * (B : Int))
  generalize hiN (A * C) = hi at *
  generalize loN (A * C) = lo at *
  generalize hiN ((D : Int) * (B : Int)) = hi2 at *
  generalize loN ((D : Int) * (B : Int)) = lo2 at *
  generalize hn : decide (A * C < 0) = ng at *
  have hn2 : decide ((D : Int) * (B : Int) < 0) = false := by rw [← Int.natCast_mul]; exact decide_eq_false (Int.not_lt.2 (Int.natCast_nonneg _))
  rw [hn2] at Z2
  have HT1 := Box.mk Z1.1
  have HT2 : Box (hi2 * 18446744073709551616 + lo2 = D * B) := ⟨by have := Z2.1; rw [← Int.natCast_mul, Int.natAbs_natCast] at this; exact this⟩
  have hlo := Z1.2.1
  have hlo2 := Z2.2.1
  have HZ1 := Box.mk Z1; have HZ2 := Box.mk Z2
  have HN := Box.mk hn
  clear Z1 Z2 hn hn2
  have k1 : -9223372036854775807 ≤ A ∧ A ≤ 9223372036854775807 := by omega
  have k2 : -9223372036854775807 ≤ C ∧ C ≤ 9223372036854775807 := by omega
  have k3 : -9223372036854775807 ≤ (D : Int) ∧ (D : Int) ≤ 9223372036854775807 := by omega
  have k4 : -9223372036854775807 ≤ (B : Int) ∧ (B : Int) ≤ 9223372036854775807 := by omega
  have HG := Box.mk (And.intro hg hh)
  have c1 : IntKind.i64.wrap (n1.tdiv (g : Int)) = A := by rw [← hA]; exact fin_i64 _ (by omega) (by omega)
  have c2 : IntKind.i64.wrap (n2.tdiv (h : Int)) = C := by rw [← hC]; exact fin_i64 _ (by omega) (by omega)
  have c3 : (D1 : Int) / (h : Int) = (D : Int) := by rw [hD]; exact (Int.natCast_ediv _ _).symm
  have c4 : (D2 : Int) / (g : Int) = (B : Int) := by rw [hB]; exact (Int.natCast_ediv _ _).symm
  have c5 : IntKind.i64.wrap ((D1 : Int).tdiv (h : Int)) = (D : Int) := by rw [Int.tdiv_eq_ediv_of_nonneg (by omega), c3]; exact fin_i64 _ (by omega) (by omega)
  have c6 : IntKind.i64.wrap ((D2 : Int).tdiv (g : Int)) = (B : Int) := by rw [Int.tdiv_eq_ediv_of_nonneg (by omega), c4]; exact fin_i64 _ (by omega) (by omega)
  have c7 : IntKind.i64.wrap (D : Int) = (D : Int) := fin_i64 _ (by omega) (by omega)
  have c8 : IntKind.i64.wrap (B : Int) = (B : Int) := fin_i64 _ (by omega) (by omega)
  clear hg hh hA hC hD hB
  have z1 : ((g : Int) == 0) = false := by simp; omega
  have z2 : ¬ (g : Int) = 0 := by omega
  have z3 : (1 : Int) ≤ (g : Int) := by omega
  have z4 : ((h : Int) == 0) = false := by simp; omega
  have z5 : ¬ (h : Int) = 0 := by omega
  have z6 : (1 : Int) ≤ (h : Int) := by omega
  have z9 : ¬ g = 0 := by omega
  have z10 : ¬ h = 0 := by omega
  have z7 : (0 : Int) ≤ (D1 : Int) := by omega
  have z8 : (0 : Int) ≤ (D2 : Int) := by omega
  go_enter Tryd.func50, Tryd.ntmps50
  go_wp2_with fail
  refine (valid_any n1 _ _ (by omega) (by omega) (by omega) (by omega)).mono ?_
  rintro e w1 ⟨rfl, hb1⟩
  rw [v1]
  have HB1 : Hid (Bx3 w w1 n1 (D1 : Int) n2 (D2 : Int)) := (Bx3.start w n1 _ n2 _).next hb1
  clear hb1
  obtain ⟨p0, p1⟩ := HB1.out.b0.c2
  obtain ⟨q0, q1⟩ := HB1.out.b1.c2
  obtain ⟨r0, r1⟩ := HB1.out.b2.c2
  have rf := HB1.out.b2.frozen
  go_wp2_with fail
  refine (valid_any n2 _ _ (by omega) (by omega) (by omega) (by omega)).mono ?_
  rintro e w2 ⟨rfl, hb2⟩
  rw [v2]
  have HB2 : Hid (Bx3 w w2 n1 (D1 : Int) n2 (D2 : Int)) := HB1.out.next hb2
  clear hb2 p0 p1 q0 q1 r0 r1 rf HB1
  obtain ⟨p0, p1⟩ := HB2.out.b0.c2
  obtain ⟨q0, q1⟩ := HB2.out.b1.c2
  obtain ⟨r0, r1⟩ := HB2.out.b2.c2
  have rf := HB2.out.b2.frozen
  have hz := HB2.out.b2.lt
  go_wp2_with fail
  go_quiet (first | (go_at_call 31; exact Calls.quiet_of_same (abs_same _ _ (by omega) (by omega))) | (go_at_call 30; exact Calls.quiet_of (gcd_q _ _ _ (by omega) (by omega))))
  rw [← HG.out.1, ← HG.out.2]
  go_wp2_with fail
  have hz2 := HB2.out.b2.lt
  go_cut [8] (fun s wx => SumCut w n1 (D1 : Int) n2 (D2 : Int) hi lo ng s wx)
  case first =>
    go_region_held3 (fun w' => w'.cell? ⟨w.heap.size, 0, none⟩ = some (.int .i64 n1) ∧ w'.cell? ⟨w.heap.size, 1, none⟩ = some (.int .i64 (D1 : Int)) ∧ w'.cell? ⟨w.heap.size + 1, 0, none⟩ = some (.int .i64 n2) ∧ w'.cell? ⟨w.heap.size + 1, 1, none⟩ = some (.int .i64 (D2 : Int)))
      (first | exact HB2.out.toBx2.cellS | exact HB5.out.toBx2.cellS | exact (HB5.out.toBx2.next (bel1 _ _)).cellS | exact (HB5.out.far3 (by omega) _ _ _).toBx2.cellS | exact ((HB2.out.toBx2.next (bel1 _ _)).next (below_drewN _ _)).cellS | exact (HB2.out.toBx2.next (bel1 _ _)).cellS | go_keep)
      (first
        | (go_at_call 76; refine (product_w _ HZ1.out k1.1 k1.2 k2.1 k2.2).mono ?_; rintro e w5 ⟨rfl, hb5⟩; have HN5 : Hid (Blk w5 w2.heap.size 111 #[.int .u64 0, .int .u64 0, .bool false]) := ((Blk.new _ _ _).drewN _).below hb5; have HB5 : Hid (Bx3 w w5 n1 (D1 : Int) n2 (D2 : Int)) := ((HB2.out.next (bel1 _ _)).next (below_drewN _ _)).next hb5;  obtain ⟨m0, m1, m2⟩ := HN5.out.c3; have mf := HN5.out.frozen; clear hb5)
        | (go_at_call 76; refine (product_w _ HZ1.out k1.1 k1.2 k2.1 k2.2).mono ?_; rintro e w5 ⟨rfl, hb5⟩; have HB5 : Hid (Bx3 w w5 n1 (D1 : Int) n2 (D2 : Int)) := (HB2.out.next (below_drewN _ _)).next hb5;  have hz5 := HB5.out.b2.lt; clear hb5))
    all_goals
      go_wp2_with fail
      go_meet
      first
        | exact ⟨_, rfl, hz2, HN5.out.put3 _ _ _, HB5.out.far3 hz2 _ _ _⟩
        | exact ⟨_, rfl, hz5, Blk.new _ _ _, HB5.out.next (bel1 _ _)⟩
  case rest =>
    obtain ⟨B1, rfl, hB1, hblk, hbx⟩ := hcut
    rename_i wc
    have HC1 := Lib.hid hbx; have HP1 := Lib.hid hblk
    clear hblk hbx HB2 p0 p1 q0 q1 r0 r1 rf
    obtain ⟨p0, p1⟩ := HC1.out.b0.c2
    obtain ⟨q0, q1⟩ := HC1.out.b1.c2
    have hzc := HC1.out.b2.lt
    have hB1l := HP1.out.lt
    go_wp2_with fail
    go_cut [9] (fun s wx => ProCut w n1 (D1 : Int) n2 (D2 : Int) B1 #[.int .u64 hi, .int .u64 lo, .bool ng] hi2 lo2 false s wx)
    case first =>
      go_region_held3 (fun w' => w'.cell? ⟨w.heap.size, 0, none⟩ = some (.int .i64 n1) ∧ w'.cell? ⟨w.heap.size, 1, none⟩ = some (.int .i64 (D1 : Int)) ∧ w'.cell? ⟨w.heap.size + 1, 0, none⟩ = some (.int .i64 n2) ∧ w'.cell? ⟨w.heap.size + 1, 1, none⟩ = some (.int .i64 (D2 : Int)))
        (first | exact HC1.out.toBx2.cellS | exact HB5.out.toBx2.cellS | exact (HB5.out.toBx2.next (bel1 _ _)).cellS | exact (HB5.out.far3 (by omega) _ _ _).toBx2.cellS | exact ((HC1.out.toBx2.next (bel1 _ _)).next (below_drewN _ _)).cellS | exact (HC1.out.toBx2.next (bel1 _ _)).cellS | go_keep)
        (first
          | (go_at_call 76; refine (product_w _ HZ2.out k3.1 k3.2 k4.1 k4.2).mono ?_; rintro e w5 ⟨rfl, hb5⟩; have HN5 : Hid (Blk w5 wc.heap.size 111 #[.int .u64 0, .int .u64 0, .bool false]) := ((Blk.new _ _ _).drewN _).below hb5; have HB5 : Hid (Bx3 w w5 n1 (D1 : Int) n2 (D2 : Int)) := ((HC1.out.next (bel1 _ _)).next (below_drewN _ _)).next hb5; have HP5 : Hid (Blk w5 B1 111 #[.int .u64 hi, .int .u64 lo, .bool ng]) := ((HP1.out.alloc _).drewN _).below hb5; obtain ⟨m0, m1, m2⟩ := HN5.out.c3; have mf := HN5.out.frozen; clear hb5)
          | (go_at_call 76; refine (product_w _ HZ2.out k3.1 k3.2 k4.1 k4.2).mono ?_; rintro e w5 ⟨rfl, hb5⟩; have HB5 : Hid (Bx3 w w5 n1 (D1 : Int) n2 (D2 : Int)) := (HC1.out.next (below_drewN _ _)).next hb5; have HP5 : Hid (Blk w5 B1 111 #[.int .u64 hi, .int .u64 lo, .bool ng]) := (HP1.out.drewN _).below hb5; have hz6 := HP5.out.lt; have hz5 := HB5.out.b2.lt; clear hb5))
      all_goals
        go_wp2_with fail
        go_meet
        first
          | exact ⟨_, rfl, hB1l, HN5.out.put3 _ _ _, HB5.out.far3 hzc _ _ _, HP5.out.far3 hB1l _ _ _⟩
          | exact ⟨_, rfl, hz6, Blk.new _ _ _, HB5.out.next (bel1 _ _), HP5.out.alloc _⟩
    case rest =>
      obtain ⟨B2, rfl, hB2, hblk2, hbx2, hblk1⟩ := hcut
      rename_i wd
      clear c1 c2 c3 c4 c5 c6 c7 c8 z2 z3 z5 z6 z7 z8 z9 z10 p0 p1 q0 q1 HC1 HP1
      have HC2 := Lib.hid hbx2; have HQ1 := Lib.hid hblk1; have HQ2 := Lib.hid hblk2
      clear hbx2 hblk1 hblk2
      obtain ⟨m0, m1, m2⟩ := HQ1.out.c3
      obtain ⟨o0, o1, o2⟩ := HQ2.out.c3
      obtain ⟨r0, r1⟩ := HC2.out.b2.c2
      have rf := HC2.out.b2.frozen
      by_cases s1 : hi = 0
      case neg =>
        have s1' := ne1 s1
        have EE : Hid (mulF n1 D1 n2 D2 = (0, 0, 5)) := by show _ = _; rw [EV.out, if_neg]; rintro ⟨b1, b2⟩; rw [← HT1.out] at b1; exact s1 (hi_zero b1)
        go_wp2_with fail
        exact bodyPost_ret (v := .tuple #[.agg #[.int .i64 0, .int .i64 0], .int .i64 5]) (by simp [results, Tryd.results50, go_sem, r0, r1]) rfl (retF EE.out rfl (bset2 HC2.out.below (by omega) _ _))
      have s1' := ne1f s1
      by_cases s2 : lo ≤ 4611686018427387904
      case neg =>
        have EE : Hid (mulF n1 D1 n2 D2 = (0, 0, 5)) := by show _ = _; rw [EV.out, if_neg]; rintro ⟨b1, b2⟩; rw [← HT1.out, s1, Nat.zero_mul, Nat.zero_add] at b1; exact s2 b1
        go_wp2_with fail
        exact bodyPost_ret (v := .tuple #[.agg #[.int .i64 0, .int .i64 0], .int .i64 5]) (by simp [results, Tryd.results50, go_sem, r0, r1]) rfl (retF EE.out rfl (bset2 HC2.out.below (by omega) _ _))
      by_cases s3 : hi2 = 0
      case neg =>
        have s3' := ne1 s3
        have EE : Hid (mulF n1 D1 n2 D2 = (0, 0, 5)) := by show _ = _; rw [EV.out, if_neg]; rintro ⟨b1, b2⟩; rw [← HT2.out] at b2; exact s3 (hi_zero b2)
        go_wp2_with fail
        exact bodyPost_ret (v := .tuple #[.agg #[.int .i64 0, .int .i64 0], .int .i64 5]) (by simp [results, Tryd.results50, go_sem, r0, r1]) rfl (retF EE.out rfl (bset2 HC2.out.below (by omega) _ _))
      have s3' := ne1f s3
      by_cases s4 : lo2 ≤ 4611686018427387904
      case neg =>
        have EE : Hid (mulF n1 D1 n2 D2 = (0, 0, 5)) := by show _ = _; rw [EV.out, if_neg]; rintro ⟨b1, b2⟩; rw [← HT2.out, s3, Nat.zero_mul, Nat.zero_add] at b2; exact s4 b2
        go_wp2_with fail
        exact bodyPost_ret (v := .tuple #[.agg #[.int .i64 0, .int .i64 0], .int .i64 5]) (by simp [results, Tryd.results50, go_sem, r0, r1]) rfl (retF EE.out rfl (bset2 HC2.out.below (by omega) _ _))
      have HV : Box ((A * C).natAbs = lo ∧ D * B = lo2) := ⟨⟨by rw [← HT1.out, s1, Nat.zero_mul, Nat.zero_add], by rw [← HT2.out, s3, Nat.zero_mul, Nat.zero_add]⟩⟩
      rcases ng with _ | _
      · have EE : Hid (mulF n1 D1 n2 D2 = ((lo : Int), (lo2 : Int), 0)) := by
          show _ = _
          rw [EV.out, if_pos ⟨by rw [HV.out.1]; exact s2, by rw [HV.out.2]; exact s4⟩, HV.out.2]
          have h0 : 0 ≤ A * C := by simpa using HN.out
          rw [← HV.out.1, Int.natAbs_of_nonneg h0]
        go_wp2_with fail
        exact bodyPost_ret (v := .tuple #[.agg #[.int .i64 (lo : Int), .int .i64 (lo2 : Int)], .int .i64 0]) (by simp [results, Tryd.results50, go_sem, r0, r1]) rfl (retF EE.out rfl (bset2 HC2.out.below (by omega) _ _))
      · have EE : Hid (mulF n1 D1 n2 D2 = (-(lo : Int), (lo2 : Int), 0)) := by
          show _ = _
          rw [EV.out, if_pos ⟨by rw [HV.out.1]; exact s2, by rw [HV.out.2]; exact s4⟩, HV.out.2]
          have h0 : A * C < 0 := by simpa using HN.out
          rw [← HV.out.1, Int.ofNat_natAbs_of_nonpos (by omega), Int.neg_neg]
        go_wp2_with fail
        exact bodyPost_ret (v := .tuple #[.agg #[.int .i64 (-(lo : Int)), .int .i64 (lo2 : Int)], .int .i64 0]) (by simp [results, Tryd.results50, go_sem, r0, r1]) rfl (retF EE.out rfl (bset2 HC2.out.below (by omega) _ _))

theorem mul_any (n1 d1 n2 d2 : Int) (w : World) (l1 : -9223372036854775808 ≤ n1) (u1 : n1 ≤ 9223372036854775807) (l2 : -9223372036854775808 ≤ d1) (u2 : d1 ≤ 9223372036854775807) (l3 : -9223372036854775808 ≤ n2) (u3 : n2 ≤ 9223372036854775807) (l4 : -9223372036854775808 ≤ d2) (u4 : d2 ≤ 9223372036854775807) :
    Calls Tryd.prog 50 #[.agg #[.int .i64 n1, .int .i64 d1], .agg #[.int .i64 n2, .int .i64 d2]] w (RetF (mulF n1 d1 n2 d2) w) := by
  by_cases v1 : validB n1 d1 = true
  case neg => exact mul_bad1 n1 d1 n2 d2 w l1 u1 l2 u2 l3 u3 l4 u4 (by simpa using v1)
  by_cases v2 : validB n2 d2 = true
  case neg => exact mul_bad2 n1 d1 n2 d2 w l1 u1 l2 u2 l3 u3 l4 u4 v1 (by simpa using v2)
  have a1 := (valid_bd v1).2.1
  have a2 := (valid_bd v2).2.1
  obtain ⟨D1, rfl⟩ : ∃ D1 : Nat, d1 = (D1 : Int) := ⟨d1.toNat, by omega⟩
  obtain ⟨D2, rfl⟩ : ∃ D2 : Nat, d2 = (D2 : Int) := ⟨d2.toNat, by omega⟩
  exact mul_good n1 n2 D1 D2 w v1 v2
end
end Go.Proofs.YthoibeajhdhdhaaDoor
