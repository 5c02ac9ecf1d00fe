/- New and Valid of the reference. -/
import Derived.Test.YtinbfdfgebiaeaaDoorFb
set_option linter.unusedVariables false
set_option linter.unusedSimpArgs false
namespace Go.Proofs.YtinbfdfgebiaeaaDoor
open Go.RowKit FracM


theorem rnew_val (num den : Int) (h0 : ¬ den = 0) (h1 : ¬ num = -9223372036854775808) (h2 : ¬ den = -9223372036854775808) {g N D : Nat} (hg : g = Nat.gcd num.natAbs den.natAbs) (hN : N = num.natAbs / g) (hD : D = den.natAbs / g) :
    newF num den = if N ≤ 4611686018427387904 ∧ D ≤ 4611686018427387904 then ((if (num < 0) ≠ (den < 0) then -(N : Int) else N), (D : Int), 0) else (0, 0, 5) := by
  have hp : (if den < 0 then -num else num).natAbs = num.natAbs := by split <;> omega
  rw [new_low num den h0 h1 h2 rfl rfl, low_form (g := g) (by rw [hp]; exact hg), tdiv_sign]
  rw [hp, ← hN, ← hD]
  have hna : ((if den < 0 then -num else num).sign * (N : Int)).natAbs = N := by
    refine natAbs_sign_mul (fun hz => ?_)
    have : num = 0 := by split at hz <;> omega
    rw [hN, this]; simp
  rw [hna]
  have hv : (if den < 0 then -num else num).sign * (N : Int) = if (num < 0) ≠ (den < 0) then -(N : Int) else N := by
    rcases Int.lt_trichotomy num 0 with hn | hn | hn
    · by_cases hd : den < 0
      · rw [if_pos hd, Int.sign_eq_one_of_pos (by omega), if_neg (by simp [hn, hd])]; omega
      · rw [if_neg hd, Int.sign_eq_neg_one_of_neg hn, if_pos (by simp [hn, hd])]; omega
    · have hN0 : N = 0 := by rw [hN, hn]; simp
      rw [hN0]; simp
    · by_cases hd : den < 0
      · rw [if_pos hd, Int.sign_eq_neg_one_of_neg (by omega), if_pos (by simp [hd]; omega)]; omega
      · rw [if_neg hd, Int.sign_eq_one_of_pos hn, if_neg (by simp [hd]; omega)]; omega
  rw [hv]
  rfl

set_option maxHeartbeats 1000000 in
theorem rnew_any (num den : Int) (w : World) (l1 : -9223372036854775808 ≤ num) (u1 : num ≤ 9223372036854775807) (l2 : -9223372036854775808 ≤ den) (u2 : den ≤ 9223372036854775807) :
    Calls Tryd.prog 16 #[.int .i64 num, .int .i64 den] w (RetF (newF num den) w) := by
  by_cases h0 : den = 0
  · have E := Lib.hid (new_zero num den h0)
    have h0' : (den == 0) = true := by simp [h0]
    clear h0
    go_enter Tryd.func16, Tryd.ntmps16
    go_wp2
    refine bodyPost_ret (v := .tuple #[.agg #[.int .i64 0, .int .i64 0], .int .i64 6]) (by simp [results, Tryd.results16, go_sem]) rfl (retF E.out rfl (bel1 _ _))
  have h0' : (den == 0) = false := by simpa using h0
  by_cases h1 : num = -9223372036854775808
  · have E := Lib.hid (new_min num den h0 (.inl h1))
    have h1' : 9223372036854775807 < num.natAbs := by omega
    clear h1
    go_enter Tryd.func16, Tryd.ntmps16
    go_wp2_with (go_at_call 33; refine (size_any _ _ (by omega) (by omega)).mono ?_; rintro e w' ⟨rfl, rfl⟩)
    refine bodyPost_ret (v := .tuple #[.agg #[.int .i64 0, .int .i64 0], .int .i64 5]) (by simp [results, Tryd.results16, go_sem]) rfl (retF E.out rfl (bel1 _ _))
  by_cases h2 : den = -9223372036854775808
  · have E := Lib.hid (new_min num den h0 (.inr h2))
    have h1' : num.natAbs ≤ 9223372036854775807 := by omega
    have h2' : 9223372036854775807 < den.natAbs := by omega
    clear h2
    go_enter Tryd.func16, Tryd.ntmps16
    go_wp2_with (go_at_call 33; refine (size_any _ _ (by omega) (by omega)).mono ?_; rintro e w' ⟨rfl, rfl⟩)
    refine bodyPost_ret (v := .tuple #[.agg #[.int .i64 0, .int .i64 0], .int .i64 5]) (by simp [results, Tryd.results16, go_sem]) rfl (retF E.out rfl (bel1 _ _))
  obtain ⟨g, hg⟩ : ∃ g, g = Nat.gcd num.natAbs den.natAbs := ⟨_, rfl⟩
  obtain ⟨N, hN⟩ : ∃ N, N = num.natAbs / g := ⟨_, rfl⟩
  obtain ⟨D, hD⟩ : ∃ D, D = den.natAbs / g := ⟨_, rfl⟩
  have g1 : 1 ≤ g := by rw [hg]; exact Nat.gcd_pos_of_pos_right _ (by omega)
  have g2 : g ≤ den.natAbs := by rw [hg]; exact Nat.gcd_le_right _ (by omega)
  have e := rnew_val num den h0 h1 h2 hg hN hD
  have q1 : num.natAbs ≤ 9223372036854775807 := by omega
  have q2 : den.natAbs ≤ 9223372036854775807 := by omega
  have n1 : N ≤ 9223372036854775807 := by rw [hN]; exact Nat.le_trans (Nat.div_le_self _ _) q1
  have n2 : D ≤ 9223372036854775807 := by rw [hD]; exact Nat.le_trans (Nat.div_le_self _ _) q2
  have HG : Hid (g = Nat.gcd num.natAbs den.natAbs) := hg
  have HN : Hid ((num.natAbs : Int) / (g : Int) = N) := by rw [hN]; exact (Int.natCast_ediv _ _).symm
  have HD : Hid ((den.natAbs : Int) / (g : Int) = D) := by rw [hD]; exact (Int.natCast_ediv _ _).symm
  have E := Lib.hid e
  clear hg hN hD e h0 h1 h2
  by_cases t1 : 4611686018427387904 < N
  · have EE : Hid (newF num den = (0, 0, 5)) := by show newF num den = _; rw [E.out, if_neg (by omega)]
    go_enter Tryd.func16, Tryd.ntmps16
    go_wp2_with (first
      | (go_at_call 33; refine (size_any _ _ (by omega) (by omega)).mono ?_; rintro e w' ⟨rfl, rfl⟩)
      | (go_at_call 34; refine (common_any _ _ _ (by omega) (by omega)).mono ?_; rintro e w' ⟨rfl, rfl⟩; rw [← HG.out]; have y1 := HN.out; have y2 := HD.out))
    refine bodyPost_ret (v := .tuple #[.agg #[.int .i64 0, .int .i64 0], .int .i64 5]) (by simp [results, Tryd.results16, go_sem]) rfl (retF EE.out rfl (bel1 _ _))
  by_cases t2 : 4611686018427387904 < D
  · have EE : Hid (newF num den = (0, 0, 5)) := by show newF num den = _; rw [E.out, if_neg (by omega)]
    go_enter Tryd.func16, Tryd.ntmps16
    go_wp2_with (first
      | (go_at_call 33; refine (size_any _ _ (by omega) (by omega)).mono ?_; rintro e w' ⟨rfl, rfl⟩)
      | (go_at_call 34; refine (common_any _ _ _ (by omega) (by omega)).mono ?_; rintro e w' ⟨rfl, rfl⟩; rw [← HG.out]; have y1 := HN.out; have y2 := HD.out))
    refine bodyPost_ret (v := .tuple #[.agg #[.int .i64 0, .int .i64 0], .int .i64 5]) (by simp [results, Tryd.results16, go_sem]) rfl (retF EE.out rfl (bel1 _ _))
  by_cases a1 : num < 0 <;> by_cases a2 : den < 0
  · have EE : Hid (newF num den = ((N : Int), (D : Int), 0)) := by show newF num den = _; rw [E.out, if_pos (by omega), if_neg (by simp [a1, a2])]
    have c1 : decide (num < 0) = true := by simpa using a1
    have c2 : decide (den < 0) = true := by simpa using a2
    go_enter Tryd.func16, Tryd.ntmps16
    go_wp2_with (first
      | (go_at_call 33; refine (size_any _ _ (by omega) (by omega)).mono ?_; rintro e w' ⟨rfl, rfl⟩)
      | (go_at_call 34; refine (common_any _ _ _ (by omega) (by omega)).mono ?_; rintro e w' ⟨rfl, rfl⟩; rw [← HG.out]; have y1 := HN.out; have y2 := HD.out))
    exact bodyPost_ret (v := .tuple #[.agg #[.int .i64 (N : Int), .int .i64 D], .int .i64 0]) (by simp [results, Tryd.results16, go_sem]) rfl (retF EE.out rfl (bel1 _ _))
  · have EE : Hid (newF num den = ((-(N : Int)), (D : Int), 0)) := by show newF num den = _; rw [E.out, if_pos (by omega), if_pos (by simp [a1, a2])]
    have c1 : decide (num < 0) = true := by simpa using a1
    have c2 : decide (den < 0) = false := by simpa using a2
    go_enter Tryd.func16, Tryd.ntmps16
    go_wp2_with (first
      | (go_at_call 33; refine (size_any _ _ (by omega) (by omega)).mono ?_; rintro e w' ⟨rfl, rfl⟩)
      | (go_at_call 34; refine (common_any _ _ _ (by omega) (by omega)).mono ?_; rintro e w' ⟨rfl, rfl⟩; rw [← HG.out]; have y1 := HN.out; have y2 := HD.out))
    exact bodyPost_ret (v := .tuple #[.agg #[.int .i64 (-(N : Int)), .int .i64 D], .int .i64 0]) (by simp [results, Tryd.results16, go_sem]) rfl (retF EE.out rfl (bel1 _ _))
  · have EE : Hid (newF num den = ((-(N : Int)), (D : Int), 0)) := by show newF num den = _; rw [E.out, if_pos (by omega), if_pos (by simp [a1, a2])]
    have c1 : decide (num < 0) = false := by simpa using a1
    have c2 : decide (den < 0) = true := by simpa using a2
    go_enter Tryd.func16, Tryd.ntmps16
    go_wp2_with (first
      | (go_at_call 33; refine (size_any _ _ (by omega) (by omega)).mono ?_; rintro e w' ⟨rfl, rfl⟩)
      | (go_at_call 34; refine (common_any _ _ _ (by omega) (by omega)).mono ?_; rintro e w' ⟨rfl, rfl⟩; rw [← HG.out]; have y1 := HN.out; have y2 := HD.out))
    exact bodyPost_ret (v := .tuple #[.agg #[.int .i64 (-(N : Int)), .int .i64 D], .int .i64 0]) (by simp [results, Tryd.results16, go_sem]) rfl (retF EE.out rfl (bel1 _ _))
  · have EE : Hid (newF num den = ((N : Int), (D : Int), 0)) := by show newF num den = _; rw [E.out, if_pos (by omega), if_neg (by simp [a1, a2])]
    have c1 : decide (num < 0) = false := by simpa using a1
    have c2 : decide (den < 0) = false := by simpa using a2
    go_enter Tryd.func16, Tryd.ntmps16
    go_wp2_with (first
      | (go_at_call 33; refine (size_any _ _ (by omega) (by omega)).mono ?_; rintro e w' ⟨rfl, rfl⟩)
      | (go_at_call 34; refine (common_any _ _ _ (by omega) (by omega)).mono ?_; rintro e w' ⟨rfl, rfl⟩; rw [← HG.out]; have y1 := HN.out; have y2 := HD.out))
    exact bodyPost_ret (v := .tuple #[.agg #[.int .i64 (N : Int), .int .i64 D], .int .i64 0]) (by simp [results, Tryd.results16, go_sem]) rfl (retF EE.out rfl (bel1 _ _))
theorem newF_bd {num den : Int} : (newF num den).1.natAbs ≤ 4611686018427387904 ∧ 0 ≤ (newF num den).2.1 ∧ (newF num den).2.1 ≤ 4611686018427387904 ∧ 0 ≤ (newF num den).2.2 ∧ (newF num den).2.2 ≤ 6 := by
  rcases newF_err num den with h | h | ⟨n, d, h⟩
  · rw [h]; decide
  · rw [h]; decide
  · have := newF_ok h
    obtain ⟨h1, h2, h3, _⟩ := valid_iff.1 this
    unfold M at *
    rw [h]; simp only; omega
theorem rvalid_val {n d : Int} (hd : 1 ≤ d) : validB n d = ((newF n d).2.2 == 0 && ((n == (newF n d).1) && (d == (newF n d).2.1))) := by
  rw [Bool.eq_iff_iff, newF_self]
  obtain ⟨a, b, c⟩ := newF n d
  simp
  constructor
  · rintro ⟨rfl, rfl, rfl⟩; simp
  · rintro ⟨rfl, rfl, rfl⟩; simp
end Go.Proofs.YtinbfdfgebiaeaaDoor
