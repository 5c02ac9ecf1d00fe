/- Contracts, packed: Se. -/
import Derived.Test.YtpgdijbfkahepaaGreatDoorPd3
set_option linter.unusedVariables false
set_option linter.unusedSimpArgs false
namespace Go.Proofs.YtpgdijbfkahepaaGreatDoor
section
open Go.RowKit FracM
theorem size_any (n : Int) (w : World) (h1 : -9223372036854775808 ≤ n) (h2 : n ≤ 9223372036854775807) :
  Calls Tryz.prog 99 #[.int .i64 n] w fun e w' => e = .returned (.int .u64 (n.natAbs : Int)) ∧ w = w' := by
 by_cases h : n < 0
 ·go_enter Tryz.func99, Tryz.ntmps99
  go_wp2
  go_ret
  exact ⟨ret_int (by first | omega | (simp [wrap64, IntKind.wrap, IntKind.bits, IntKind.signed]; omega)), rfl⟩
 ·go_enter Tryz.func99, Tryz.ntmps99
  go_wp2
  go_ret
  exact ⟨ret_int (by first | omega | (simp [wrap64, IntKind.wrap, IntKind.bits, IntKind.signed]; omega)), rfl⟩
set_option maxHeartbeats 400000 in
theorem common_any (a b : Nat) (w : World) (h1 : a ≤ 9223372036854775807) (h2 : b ≤ 9223372036854775807) :
  Calls Tryz.prog 100 #[.int .u64 a, .int .u64 b] w fun e w' => e = .returned (.int .u64 (Nat.gcd a b : Nat)) ∧ w = w' := by
 go_enter Tryz.func100, Tryz.ntmps100
 go_wp2
 go_loop [0, 1] (fun u v => GcdRel .u64 a b w u v w) (fun _ v => (intOf v).toNat)
 case atStart => exact ⟨a, b, rfl, rfl, h1, h2, rfl, 0, rfl⟩
 case round =>
  obtain ⟨x, y, rfl, rfl, hx, hy, hg, n, hn⟩ := hrel
  clear hn
  have HG := Lib.hid hg; clear hg
  by_cases hz : y = 0
  ·subst hz
   have HG2 : Hid (x = Nat.gcd a b) := by show x = Nat.gcd a b; simpa using HG.out
   clear HG
   go_wp2
   go_ret
   exact ⟨ret_int (by rw [← HG2.out]), rfl⟩
  ·have hz' : ((y : Int) != 0) = true := by simp; omega
   have hz2 : ((y : Int) == 0) = false := by simp; omega
   have hy1 : 1 ≤ (y : Int) := by omega
   have hlt : x % y < y := Nat.mod_lt _ (by omega)
   have hle : x % y ≤ 9223372036854775807 := by omega
   go_wp2
   go_round
   case rel => exact ⟨y, x % y, rfl, by go_num, hy, hle, gcd_step HG.out, 0, rfl⟩
   case measure => simp [intOf]; omega
def RetF (r : Int × Int × Int) (w : World) (e : Ending) (w' : World) : Prop :=
 e = .returned (.tuple #[.agg #[.int .i64 r.1, .int .i64 r.2.1], .int .i64 r.2.2]) ∧ Below w.heap.size w w'
theorem retF {r : Int × Int × Int} {a b c : Int} {w w' : World} {e : Ending} (h : r = (a, b, c)) (he : e = .returned (.tuple #[.agg #[.int .i64 a, .int .i64 b], .int .i64 c])) (hb : Below w.heap.size w w') : RetF r w e w' := by
 subst h; exact ⟨he, hb⟩
theorem new_zero (num den : Int) (h : den = 0) : newF num den = (0, 0, 6) := by unfold newF; rw [if_pos h]
theorem new_min (num den : Int) (h0 : ¬ den = 0) (h : num = -9223372036854775808 ∨ den = -9223372036854775808) : newF num den = (0, 0, 5) := by unfold newF; rw [if_neg h0, if_pos h]
theorem new_low (num den : Int) (h0 : ¬ den = 0) (h1 : ¬ num = -9223372036854775808) (h2 : ¬ den = -9223372036854775808) {p : Int} {d : Nat} (hp : p = if den < 0 then -num else num) (hd : d = den.natAbs) : newF num den = low p d := by
 unfold newF; rw [if_neg h0, if_neg (by omega), ← hp, ← hd]
theorem tdiv_sign (p : Int) (g : Nat) : p.tdiv g = p.sign * ((p.natAbs / g : Nat) : Int) := by
 rcases Int.lt_trichotomy p 0 with h | h | h
 ·obtain ⟨k, rfl⟩ : ∃ k : Nat, p = -(k : Int) := ⟨p.natAbs, by omega⟩
  rw [Int.neg_tdiv, Int.sign_eq_neg_one_of_neg h, Int.natAbs_neg, Int.natAbs_natCast, ← Int.ofNat_tdiv]; omega
 ·subst h; simp
 ·obtain ⟨k, rfl⟩ : ∃ k : Nat, p = (k : Int) := ⟨p.natAbs, by omega⟩
  rw [Int.sign_eq_one_of_pos h, Int.natAbs_natCast, ← Int.ofNat_tdiv]; omega
/-- the quotients by the greatest common divisor -/
theorem low_form {p : Int} {d g : Nat} (hg : g = Nat.gcd p.natAbs d) : low p d = if (p.tdiv g).natAbs ≤ M ∧ d / g ≤ M then (p.tdiv g, ((d / g : Nat) : Int), 0) else (0, 0, 5) := by
 have hn : (p.tdiv g).natAbs = p.natAbs / g := by rw [Int.natAbs_tdiv]; rfl
 unfold low
 rw [← hg, ← tdiv_sign, ← hn]
theorem rnew_val (num den : Int) (h0 : ¬ den = 0) (h1 : ¬ num = -9223372036854775808) (h2 : ¬ den = -9223372036854775808) {g N D : Nat} (hg : g = Nat.gcd num.natAbs den.natAbs) (hN : N = num.natAbs / g) (hD : D = den.natAbs / g) :
  newF num den = if N ≤ 4611686018427387904 ∧ D ≤ 4611686018427387904 then ((if (num < 0) ≠ (den < 0) then -(N : Int) else N), (D : Int), 0) else (0, 0, 5) := by
 have hp : (if den < 0 then -num else num).natAbs = num.natAbs := by split <;> omega
 rw [new_low num den h0 h1 h2 rfl rfl, low_form (g := g) (by rw [hp]; exact hg), tdiv_sign]
 rw [hp, ← hN, ← hD]
 have hna : ((if den < 0 then -num else num).sign * (N : Int)).natAbs = N := by
  refine natAbs_sign_mul (fun hz => ?_)
  have : num = 0 := by split at hz <;> omega
  rw [hN, this]; simp
 rw [hna]
 have hv : (if den < 0 then -num else num).sign * (N : Int) = if (num < 0) ≠ (den < 0) then -(N : Int) else N := by
  rcases Int.lt_trichotomy num 0 with hn | hn | hn
  ·by_cases hd : den < 0
   ·rw [if_pos hd, Int.sign_eq_one_of_pos (by omega), if_neg (by simp [hn, hd])]; omega
   ·rw [if_neg hd, Int.sign_eq_neg_one_of_neg hn, if_pos (by simp [hn, hd])]; omega
  ·have hN0 : N = 0 := by rw [hN, hn]; simp
   rw [hN0]; simp
  ·by_cases hd : den < 0
   ·rw [if_pos hd, Int.sign_eq_neg_one_of_neg (by omega), if_pos (by simp [hd]; omega)]; omega
   ·rw [if_neg hd, Int.sign_eq_one_of_pos hn, if_neg (by simp [hd]; omega)]; omega
 rw [hv]
 rfl
set_option maxHeartbeats 1000000 in
theorem rnew_any (num den : Int) (w : World) (l1 : -9223372036854775808 ≤ num) (u1 : num ≤ 9223372036854775807) (l2 : -9223372036854775808 ≤ den) (u2 : den ≤ 9223372036854775807) :
  Calls Tryz.prog 83 #[.int .i64 num, .int .i64 den] w (RetF (newF num den) w) := by
 by_cases h0 : den = 0
 ·have E := Lib.hid (new_zero num den h0)
  have h0' : (den == 0) = true := by simp [h0]
  clear h0
  go_enter Tryz.func83, Tryz.ntmps83
  go_wp2
  refine bodyPost_ret (v := .tuple #[.agg #[.int .i64 0, .int .i64 0], .int .i64 6]) (by simp [results, Tryz.results83, go_sem]) rfl (retF E.out rfl (bel1 _ _))
 have h0' : (den == 0) = false := by simpa using h0
 by_cases h1 : num = -9223372036854775808
 ·have E := Lib.hid (new_min num den h0 (.inl h1))
  have h1' : 9223372036854775807 < num.natAbs := by omega
  clear h1
  go_enter Tryz.func83, Tryz.ntmps83
  go_wp2_with (go_at_call 99; refine (size_any _ _ (by omega) (by omega)).mono ?_; rintro e w' ⟨rfl, rfl⟩)
  refine bodyPost_ret (v := .tuple #[.agg #[.int .i64 0, .int .i64 0], .int .i64 5]) (by simp [results, Tryz.results83, go_sem]) rfl (retF E.out rfl (bel1 _ _))
 by_cases h2 : den = -9223372036854775808
 ·have E := Lib.hid (new_min num den h0 (.inr h2))
  have h1' : num.natAbs ≤ 9223372036854775807 := by omega
  have h2' : 9223372036854775807 < den.natAbs := by omega
  clear h2
  go_enter Tryz.func83, Tryz.ntmps83
  go_wp2_with (go_at_call 99; refine (size_any _ _ (by omega) (by omega)).mono ?_; rintro e w' ⟨rfl, rfl⟩)
  refine bodyPost_ret (v := .tuple #[.agg #[.int .i64 0, .int .i64 0], .int .i64 5]) (by simp [results, Tryz.results83, go_sem]) rfl (retF E.out rfl (bel1 _ _))
 obtain ⟨g, hg⟩ : ∃ g, g = Nat.gcd num.natAbs den.natAbs := ⟨_, rfl⟩
 obtain ⟨N, hN⟩ : ∃ N, N = num.natAbs / g := ⟨_, rfl⟩
 obtain ⟨D, hD⟩ : ∃ D, D = den.natAbs / g := ⟨_, rfl⟩
 have g1 : 1 ≤ g := by rw [hg]; exact Nat.gcd_pos_of_pos_right _ (by omega)
 have g2 : g ≤ den.natAbs := by rw [hg]; exact Nat.gcd_le_right _ (by omega)
 have e := rnew_val num den h0 h1 h2 hg hN hD
 have q1 : num.natAbs ≤ 9223372036854775807 := by omega
 have q2 : den.natAbs ≤ 9223372036854775807 := by omega
 have n1 : N ≤ 9223372036854775807 := by rw [hN]; exact Nat.le_trans (Nat.div_le_self _ _) q1
 have n2 : D ≤ 9223372036854775807 := by rw [hD]; exact Nat.le_trans (Nat.div_le_self _ _) q2
 have HG : Hid (g = Nat.gcd num.natAbs den.natAbs) := hg
 have HN : Hid ((num.natAbs : Int) / (g : Int) = N) := by rw [hN]; exact (Int.natCast_ediv _ _).symm
 have HD : Hid ((den.natAbs : Int) / (g : Int) = D) := by rw [hD]; exact (Int.natCast_ediv _ _).symm
 have E := Lib.hid e
 clear hg hN hD e h0 h1 h2
 by_cases t1 : 4611686018427387904 < N
 ·have EE : Hid (newF num den = (0, 0, 5)) := by show newF num den = _; rw [E.out, if_neg (by omega)]
  go_enter Tryz.func83, Tryz.ntmps83
  go_wp2_with (first
   | (go_at_call 99; refine (size_any _ _ (by omega) (by omega)).mono ?_; rintro e w' ⟨rfl, rfl⟩)
   | (go_at_call 100; refine (common_any _ _ _ (by omega) (by omega)).mono ?_; rintro e w' ⟨rfl, rfl⟩; rw [← HG.out]; have y1 := HN.out; have y2 := HD.out))
  refine bodyPost_ret (v := .tuple #[.agg #[.int .i64 0, .int .i64 0], .int .i64 5]) (by simp [results, Tryz.results83, go_sem]) rfl (retF EE.out rfl (bel1 _ _))
 by_cases t2 : 4611686018427387904 < D
 ·have EE : Hid (newF num den = (0, 0, 5)) := by show newF num den = _; rw [E.out, if_neg (by omega)]
  go_enter Tryz.func83, Tryz.ntmps83
  go_wp2_with (first
   | (go_at_call 99; refine (size_any _ _ (by omega) (by omega)).mono ?_; rintro e w' ⟨rfl, rfl⟩)
   | (go_at_call 100; refine (common_any _ _ _ (by omega) (by omega)).mono ?_; rintro e w' ⟨rfl, rfl⟩; rw [← HG.out]; have y1 := HN.out; have y2 := HD.out))
  refine bodyPost_ret (v := .tuple #[.agg #[.int .i64 0, .int .i64 0], .int .i64 5]) (by simp [results, Tryz.results83, go_sem]) rfl (retF EE.out rfl (bel1 _ _))
 by_cases a1 : num < 0 <;> by_cases a2 : den < 0
 ·have EE : Hid (newF num den = ((N : Int), (D : Int), 0)) := by show newF num den = _; rw [E.out, if_pos (by omega), if_neg (by simp [a1, a2])]
  have c1 : decide (num < 0) = true := by simpa using a1
  have c2 : decide (den < 0) = true := by simpa using a2
  go_enter Tryz.func83, Tryz.ntmps83
  go_wp2_with (first
   | (go_at_call 99; refine (size_any _ _ (by omega) (by omega)).mono ?_; rintro e w' ⟨rfl, rfl⟩)
   | (go_at_call 100; refine (common_any _ _ _ (by omega) (by omega)).mono ?_; rintro e w' ⟨rfl, rfl⟩; rw [← HG.out]; have y1 := HN.out; have y2 := HD.out))
  exact bodyPost_ret (v := .tuple #[.agg #[.int .i64 (N : Int), .int .i64 D], .int .i64 0]) (by simp [results, Tryz.results83, go_sem]) rfl (retF EE.out rfl (bel1 _ _))
 ·have EE : Hid (newF num den = ((-(N : Int)), (D : Int), 0)) := by show newF num den = _; rw [E.out, if_pos (by omega), if_pos (by simp [a1, a2])]
  have c1 : decide (num < 0) = true := by simpa using a1
  have c2 : decide (den < 0) = false := by simpa using a2
  go_enter Tryz.func83, Tryz.ntmps83
  go_wp2_with (first
   | (go_at_call 99; refine (size_any _ _ (by omega) (by omega)).mono ?_; rintro e w' ⟨rfl, rfl⟩)
   | (go_at_call 100; refine (common_any _ _ _ (by omega) (by omega)).mono ?_; rintro e w' ⟨rfl, rfl⟩; rw [← HG.out]; have y1 := HN.out; have y2 := HD.out))
  exact bodyPost_ret (v := .tuple #[.agg #[.int .i64 (-(N : Int)), .int .i64 D], .int .i64 0]) (by simp [results, Tryz.results83, go_sem]) rfl (retF EE.out rfl (bel1 _ _))
 ·have EE : Hid (newF num den = ((-(N : Int)), (D : Int), 0)) := by show newF num den = _; rw [E.out, if_pos (by omega), if_pos (by simp [a1, a2])]
  have c1 : decide (num < 0) = false := by simpa using a1
  have c2 : decide (den < 0) = true := by simpa using a2
  go_enter Tryz.func83, Tryz.ntmps83
  go_wp2_with (first
   | (go_at_call 99; refine (size_any _ _ (by omega) (by omega)).mono ?_; rintro e w' ⟨rfl, rfl⟩)
   | (go_at_call 100; refine (common_any _ _ _ (by omega) (by omega)).mono ?_; rintro e w' ⟨rfl, rfl⟩; rw [← HG.out]; have y1 := HN.out; have y2 := HD.out))
  exact bodyPost_ret (v := .tuple #[.agg #[.int .i64 (-(N : Int)), .int .i64 D], .int .i64 0]) (by simp [results, Tryz.results83, go_sem]) rfl (retF EE.out rfl (bel1 _ _))
 ·have EE : Hid (newF num den = ((N : Int), (D : Int), 0)) := by show newF num den = _; rw [E.out, if_pos (by omega), if_neg (by simp [a1, a2])]
  have c1 : decide (num < 0) = false := by simpa using a1
  have c2 : decide (den < 0) = false := by simpa using a2
  go_enter Tryz.func83, Tryz.ntmps83
  go_wp2_with (first
   | (go_at_call 99; refine (size_any _ _ (by omega) (by omega)).mono ?_; rintro e w' ⟨rfl, rfl⟩)
   | (go_at_call 100; refine (common_any _ _ _ (by omega) (by omega)).mono ?_; rintro e w' ⟨rfl, rfl⟩; rw [← HG.out]; have y1 := HN.out; have y2 := HD.out))
  exact bodyPost_ret (v := .tuple #[.agg #[.int .i64 (N : Int), .int .i64 D], .int .i64 0]) (by simp [results, Tryz.results83, go_sem]) rfl (retF EE.out rfl (bel1 _ _))
theorem rvalid_val {n d : Int} (hd : 1 ≤ d) : validB n d = ((newF n d).2.2 == 0 && ((n == (newF n d).1) && (d == (newF n d).2.1))) := by
 rw [Bool.eq_iff_iff, newF_self]
 obtain ⟨a, b, c⟩ := newF n d
 simp
 constructor
 ·rintro ⟨rfl, rfl, rfl⟩; simp
 ·rintro ⟨rfl, rfl, rfl⟩; simp
set_option maxHeartbeats 400000 in
theorem rvalid_any (n d : Int) (w : World) (l1 : -9223372036854775808 ≤ n) (u1 : n ≤ 9223372036854775807) (l2 : -9223372036854775808 ≤ d) (u2 : d ≤ 9223372036854775807) :
  Calls Tryz.prog 65 #[.agg #[.int .i64 n, .int .i64 d]] w fun e w' => e = .returned (.bool (validB n d)) ∧ Below w.heap.size w w' := by
 by_cases h1 : d < 1
 ·have E := Lib.hid (valid_no (n := n) (d := d) (.inl h1))
  go_enter Tryz.func65, Tryz.ntmps65
  go_wp2
  go_ret
  exact ⟨ret_bool (by rw [E.out]), bel1 _ _⟩
 have E := Lib.hid (rvalid_val (n := n) (d := d) (by omega))
 generalize hr : newF n d = r at E
 obtain ⟨a, b, c⟩ := r
 have HR := Lib.hid hr; clear hr
 by_cases hc : (c == 0) = true
 all_goals
  try (have hc' : (c == 0) = false := by simpa using hc)
  go_enter Tryz.func65, Tryz.ntmps65
  go_wp2_with (go_at_call 83; refine (rnew_any _ _ _ (by omega) (by omega) (by omega) (by omega)).mono ?_; rintro e w1 ⟨rfl, hb1⟩; rw [HR.out]; have HB : Hid (Below w.heap.size w w1) := bthen (bel1 _ _) hb1 (Nat.le_refl _); obtain ⟨hc1, hf1⟩ := bcell hb1; have hz1 := sz1 hb1; clear hb1)
  all_goals
   go_ret
   exact ⟨ret_bool (by rw [E.out]; simp_all), HB.out.alloc (by omega) _⟩
end
end Go.Proofs.YtpgdijbfkahepaaGreatDoor
