/- Contracts, packed: Se Sf Sg. -/
import Derived.Test.YtgomgoacponbkaaDoorPk26
set_option linter.unusedVariables false
set_option linter.unusedSimpArgs false
namespace Go.Proofs.YtgomgoacponbkaaDoor
section
open Go.RowKit FracM

theorem size_any (n : Int) (w : World) (h1 : -9223372036854775808 ≤ n) (h2 : n ≤ 9223372036854775807) :
    Calls Tryd.prog 111 #[.int .i64 n] w fun e w' => e = .returned (.int .u64 (n.natAbs : Int)) ∧ w = w' := by
  by_cases h : n < 0
  · go_enter Tryd.func111, Tryd.ntmps111
    go_wp2
    go_ret
    exact ⟨ret_int (by first | omega | (simp [wrap64, IntKind.wrap, IntKind.bits, IntKind.signed]; omega)), rfl⟩
  · go_enter Tryd.func111, Tryd.ntmps111
    go_wp2
    go_ret
    exact ⟨ret_int (by first | omega | (simp [wrap64, IntKind.wrap, IntKind.bits, IntKind.signed]; omega)), rfl⟩

set_option maxHeartbeats 400000 in
theorem common_any (a b : Nat) (w : World) (h1 : a ≤ 9223372036854775807) (h2 : b ≤ 9223372036854775807) :
    Calls Tryd.prog 112 #[.int .u64 a, .int .u64 b] w fun e w' => e = .returned (.int .u64 (Nat.gcd a b : Nat)) ∧ w = w' := by
  go_enter Tryd.func112, Tryd.ntmps112
  go_wp2
  go_loop [0, 1] (fun u v => GcdRel .u64 a b w u v w) (fun _ v => (intOf v).toNat)
  case atStart => exact ⟨a, b, rfl, rfl, h1, h2, rfl, 0, rfl⟩
  case round =>
    obtain ⟨x, y, rfl, rfl, hx, hy, hg, n, hn⟩ := hrel
    clear hn
    have HG := Lib.hid hg; clear hg
    by_cases hz : y = 0
    · subst hz
      have HG2 : Hid (x = Nat.gcd a b) := by show x = Nat.gcd a b; simpa using HG.out
      clear HG
      go_wp2
      go_ret
      exact ⟨ret_int (by rw [← HG2.out]), rfl⟩
    · have hz' : ((y : Int) != 0) = true := by simp; omega
      have hz2 : ((y : Int) == 0) = false := by simp; omega
      have hy1 : 1 ≤ (y : Int) := by omega
      have hlt : x % y < y := Nat.mod_lt _ (by omega)
      have hle : x % y ≤ 9223372036854775807 := by omega
      go_wp2
      go_round
      case rel => exact ⟨y, x % y, rfl, by go_num, hy, hle, gcd_step HG.out, 0, rfl⟩
      case measure => simp [intOf]; omega
def RetF (r : Int × Int × Int) (w : World) (e : Ending) (w' : World) : Prop :=
  e = .returned (.tuple #[.agg #[.int .i64 r.1, .int .i64 r.2.1], .int .i64 r.2.2]) ∧ Below w.heap.size w w'
theorem retF {r : Int × Int × Int} {a b c : Int} {w w' : World} {e : Ending} (h : r = (a, b, c)) (he : e = .returned (.tuple #[.agg #[.int .i64 a, .int .i64 b], .int .i64 c])) (hb : Below w.heap.size w w') : RetF r w e w' := by
  subst h; exact ⟨he, hb⟩

theorem new_zero (num den : Int) (h : den = 0) : newF num den = (0, 0, 6) := by unfold newF; rw [if_pos h]
theorem new_min (num den : Int) (h0 : ¬ den = 0) (h : num = -9223372036854775808 ∨ den = -9223372036854775808) : newF num den = (0, 0, 5) := by unfold newF; rw [if_neg h0, if_pos h]
theorem new_low (num den : Int) (h0 : ¬ den = 0) (h1 : ¬ num = -9223372036854775808) (h2 : ¬ den = -9223372036854775808) {p : Int} {d : Nat} (hp : p = if den < 0 then -num else num) (hd : d = den.natAbs) : newF num den = low p d := by
  unfold newF; rw [if_neg h0, if_neg (by omega), ← hp, ← hd]
theorem tdiv_sign (p : Int) (g : Nat) : p.tdiv g = p.sign * ((p.natAbs / g : Nat) : Int) := by
  rcases Int.lt_trichotomy p 0 with h | h | h
  · obtain ⟨k, rfl⟩ : ∃ k : Nat, p = -(k : Int) := ⟨p.natAbs, by omega⟩
    rw [Int.neg_tdiv, Int.sign_eq_neg_one_of_neg h, Int.natAbs_neg, Int.natAbs_natCast, ← Int.ofNat_tdiv]; omega
  · subst h; simp
  · obtain ⟨k, rfl⟩ : ∃ k : Nat, p = (k : Int) := ⟨p.natAbs, by omega⟩
    rw [Int.sign_eq_one_of_pos h, Int.natAbs_natCast, ← Int.ofNat_tdiv]; omega
/-- the quotients by the greatest common divisor -/
theorem low_form {p : Int} {d g : Nat} (hg : g = Nat.gcd p.natAbs d) : low p d = if (p.tdiv g).natAbs ≤ M ∧ d / g ≤ M then (p.tdiv g, ((d / g : Nat) : Int), 0) else (0, 0, 5) := by
  have hn : (p.tdiv g).natAbs = p.natAbs / g := by rw [Int.natAbs_tdiv]; rfl
  unfold low
  rw [← hg, ← tdiv_sign, ← hn]
theorem low_yes {p : Int} {d g : Nat} {a : Int} {b : Nat} (hg : g = Nat.gcd p.natAbs d) (ha : p.tdiv g = a) (hb : d / g = b) (h1 : a.natAbs ≤ 4611686018427387904) (h2 : b ≤ 4611686018427387904) : low p d = (a, (b : Int), 0) := by
  rw [low_form hg, ha, hb, if_pos ⟨h1, h2⟩]
theorem low_no {p : Int} {d g : Nat} {a : Int} {b : Nat} (hg : g = Nat.gcd p.natAbs d) (ha : p.tdiv g = a) (hb : d / g = b) (h1 : 4611686018427387904 < a.natAbs ∨ 4611686018427387904 < b) : low p d = (0, 0, 5) := by
  rw [low_form hg, ha, hb, if_neg (by unfold M; omega)]

theorem fin_i64 (n : Int) (h1 : -9223372036854775808 ≤ n) (h2 : n ≤ 9223372036854775807) : IntKind.i64.wrap n = n := IntWalk.i64_in _ (by omega)

theorem rnew_val (num den : Int) (h0 : ¬ den = 0) (h1 : ¬ num = -9223372036854775808) (h2 : ¬ den = -9223372036854775808) {g N D : Nat} (hg : g = Nat.gcd num.natAbs den.natAbs) (hN : N = num.natAbs / g) (hD : D = den.natAbs / g) :
    newF num den = if N ≤ 4611686018427387904 ∧ D ≤ 4611686018427387904 then ((if (num < 0) ≠ (den < 0) then -(N : Int) else N), (D : Int), 0) else (0, 0, 5) := by
  have hp : (if den < 0 then -num else num).natAbs = num.natAbs := by split <;> omega
  rw [new_low num den h0 h1 h2 rfl rfl, low_form (g := g) (by rw [hp]; exact hg), tdiv_sign]
  rw [hp, ← hN, ← hD]
  have hna : ((if den < 0 then -num else num).sign * (N : Int)).natAbs = N := by
    refine natAbs_sign_mul (fun hz => ?_)
    have : num = 0 := by split at hz <;> omega
    rw [hN, this]; simp
  rw [hna]
  have hv : (if den < 0 then -num else num).sign * (N : Int) = if (num < 0) ≠ (den < 0) then -(N : Int) else N := by
    rcases Int.lt_trichotomy num 0 with hn | hn | hn
    · by_cases hd : den < 0
      · rw [if_pos hd, Int.sign_eq_one_of_pos (by omega), if_neg (by simp [hn, hd])]; omega
      · rw [if_neg hd, Int.sign_eq_neg_one_of_neg hn, if_pos (by simp [hn, hd])]; omega
    · have hN0 : N = 0 := by rw [hN, hn]; simp
      rw [hN0]; simp
    · by_cases hd : den < 0
      · rw [if_pos hd, Int.sign_eq_neg_one_of_neg (by omega), if_pos (by simp [hd]; omega)]; omega
      · rw [if_neg hd, Int.sign_eq_one_of_pos hn, if_neg (by simp [hd]; omega)]; omega
  rw [hv]
  rfl

set_option maxHeartbeats 1000000 in
theorem rnew_any (num den : Int) (w : World) (l1 : -9223372036854775808 ≤ num) (u1 : num ≤ 9223372036854775807) (l2 : -9223372036854775808 ≤ den) (u2 : den ≤ 9223372036854775807) :
    Calls Tryd.prog 106 #[.int .i64 num, .int .i64 den] w (RetF (newF num den) w) := by
  by_cases h0 : den = 0
  · have E := Lib.hid (new_zero num den h0)
    have h0' : (den == 0) = true := by simp [h0]
    clear h0
    go_enter Tryd.func106, Tryd.ntmps106
    go_wp2
    refine bodyPost_ret (v := .tuple #[.agg #[.int .i64 0, .int .i64 0], .int .i64 6]) (by simp [results, Tryd.results106, go_sem]) rfl (retF E.out rfl (bel1 _ _))
  have h0' : (den == 0) = false := by simpa using h0
  by_cases h1 : num = -9223372036854775808
  · have E := Lib.hid (new_min num den h0 (.inl h1))
    have h1' : 9223372036854775807 < num.natAbs := by omega
    clear h1
    go_enter Tryd.func106, Tryd.ntmps106
    go_wp2_with (go_at_call 111; refine (size_any _ _ (by omega) (by omega)).mono ?_; rintro e w' ⟨rfl, rfl⟩)
    refine bodyPost_ret (v := .tuple #[.agg #[.int .i64 0, .int .i64 0], .int .i64 5]) (by simp [results, Tryd.results106, go_sem]) rfl (retF E.out rfl (bel1 _ _))
  by_cases h2 : den = -9223372036854775808
  · have E := Lib.hid (new_min num den h0 (.inr h2))
    have h1' : num.natAbs ≤ 9223372036854775807 := by omega
    have h2' : 9223372036854775807 < den.natAbs := by omega
    clear h2
    go_enter Tryd.func106, Tryd.ntmps106
    go_wp2_with (go_at_call 111; refine (size_any _ _ (by omega) (by omega)).mono ?_; rintro e w' ⟨rfl, rfl⟩)
    refine bodyPost_ret (v := .tuple #[.agg #[.int .i64 0, .int .i64 0], .int .i64 5]) (by simp [results, Tryd.results106, go_sem]) rfl (retF E.out rfl (bel1 _ _))
  obtain ⟨g, hg⟩ : ∃ g, g = Nat.gcd num.natAbs den.natAbs := ⟨_, rfl⟩
  obtain ⟨N, hN⟩ : ∃ N, N = num.natAbs / g := ⟨_, rfl⟩
  obtain ⟨D, hD⟩ : ∃ D, D = den.natAbs / g := ⟨_, rfl⟩
  have g1 : 1 ≤ g := by rw [hg]; exact Nat.gcd_pos_of_pos_right _ (by omega)
  have g2 : g ≤ den.natAbs := by rw [hg]; exact Nat.gcd_le_right _ (by omega)
  have e := rnew_val num den h0 h1 h2 hg hN hD
  have q1 : num.natAbs ≤ 9223372036854775807 := by omega
  have q2 : den.natAbs ≤ 9223372036854775807 := by omega
  have n1 : N ≤ 9223372036854775807 := by rw [hN]; exact Nat.le_trans (Nat.div_le_self _ _) q1
  have n2 : D ≤ 9223372036854775807 := by rw [hD]; exact Nat.le_trans (Nat.div_le_self _ _) q2
  have HG : Hid (g = Nat.gcd num.natAbs den.natAbs) := hg
  have HN : Hid ((num.natAbs : Int) / (g : Int) = N) := by rw [hN]; exact (Int.natCast_ediv _ _).symm
  have HD : Hid ((den.natAbs : Int) / (g : Int) = D) := by rw [hD]; exact (Int.natCast_ediv _ _).symm
  have E := Lib.hid e
  clear hg hN hD e h0 h1 h2
  by_cases t1 : 4611686018427387904 < N
  · have EE : Hid (newF num den = (0, 0, 5)) := by show newF num den = _; rw [E.out, if_neg (by omega)]
    go_enter Tryd.func106, Tryd.ntmps106
    go_wp2_with (first
      | (go_at_call 111; refine (size_any _ _ (by omega) (by omega)).mono ?_; rintro e w' ⟨rfl, rfl⟩)
      | (go_at_call 112; refine (common_any _ _ _ (by omega) (by omega)).mono ?_; rintro e w' ⟨rfl, rfl⟩; rw [← HG.out]; have y1 := HN.out; have y2 := HD.out))
    refine bodyPost_ret (v := .tuple #[.agg #[.int .i64 0, .int .i64 0], .int .i64 5]) (by simp [results, Tryd.results106, go_sem]) rfl (retF EE.out rfl (bel1 _ _))
  by_cases t2 : 4611686018427387904 < D
  · have EE : Hid (newF num den = (0, 0, 5)) := by show newF num den = _; rw [E.out, if_neg (by omega)]
    go_enter Tryd.func106, Tryd.ntmps106
    go_wp2_with (first
      | (go_at_call 111; refine (size_any _ _ (by omega) (by omega)).mono ?_; rintro e w' ⟨rfl, rfl⟩)
      | (go_at_call 112; refine (common_any _ _ _ (by omega) (by omega)).mono ?_; rintro e w' ⟨rfl, rfl⟩; rw [← HG.out]; have y1 := HN.out; have y2 := HD.out))
    refine bodyPost_ret (v := .tuple #[.agg #[.int .i64 0, .int .i64 0], .int .i64 5]) (by simp [results, Tryd.results106, go_sem]) rfl (retF EE.out rfl (bel1 _ _))
  by_cases a1 : num < 0 <;> by_cases a2 : den < 0
  · have EE : Hid (newF num den = ((N : Int), (D : Int), 0)) := by show newF num den = _; rw [E.out, if_pos (by omega), if_neg (by simp [a1, a2])]
    have c1 : decide (num < 0) = true := by simpa using a1
    have c2 : decide (den < 0) = true := by simpa using a2
    go_enter Tryd.func106, Tryd.ntmps106
    go_wp2_with (first
      | (go_at_call 111; refine (size_any _ _ (by omega) (by omega)).mono ?_; rintro e w' ⟨rfl, rfl⟩)
      | (go_at_call 112; refine (common_any _ _ _ (by omega) (by omega)).mono ?_; rintro e w' ⟨rfl, rfl⟩; rw [← HG.out]; have y1 := HN.out; have y2 := HD.out))
    exact bodyPost_ret (v := .tuple #[.agg #[.int .i64 (N : Int), .int .i64 D], .int .i64 0]) (by simp [results, Tryd.results106, go_sem]) rfl (retF EE.out rfl (bel1 _ _))
  · have EE : Hid (newF num den = ((-(N : Int)), (D : Int), 0)) := by show newF num den = _; rw [E.out, if_pos (by omega), if_pos (by simp [a1, a2])]
    have c1 : decide (num < 0) = true := by simpa using a1
    have c2 : decide (den < 0) = false := by simpa using a2
    go_enter Tryd.func106, Tryd.ntmps106
    go_wp2_with (first
      | (go_at_call 111; refine (size_any _ _ (by omega) (by omega)).mono ?_; rintro e w' ⟨rfl, rfl⟩)
      | (go_at_call 112; refine (common_any _ _ _ (by omega) (by omega)).mono ?_; rintro e w' ⟨rfl, rfl⟩; rw [← HG.out]; have y1 := HN.out; have y2 := HD.out))
    exact bodyPost_ret (v := .tuple #[.agg #[.int .i64 (-(N : Int)), .int .i64 D], .int .i64 0]) (by simp [results, Tryd.results106, go_sem]) rfl (retF EE.out rfl (bel1 _ _))
  · have EE : Hid (newF num den = ((-(N : Int)), (D : Int), 0)) := by show newF num den = _; rw [E.out, if_pos (by omega), if_pos (by simp [a1, a2])]
    have c1 : decide (num < 0) = false := by simpa using a1
    have c2 : decide (den < 0) = true := by simpa using a2
    go_enter Tryd.func106, Tryd.ntmps106
    go_wp2_with (first
      | (go_at_call 111; refine (size_any _ _ (by omega) (by omega)).mono ?_; rintro e w' ⟨rfl, rfl⟩)
      | (go_at_call 112; refine (common_any _ _ _ (by omega) (by omega)).mono ?_; rintro e w' ⟨rfl, rfl⟩; rw [← HG.out]; have y1 := HN.out; have y2 := HD.out))
    exact bodyPost_ret (v := .tuple #[.agg #[.int .i64 (-(N : Int)), .int .i64 D], .int .i64 0]) (by simp [results, Tryd.results106, go_sem]) rfl (retF EE.out rfl (bel1 _ _))
  · have EE : Hid (newF num den = ((N : Int), (D : Int), 0)) := by show newF num den = _; rw [E.out, if_pos (by omega), if_neg (by simp [a1, a2])]
    have c1 : decide (num < 0) = false := by simpa using a1
    have c2 : decide (den < 0) = false := by simpa using a2
    go_enter Tryd.func106, Tryd.ntmps106
    go_wp2_with (first
      | (go_at_call 111; refine (size_any _ _ (by omega) (by omega)).mono ?_; rintro e w' ⟨rfl, rfl⟩)
      | (go_at_call 112; refine (common_any _ _ _ (by omega) (by omega)).mono ?_; rintro e w' ⟨rfl, rfl⟩; rw [← HG.out]; have y1 := HN.out; have y2 := HD.out))
    exact bodyPost_ret (v := .tuple #[.agg #[.int .i64 (N : Int), .int .i64 D], .int .i64 0]) (by simp [results, Tryd.results106, go_sem]) rfl (retF EE.out rfl (bel1 _ _))
theorem newF_bd {num den : Int} : (newF num den).1.natAbs ≤ 4611686018427387904 ∧ 0 ≤ (newF num den).2.1 ∧ (newF num den).2.1 ≤ 4611686018427387904 ∧ 0 ≤ (newF num den).2.2 ∧ (newF num den).2.2 ≤ 6 := by
  rcases newF_err num den with h | h | ⟨n, d, h⟩
  · rw [h]; decide
  · rw [h]; decide
  · have := newF_ok h
    obtain ⟨h1, h2, h3, _⟩ := valid_iff.1 this
    unfold M at *
    rw [h]; simp only; omega
theorem rvalid_val {n d : Int} (hd : 1 ≤ d) : validB n d = ((newF n d).2.2 == 0 && ((n == (newF n d).1) && (d == (newF n d).2.1))) := by
  rw [Bool.eq_iff_iff, newF_self]
  obtain ⟨a, b, c⟩ := newF n d
  simp
  constructor
  · rintro ⟨rfl, rfl, rfl⟩; simp
  · rintro ⟨rfl, rfl, rfl⟩; simp
set_option maxHeartbeats 400000 in
theorem rvalid_any (n d : Int) (w : World) (l1 : -9223372036854775808 ≤ n) (u1 : n ≤ 9223372036854775807) (l2 : -9223372036854775808 ≤ d) (u2 : d ≤ 9223372036854775807) :
    Calls Tryd.prog 93 #[.agg #[.int .i64 n, .int .i64 d]] w fun e w' => e = .returned (.bool (validB n d)) ∧ Below w.heap.size w w' := by
  by_cases h1 : d < 1
  · have E := Lib.hid (valid_no (n := n) (d := d) (.inl h1))
    go_enter Tryd.func93, Tryd.ntmps93
    go_wp2
    go_ret
    exact ⟨ret_bool (by rw [E.out]), bel1 _ _⟩
  have E := Lib.hid (rvalid_val (n := n) (d := d) (by omega))
  generalize hr : newF n d = r at E
  obtain ⟨a, b, c⟩ := r
  have HR := Lib.hid hr; clear hr
  by_cases hc : (c == 0) = true
  all_goals
    try (have hc' : (c == 0) = false := by simpa using hc)
    go_enter Tryd.func93, Tryd.ntmps93
    go_wp2_with (go_at_call 106; refine (rnew_any _ _ _ (by omega) (by omega) (by omega) (by omega)).mono ?_; rintro e w1 ⟨rfl, hb1⟩; rw [HR.out]; have HB : Hid (Below w.heap.size w w1) := bthen (bel1 _ _) hb1 (Nat.le_refl _); obtain ⟨hc1, hf1⟩ := bcell hb1; have hz1 := sz1 hb1; clear hb1)
    all_goals
      go_ret
      exact ⟨ret_bool (by rw [E.out]; simp_all), HB.out.alloc (by omega) _⟩
end
section
open Go.RowKit FracM

/-- the index of a string in a list, or -1 -/
def findI (s : ByteArray) : List ByteArray → Nat → Int
  | [], _ => -1
  | x :: xs, k => if x.toList == s.toList then k else findI s xs (k + 1)
theorem findI_bd (s : ByteArray) (l : List ByteArray) (k : Nat) : findI s l k = -1 ∨ ((k : Int) ≤ findI s l k ∧ findI s l k < k + l.length) := by
  induction l generalizing k with
  | nil => exact .inl rfl
  | cons x xs ih =>
    rw [findI]
    split
    · right; constructor <;> simp <;> omega
    · rcases ih (k + 1) with h | ⟨h1, h2⟩
      · exact .inl h
      · right; simp only [List.length_cons]; omega
theorem findI_ge (s : ByteArray) (l : List ByteArray) (k : Nat) : decide (0 ≤ findI s l k) = l.any (fun x => x.toList == s.toList) := by
  induction l generalizing k with
  | nil => rfl
  | cons x xs ih =>
    rw [findI, List.any_cons]
    by_cases h : (x.toList == s.toList) = true
    · rw [if_pos h, h]; simp
    · rw [if_neg h, ih (k + 1)]; simp at h; simp [h]
set_option maxHeartbeats 400000 in
theorem rfind_any (A : Option Addr) (n c : Nat) (l : List ByteArray) (s : ByteArray) (w : World) (h : StrsP w (.slice A n c) l) : Calls Tryd.prog 95 #[.slice A n c, .string s] w fun e w' => e = .returned (.int .i64 (findI s l 0)) ∧ w' = w := by
  obtain ⟨A', c', hv, hn⟩ := h.form
  cases hv
  have HW := Box.mk h; clear h
  go_enter Tryd.func95, Tryd.ntmps95
  go_wp2
  go_loop [5] (fun v => ∃ k : Nat, k ≤ l.length ∧ v = .int .i64 (k : Nat) ∧ Box (findI s (l.drop k) k = findI s l 0)) (fun v => l.length - (intOf v).toNat)
  case atStart => exact ⟨0, by omega, rfl, ⟨rfl⟩⟩
  case round =>
    obtain ⟨k, hk, rfl, HI⟩ := hrel
    by_cases h5 : k = l.length
    · have h6 : ¬ (k : Int) < (l.length : Int) := by omega
      go_wp2
      go_ret
      exact ⟨ret_int (by rw [← HI.out, List.drop_eq_nil_of_le (by omega)]; rfl), rfl⟩
    · obtain ⟨x, hx⟩ : ∃ x, l[k]? = some x := ⟨l[k]'(by omega), List.getElem?_eq_getElem _⟩
      obtain ⟨b, off, rfl, hb, hs⟩ := SeqP.at1 HW.out k (.string x) (by simp [hx])
      have hk2 : (k : Int) < (l.length : Int) := by omega
      have HD : Box (l.drop k = x :: l.drop (k + 1)) := ⟨by
        rw [List.drop_eq_getElem_cons (by omega : k < l.length)]
        rw [(List.getElem?_eq_some_iff.1 hx).2]⟩
      have hk3 : k < l.length := by omega
      clear h5 hx
      by_cases hn2 : (x.toList == s.toList) = true
      · go_wp2
        go_ret
        exact ⟨ret_int (by rw [← HI.out, HD.out, findI, if_pos hn2]), rfl⟩
      · have hn1 : (x.toList == s.toList) = false := by simpa using hn2
        clear hn2
        go_wp2
        go_round
        case rel => exact ⟨k + 1, by omega, by go_num, ⟨by rw [← HI.out, HD.out, findI, if_neg (by rw [hn1]; simp)]⟩⟩
        case measure => simp [intOf]; omega
theorem rgroups_any (w : World) : Calls Tryd.prog 96 #[] w fun e w' => e = .returned (.slice (some ⟨w.heap.size, 0, none⟩) 5 5) ∧ w' = w.alloc (.cells #[.string ⟨#[115, 117, 109]⟩, .string ⟨#[109, 105, 110]⟩, .string ⟨#[109, 97, 120]⟩, .string ⟨#[99, 111, 117, 110, 116]⟩, .string ⟨#[107, 116, 104]⟩] 9) := by
  go_enter Tryd.func96, Tryd.ntmps96
  go_wp2
  go_ret
  exact ⟨rfl, rfl⟩
theorem groups_at (w : World) : StrsP (w.alloc (.cells #[.string ⟨#[115, 117, 109]⟩, .string ⟨#[109, 105, 110]⟩, .string ⟨#[109, 97, 120]⟩, .string ⟨#[99, 111, 117, 110, 116]⟩, .string ⟨#[107, 116, 104]⟩] 9)) (.slice (some ⟨w.heap.size, 0, none⟩) 5 5) groupsL :=
  SeqP.of_blk (n := 5) (size := 1) (Blk.new _ _ _) rfl (by omega) trivial
set_option maxHeartbeats 4000000 in
set_option maxRecDepth 100000 in
theorem rwithin_any (d : Nd) (ks : List Tree) (P : Nat → Nat → Prop) (w : World) (mv bv kv : Value) (hT : TreeAt w P (.node d ks) (mv, bv, kv)) (hk0 : 0 ≤ d.kind ∧ d.kind ≤ 3) (hkk : d.kind ≠ 1 → d.kind ≠ 2 → d.k = 0) : Calls Tryd.prog 80 #[.agg (ndC d mv bv kv)] w (RetB (.bool (rangedB d)) w) := by
  have HN := Lib.hid (N1.start hT)
  have HO := Box.mk hT.nod.ok
  have HK := Box.mk (And.intro hk0 hkk)
  clear hT hk0 hkk
  go_enter Tryd.func80, Tryd.ntmps80
  go_upto_region 1 with (fail)
  generalize w.alloc (.cells (ndC d _ _ _) 38) = W at HN ⊢
  obtain ⟨c0, c1, c2, c3, c4, c5, c6, c7, c8, c9, c10⟩ := HN.out.c
  simp only [Nat.zero_add] at c1 c2 c3 c4 c5 c6 c7 c8 c9 c10
  go_wp2_with fail
  all_goals
    go_ret
    refine ⟨ret_bool ?_, HN.out.below⟩
    have hkk := HK.out.2
    unfold rangedB
    simp_all
    try (intros; omega)
end
section
open Go.RowKit FracM

theorem of_dec {p : Prop} [Decidable p] {b : Bool} (h : decide p = b) : if b then p else ¬ p := by cases b <;> simp_all
theorem shaped_fk {d : Nd} {n : Nat} (h : shapedB d n = true) : (d.kind = 0 ∧ d.fn = 0 ∧ n = 0) ∨ (d.kind = 1 ∧ n = 0 ∧ 0 ≤ d.fn ∧ d.fn ≤ 7) ∨ (d.kind = 2 ∧ n = 1 ∧ 0 ≤ d.fn ∧ d.fn ≤ 4) ∨ (d.kind = 3 ∧ n = 2 ∧ 0 ≤ d.fn ∧ d.fn ≤ 3) := by
  rcases shape_cases h with ⟨h1, h2⟩ | ⟨h1, h2, h3, h4⟩ | ⟨h1, h2, h3, h4⟩ | ⟨h1, h2, h3, h4⟩
  · left
    unfold shapedB at h
    rw [if_pos h1] at h
    simp at h
    exact ⟨h1, by omega, h2⟩
  · exact .inr (.inl ⟨h1, h2, h3, h4⟩)
  · exact .inr (.inr (.inl ⟨h1, h2, h3, h4⟩))
  · exact .inr (.inr (.inr ⟨h1, h2, h3, h4⟩))
theorem shaped_kind {d : Nd} {n : Nat} (h : shapedB d n = true) : 0 ≤ d.kind ∧ d.kind ≤ 3 ∧ 0 ≤ d.fn := by
  rcases shape_cases h with ⟨h1, h2⟩ | ⟨h1, h2, h3, h4⟩ | ⟨h1, h2, h3, h4⟩ | ⟨h1, h2, h3, h4⟩
  · refine ⟨by omega, by omega, ?_⟩
    unfold shapedB at h
    rw [if_pos h1] at h
    simp at h
    omega
  all_goals exact ⟨by omega, by omega, h3⟩
set_option maxHeartbeats 4000000 in
set_option maxRecDepth 100000 in
theorem rshaped_any (d : Nd) (ks : List Tree) (P : Nat → Nat → Prop) (w : World) (mv bv kv : Value) (hT : TreeAt w P (.node d ks) (mv, bv, kv)) : Calls Tryd.prog 78 #[.agg (ndC d mv bv kv)] w (RetB (.bool (shapedB d ks.length)) w) := by
  have HN := Lib.hid (N1.start hT)
  obtain ⟨A1, n1, rfl, l1⟩ := hT.nod.ms.form
  obtain ⟨A2, n2, rfl, l2⟩ := hT.nod.bys.form
  obtain ⟨A3, n3, rfl, l3⟩ := hT.nod.kform
  have HO := Box.mk hT.nod.ok
  clear hT
  go_enter Tryd.func78, Tryd.ntmps78
  go_upto_region 1 with (fail)
  generalize w.alloc (.cells (ndC d _ _ _) 38) = W at HN ⊢
  obtain ⟨c0, c1, c2, c3, c4, c5, c6, c7, c8, c9, c10⟩ := HN.out.c
  simp only [Nat.zero_add] at c1 c2 c3 c4 c5 c6 c7 c8 c9 c10
  by_cases hb1 : d.kind < 0
  · have E : Box (shapedB d ks.length = false) := ⟨by rw [Bool.eq_false_iff]; intro h; have := shaped_kind h; omega⟩
    go_wp2_with fail
    go_ret
    exact ⟨ret_bool (by rw [E.out]), HN.out.below⟩
  by_cases hb2 : 3 < d.kind
  · have E : Box (shapedB d ks.length = false) := ⟨by rw [Bool.eq_false_iff]; intro h; have := shaped_kind h; omega⟩
    go_wp2_with fail
    go_ret
    exact ⟨ret_bool (by rw [E.out]), HN.out.below⟩
  by_cases hb3 : d.fn < 0
  · have E : Box (shapedB d ks.length = false) := ⟨by rw [Bool.eq_false_iff]; intro h; have := shaped_kind h; omega⟩
    go_wp2_with fail
    go_ret
    exact ⟨ret_bool (by rw [E.out]), HN.out.below⟩
  obtain ⟨⟨-, -, -, -, -, ⟨b1, b2⟩, ⟨b3, b4⟩⟩, -, -, -⟩ := HO.out
  have HKD : Box (d.kind = 0 ∨ d.kind = 1 ∨ d.kind = 2 ∨ d.kind = 3) := ⟨by omega⟩
  have HF3 := Box.mk hb3
  go_upto_region 5 with (fail)
  have HN5 := Lib.hid (HN.out.next (bel2 W (.cells #[.int .i64 1, .int .i64 8, .int .i64 5, .int .i64 4] 3) (.cells #[.int .i64 0, .int .i64 0, .int .i64 1, .int .i64 2] 3)))
  have HL1 : Hid (Blk ((W.alloc (.cells #[.int .i64 1, .int .i64 8, .int .i64 5, .int .i64 4] 3)).alloc (.cells #[.int .i64 0, .int .i64 0, .int .i64 1, .int .i64 2] 3)) W.heap.size 3 #[.int .i64 1, .int .i64 8, .int .i64 5, .int .i64 4]) := (Blk.new W _ _).alloc _
  have HL2 : Hid (Blk ((W.alloc (.cells #[.int .i64 1, .int .i64 8, .int .i64 5, .int .i64 4] 3)).alloc (.cells #[.int .i64 0, .int .i64 0, .int .i64 1, .int .i64 2] 3)) (W.heap.size + 1) 3 #[.int .i64 0, .int .i64 0, .int .i64 1, .int .i64 2]) := Blk.newAt _ _ (by simp)
  clear HN c0 c1 c2 c3 c4 c5 c6 c7 c8 c9 c10
  generalize W.heap.size = g at *
  generalize (W.alloc (.cells #[.int .i64 1, .int .i64 8, .int .i64 5, .int .i64 4] 3)).alloc (.cells #[.int .i64 0, .int .i64 0, .int .i64 1, .int .i64 2] 3) = W5 at *
  obtain ⟨c0, c1, c2, c3, c4, c5, c6, c7, c8, c9, c10⟩ := HN5.out.c
  simp only [Nat.zero_add] at c1 c2 c3 c4 c5 c6 c7 c8 c9 c10
  by_cases hk0 : d.kind = 0
  · have q1 : W5.cell? ⟨g, 0, none⟩ = some (.int .i64 1) := by have := HL1.out; unfold Blk at this; simp [World.cell?, this]
    have q2 : W5.cell? ⟨g + 1, 0, none⟩ = some (.int .i64 0) := by have := HL2.out; unfold Blk at this; simp [World.cell?, this]
    rw [hk0] at c0
    by_cases hs : 1 ≤ d.fn ∨ ks.length ≠ 0
    · have E : Box (shapedB d ks.length = false) := ⟨by
        rw [Bool.eq_false_iff]; intro h
        have := shaped_fk h
        omega⟩
      clear hk0 hb1 hb2 hb3
      by_cases hs1 : 1 ≤ d.fn
      · go_region
        all_goals
          go_wp2_with fail
          go_ret
          exact ⟨ret_bool (by rw [E.out]), by first | exact HN5.out.below | exact HN5.out.drew.below⟩
      · have hs2 : (((ks.length : Nat) : Int) != 0) = true := bne_iff_ne.2 (by omega)
        go_region
        all_goals
          go_wp2_with fail
          go_ret
          exact ⟨ret_bool (by rw [E.out]), by first | exact HN5.out.below | exact HN5.out.drew.below⟩
    · have hs1 : ¬ 1 ≤ d.fn := by omega
      have hs2 : (((ks.length : Nat) : Int) != 0) = false := by rw [bne_eq_false_iff_eq]; omega
      have hs3 : ks.length = 0 := by omega
      have HS3 := Box.mk hs3
      have HK0 := Box.mk hk0
      clear hk0 hb1 hb2 hb3 hs hs3
      go_region
      all_goals
        go_wp2_with (go_at_call 93; refine (rvalid_any _ _ _ b1 b2 b3 b4).mono ?_; rintro e w' ⟨rfl, hb1⟩; have HB1 := (by first | exact Lib.hid (HN5.out.next hb1) | exact Lib.hid (HN5.out.drew.next hb1)); clear hb1; obtain ⟨c0, c1, c2, c3, c4, c5, c6, c7, c8, c9, c10⟩ := HB1.out.c; simp only [Nat.zero_add] at c1 c2 c3 c4 c5 c6 c7 c8 c9 c10; rw [HK0.out] at c0)
      all_goals
        go_ret
        refine ⟨ret_bool ?_, by first | exact HN5.out.below | exact HN5.out.drew.below | exact HB1.out.below⟩
        have hk := HK0.out
        have hn := HS3.out
        have hf := HF3.out
        unfold shapedB noSelB noNumB
        simp_all [len0]
        try first | done | (intros; omega) | (intros; intro hcc; simp_all)
  by_cases hk1 : d.kind = 1
  · have q1 : W5.cell? ⟨g, 1, none⟩ = some (.int .i64 8) := by have := HL1.out; unfold Blk at this; simp [World.cell?, this]
    have q2 : W5.cell? ⟨g + 1, 1, none⟩ = some (.int .i64 0) := by have := HL2.out; unfold Blk at this; simp [World.cell?, this]
    rw [hk1] at c0
    by_cases hs : 8 ≤ d.fn ∨ ks.length ≠ 0
    · have E : Box (shapedB d ks.length = false) := ⟨by
        rw [Bool.eq_false_iff]; intro h
        have := shaped_fk h
        omega⟩
      clear hk1 hb1 hb2 hb3
      by_cases hs1 : 8 ≤ d.fn
      · go_region
        all_goals
          go_wp2_with fail
          go_ret
          exact ⟨ret_bool (by rw [E.out]), by first | exact HN5.out.below | exact HN5.out.drew.below⟩
      · have hs2 : (((ks.length : Nat) : Int) != 0) = true := bne_iff_ne.2 (by omega)
        go_region
        all_goals
          go_wp2_with fail
          go_ret
          exact ⟨ret_bool (by rw [E.out]), by first | exact HN5.out.below | exact HN5.out.drew.below⟩
    · have hs1 : ¬ 8 ≤ d.fn := by omega
      have hs2 : (((ks.length : Nat) : Int) != 0) = false := by rw [bne_eq_false_iff_eq]; omega
      have hs3 : ks.length = 0 := by omega
      have HS3 := Box.mk hs3
      have HK0 := Box.mk hk1
      clear hk1 hb1 hb2 hb3 hs hs3
      go_region
      all_goals
        go_wp2_with (go_at_call 93; refine (rvalid_any _ _ _ b1 b2 b3 b4).mono ?_; rintro e w' ⟨rfl, hb1⟩; have HB1 := (by first | exact Lib.hid (HN5.out.next hb1) | exact Lib.hid (HN5.out.drew.next hb1)); clear hb1; obtain ⟨c0, c1, c2, c3, c4, c5, c6, c7, c8, c9, c10⟩ := HB1.out.c; simp only [Nat.zero_add] at c1 c2 c3 c4 c5 c6 c7 c8 c9 c10; rw [HK0.out] at c0)
      all_goals
        go_ret
        refine ⟨ret_bool ?_, by first | exact HN5.out.below | exact HN5.out.drew.below | exact HB1.out.below⟩
        have hk := HK0.out
        have hn := HS3.out
        have hf := HF3.out
        unfold shapedB noSelB noNumB
        simp_all [len0]
        try first | done | (intros; omega) | (intros; intro hcc; simp_all)
  by_cases hk2 : d.kind = 2
  · have q1 : W5.cell? ⟨g, 2, none⟩ = some (.int .i64 5) := by have := HL1.out; unfold Blk at this; simp [World.cell?, this]
    have q2 : W5.cell? ⟨g + 1, 2, none⟩ = some (.int .i64 1) := by have := HL2.out; unfold Blk at this; simp [World.cell?, this]
    rw [hk2] at c0
    by_cases hs : 5 ≤ d.fn ∨ ks.length ≠ 1
    · have E : Box (shapedB d ks.length = false) := ⟨by
        rw [Bool.eq_false_iff]; intro h
        have := shaped_fk h
        omega⟩
      clear hk2 hb1 hb2 hb3
      by_cases hs1 : 5 ≤ d.fn
      · go_region
        all_goals
          go_wp2_with fail
          go_ret
          exact ⟨ret_bool (by rw [E.out]), by first | exact HN5.out.below | exact HN5.out.drew.below⟩
      · have hs2 : (((ks.length : Nat) : Int) != 1) = true := bne_iff_ne.2 (by omega)
        go_region
        all_goals
          go_wp2_with fail
          go_ret
          exact ⟨ret_bool (by rw [E.out]), by first | exact HN5.out.below | exact HN5.out.drew.below⟩
    · have hs1 : ¬ 5 ≤ d.fn := by omega
      have hs2 : (((ks.length : Nat) : Int) != 1) = false := by rw [bne_eq_false_iff_eq]; omega
      have hs3 : ks.length = 1 := by omega
      have HS3 := Box.mk hs3
      have HK0 := Box.mk hk2
      clear hk2 hb1 hb2 hb3 hs hs3
      go_region
      all_goals
        go_wp2_with (go_at_call 93; refine (rvalid_any _ _ _ b1 b2 b3 b4).mono ?_; rintro e w' ⟨rfl, hb1⟩; have HB1 := (by first | exact Lib.hid (HN5.out.next hb1) | exact Lib.hid (HN5.out.drew.next hb1)); clear hb1; obtain ⟨c0, c1, c2, c3, c4, c5, c6, c7, c8, c9, c10⟩ := HB1.out.c; simp only [Nat.zero_add] at c1 c2 c3 c4 c5 c6 c7 c8 c9 c10; rw [HK0.out] at c0)
      all_goals
        go_ret
        refine ⟨ret_bool ?_, by first | exact HN5.out.below | exact HN5.out.drew.below | exact HB1.out.below⟩
        have hk := HK0.out
        have hn := HS3.out
        have hf := HF3.out
        unfold shapedB noSelB noNumB
        simp_all [len0]
        try first | done | (intros; omega) | (intros; intro hcc; simp_all)
  by_cases hk3 : d.kind = 3
  · have q1 : W5.cell? ⟨g, 3, none⟩ = some (.int .i64 4) := by have := HL1.out; unfold Blk at this; simp [World.cell?, this]
    have q2 : W5.cell? ⟨g + 1, 3, none⟩ = some (.int .i64 2) := by have := HL2.out; unfold Blk at this; simp [World.cell?, this]
    rw [hk3] at c0
    by_cases hs : 4 ≤ d.fn ∨ ks.length ≠ 2
    · have E : Box (shapedB d ks.length = false) := ⟨by
        rw [Bool.eq_false_iff]; intro h
        have := shaped_fk h
        omega⟩
      clear hk3 hb1 hb2 hb3
      by_cases hs1 : 4 ≤ d.fn
      · go_region
        all_goals
          go_wp2_with fail
          go_ret
          exact ⟨ret_bool (by rw [E.out]), by first | exact HN5.out.below | exact HN5.out.drew.below⟩
      · have hs2 : (((ks.length : Nat) : Int) != 2) = true := bne_iff_ne.2 (by omega)
        go_region
        all_goals
          go_wp2_with fail
          go_ret
          exact ⟨ret_bool (by rw [E.out]), by first | exact HN5.out.below | exact HN5.out.drew.below⟩
    · have hs1 : ¬ 4 ≤ d.fn := by omega
      have hs2 : (((ks.length : Nat) : Int) != 2) = false := by rw [bne_eq_false_iff_eq]; omega
      have hs3 : ks.length = 2 := by omega
      have HS3 := Box.mk hs3
      have HK0 := Box.mk hk3
      clear hk3 hb1 hb2 hb3 hs hs3
      go_region
      all_goals
        go_wp2_with (go_at_call 93; refine (rvalid_any _ _ _ b1 b2 b3 b4).mono ?_; rintro e w' ⟨rfl, hb1⟩; have HB1 := (by first | exact Lib.hid (HN5.out.next hb1) | exact Lib.hid (HN5.out.drew.next hb1)); clear hb1; obtain ⟨c0, c1, c2, c3, c4, c5, c6, c7, c8, c9, c10⟩ := HB1.out.c; simp only [Nat.zero_add] at c1 c2 c3 c4 c5 c6 c7 c8 c9 c10; rw [HK0.out] at c0)
      all_goals
        go_ret
        refine ⟨ret_bool ?_, by first | exact HN5.out.below | exact HN5.out.drew.below | exact HB1.out.below⟩
        have hk := HK0.out
        have hn := HS3.out
        have hf := HF3.out
        unfold shapedB noSelB noNumB
        simp_all [len0]
        try first | done | (intros; omega) | (intros; intro hcc; simp_all)
  exfalso
  rcases HKD.out with h | h | h | h <;> omega
end
end Go.Proofs.YtgomgoacponbkaaDoor
