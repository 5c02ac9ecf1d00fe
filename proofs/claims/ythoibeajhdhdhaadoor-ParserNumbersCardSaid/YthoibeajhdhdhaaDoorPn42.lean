/- Contracts, packed: Fb. -/
import Derived.Test.YthoibeajhdhdhaaDoorPn41
set_option linter.unusedVariables false
set_option linter.unusedSimpArgs false
namespace Go.Proofs.YthoibeajhdhdhaaDoor
section
open Go.RowKit FracM

/-- a fraction with an error -/
def RetF (r : Int × Int × Int) (w : World) (e : Ending) (w' : World) : Prop :=
  e = .returned (.tuple #[.agg #[.int .i64 r.1, .int .i64 r.2.1], .int .i64 r.2.2]) ∧ Below w.heap.size w w'
theorem retF {r : Int × Int × Int} {a b c : Int} {w w' : World} {e : Ending} (h : r = (a, b, c)) (he : e = .returned (.tuple #[.agg #[.int .i64 a, .int .i64 b], .int .i64 c])) (hb : Below w.heap.size w w') : RetF r w e w' := by
  subst h; exact ⟨he, hb⟩

theorem new_zero (num den : Int) (h : den = 0) : newF num den = (0, 0, 6) := by unfold newF; rw [if_pos h]
theorem new_min (num den : Int) (h0 : ¬ den = 0) (h : num = -9223372036854775808 ∨ den = -9223372036854775808) : newF num den = (0, 0, 5) := by unfold newF; rw [if_neg h0, if_pos h]
theorem new_low (num den : Int) (h0 : ¬ den = 0) (h1 : ¬ num = -9223372036854775808) (h2 : ¬ den = -9223372036854775808) {p : Int} {d : Nat} (hp : p = if den < 0 then -num else num) (hd : d = den.natAbs) : newF num den = low p d := by
  unfold newF; rw [if_neg h0, if_neg (by omega), ← hp, ← hd]
theorem tdiv_sign (p : Int) (g : Nat) : p.tdiv g = p.sign * ((p.natAbs / g : Nat) : Int) := by
  rcases Int.lt_trichotomy p 0 with h | h | h
  · obtain ⟨k, rfl⟩ : ∃ k : Nat, p = -(k : Int) := ⟨p.natAbs, by omega⟩
    rw [Int.neg_tdiv, Int.sign_eq_neg_one_of_neg h, Int.natAbs_neg, Int.natAbs_natCast, ← Int.ofNat_tdiv]; omega
  · subst h; simp
  · obtain ⟨k, rfl⟩ : ∃ k : Nat, p = (k : Int) := ⟨p.natAbs, by omega⟩
    rw [Int.sign_eq_one_of_pos h, Int.natAbs_natCast, ← Int.ofNat_tdiv]; omega
/-- the quotients by the greatest common divisor -/
theorem low_form {p : Int} {d g : Nat} (hg : g = Nat.gcd p.natAbs d) : low p d = if (p.tdiv g).natAbs ≤ M ∧ d / g ≤ M then (p.tdiv g, ((d / g : Nat) : Int), 0) else (0, 0, 5) := by
  have hn : (p.tdiv g).natAbs = p.natAbs / g := by rw [Int.natAbs_tdiv]; rfl
  unfold low
  rw [← hg, ← tdiv_sign, ← hn]
theorem low_yes {p : Int} {d g : Nat} {a : Int} {b : Nat} (hg : g = Nat.gcd p.natAbs d) (ha : p.tdiv g = a) (hb : d / g = b) (h1 : a.natAbs ≤ 4611686018427387904) (h2 : b ≤ 4611686018427387904) : low p d = (a, (b : Int), 0) := by
  rw [low_form hg, ha, hb, if_pos ⟨h1, h2⟩]
theorem low_no {p : Int} {d g : Nat} {a : Int} {b : Nat} (hg : g = Nat.gcd p.natAbs d) (ha : p.tdiv g = a) (hb : d / g = b) (h1 : 4611686018427387904 < a.natAbs ∨ 4611686018427387904 < b) : low p d = (0, 0, 5) := by
  rw [low_form hg, ha, hb, if_neg (by unfold M; omega)]

theorem fin_i64 (n : Int) (h1 : -9223372036854775808 ≤ n) (h2 : n ≤ 9223372036854775807) : IntKind.i64.wrap n = n := IntWalk.i64_in _ (by omega)

set_option maxHeartbeats 1000000 in
theorem new_any (num den : Int) (w : World) (l1 : -9223372036854775808 ≤ num) (u1 : num ≤ 9223372036854775807) (l2 : -9223372036854775808 ≤ den) (u2 : den ≤ 9223372036854775807) :
    Calls Tryd.prog 13 #[.int .i64 num, .int .i64 den] w (RetF (newF num den) w) := by
  by_cases h0 : den = 0
  · have E := Lib.hid (new_zero num den h0)
    have h0' : (den == 0) = true := by simp [h0]
    clear h0
    go_enter Tryd.func13, Tryd.ntmps13
    go_wp2
    refine bodyPost_ret (v := .tuple #[.agg #[.int .i64 0, .int .i64 0], .int .i64 6]) (by simp [results, Tryd.results13, go_sem]) rfl (retF E.out rfl (bel1 _ _))
  have h0' : (den == 0) = false := by simpa using h0
  by_cases h1 : num = -9223372036854775808
  · have E := Lib.hid (new_min num den h0 (.inl h1))
    have h1' : (num == -9223372036854775808) = true := by simp [h1]
    clear h1
    go_enter Tryd.func13, Tryd.ntmps13
    go_wp2
    refine bodyPost_ret (v := .tuple #[.agg #[.int .i64 0, .int .i64 0], .int .i64 5]) (by simp [results, Tryd.results13, go_sem]) rfl (retF E.out rfl (bel1 _ _))
  have h1' : (num == -9223372036854775808) = false := by simpa using h1
  by_cases h2 : den = -9223372036854775808
  · have E := Lib.hid (new_min num den h0 (.inr h2))
    have h2' : (den == -9223372036854775808) = true := by simp [h2]
    clear h2
    go_enter Tryd.func13, Tryd.ntmps13
    go_wp2
    refine bodyPost_ret (v := .tuple #[.agg #[.int .i64 0, .int .i64 0], .int .i64 5]) (by simp [results, Tryd.results13, go_sem]) rfl (retF E.out rfl (bel1 _ _))
  have h2' : (den == -9223372036854775808) = false := by simpa using h2
  have H0 := Lib.hid h0; have H1 := Lib.hid h1; have H2 := Lib.hid h2
  have k1 : -9223372036854775807 ≤ num := by omega
  have k2 : -9223372036854775807 ≤ den := by omega
  by_cases hs : den < 0
  · obtain ⟨d, hd⟩ : ∃ d : Nat, den = -(d : Int) := ⟨den.natAbs, by omega⟩
    have k3 : 1 ≤ d := by omega
    have k4 : d ≤ 9223372036854775807 := by omega
    have E : Hid (newF num den = low (-num) d) := new_low num den h0 h1 h2 (by rw [if_pos hs]) (by omega)
    obtain ⟨g, hg⟩ : ∃ g, g = Nat.gcd num.natAbs d := ⟨_, rfl⟩
    have g1 : 1 ≤ g := by rw [hg]; exact Nat.gcd_pos_of_pos_right _ (by omega)
    have g2 : g ≤ d := by rw [hg]; exact Nat.gcd_le_right _ (by omega)
    obtain ⟨a, ha⟩ : ∃ a, (-num).tdiv g = a := ⟨_, rfl⟩
    obtain ⟨b, hb⟩ : ∃ b, d / g = b := ⟨_, rfl⟩
    have b1 : b ≤ 9223372036854775807 := by rw [← hb]; exact Nat.le_trans (Nat.div_le_self _ _) k4
    have a1 : a.natAbs ≤ num.natAbs := by rw [← ha, Int.natAbs_tdiv]; rw [Int.natAbs_neg]; exact Nat.div_le_self _ _
    clear h0 h1 h2
    subst hd
    have HG : Hid (g = Nat.gcd num.natAbs d ∧ (-num).tdiv g = a ∧ d / g = b ∧ g = Nat.gcd (-num).natAbs d) := ⟨hg, ha, hb, by rw [Int.natAbs_neg]; exact hg⟩; clear hg ha hb
    go_enter Tryd.func13, Tryd.ntmps13
    go_wp2_with (first
      | (go_at_call 31; refine (abs_any _ _ (by omega) (by omega)).mono ?_; rintro e w' ⟨rfl, rfl⟩)
      | (go_at_call 30; refine (gcd_any _ _ _ (by omega) (by omega)).mono ?_; rintro e w' ⟨rfl, nq, rfl⟩; rw [← HG.out.1]))
    have z1 : ((g : Int) == 0) = false := by simp; omega
    have y1 : IntKind.i64.wrap ((-num).tdiv (g : Int)) = a := by rw [HG.out.2.1]; exact fin_i64 _ (by omega) (by omega)
    have y4 : IntKind.i64.wrap (-(num.tdiv (g : Int))) = a := by rw [← Int.neg_tdiv, HG.out.2.1]; exact fin_i64 _ (by omega) (by omega)
    have y2 : IntKind.i64.wrap ((d : Int).tdiv (g : Int)) = (b : Int) := by rw [← Int.ofNat_tdiv, HG.out.2.2.1]; exact fin_i64 _ (by omega) (by omega)
    have y3 : IntKind.i64.wrap ((d : Int) / (g : Int)) = (b : Int) := by rw [← Int.natCast_ediv, HG.out.2.2.1]; exact fin_i64 _ (by omega) (by omega)
    go_quiet (fail)
    clear y1 y4 y2 y3 z1
    by_cases t1 : 4611686018427387904 < a.natAbs
    · have EE := Lib.hid (E.out.trans (low_no HG.out.2.2.2 HG.out.2.1 HG.out.2.2.1 (.inl t1)))
      go_wp2_with (go_at_call 31; refine (abs_any _ _ (by omega) (by omega)).mono ?_; rintro e w' ⟨rfl, rfl⟩)
      refine bodyPost_ret (v := .tuple #[.agg #[.int .i64 0, .int .i64 0], .int .i64 5]) (by simp [results, Tryd.results13, go_sem]) rfl (retF EE.out rfl (((bdrew (bel1 _ _) _).setCell (by simp) _).setCell (by simp) _))
    · by_cases t2 : 4611686018427387904 < b
      · have EE := Lib.hid (E.out.trans (low_no HG.out.2.2.2 HG.out.2.1 HG.out.2.2.1 (.inr t2)))
        go_wp2_with (go_at_call 31; refine (abs_any _ _ (by omega) (by omega)).mono ?_; rintro e w' ⟨rfl, rfl⟩)
        refine bodyPost_ret (v := .tuple #[.agg #[.int .i64 0, .int .i64 0], .int .i64 5]) (by simp [results, Tryd.results13, go_sem]) rfl (retF EE.out rfl (((bdrew (bel1 _ _) _).setCell (by simp) _).setCell (by simp) _))
      · have EE := Lib.hid (E.out.trans (low_yes HG.out.2.2.2 HG.out.2.1 HG.out.2.2.1 (by omega) (by omega)))
        go_wp2_with (go_at_call 31; refine (abs_any _ _ (by omega) (by omega)).mono ?_; rintro e w' ⟨rfl, rfl⟩)
        refine bodyPost_ret (v := .tuple #[.agg #[.int .i64 a, .int .i64 b], .int .i64 0]) (by simp [results, Tryd.results13, go_sem]) rfl (retF EE.out rfl (((bdrew (bel1 _ _) _).setCell (by simp) _).setCell (by simp) _))
  · obtain ⟨d, hd⟩ : ∃ d : Nat, den = (d : Int) := ⟨den.natAbs, by omega⟩
    have k3 : 1 ≤ d := by omega
    have k4 : d ≤ 9223372036854775807 := by omega
    have E : Hid (newF num den = low num d) := new_low num den h0 h1 h2 (by rw [if_neg hs]) (by omega)
    obtain ⟨g, hg⟩ : ∃ g, g = Nat.gcd num.natAbs d := ⟨_, rfl⟩
    have g1 : 1 ≤ g := by rw [hg]; exact Nat.gcd_pos_of_pos_right _ (by omega)
    have g2 : g ≤ d := by rw [hg]; exact Nat.gcd_le_right _ (by omega)
    obtain ⟨a, ha⟩ : ∃ a, num.tdiv g = a := ⟨_, rfl⟩
    obtain ⟨b, hb⟩ : ∃ b, d / g = b := ⟨_, rfl⟩
    have b1 : b ≤ 9223372036854775807 := by rw [← hb]; exact Nat.le_trans (Nat.div_le_self _ _) k4
    have a1 : a.natAbs ≤ num.natAbs := by rw [← ha, Int.natAbs_tdiv]; exact Nat.div_le_self _ _
    clear h0 h1 h2
    subst hd
    have HG : Hid (g = Nat.gcd num.natAbs d ∧ num.tdiv g = a ∧ d / g = b ∧ g = Nat.gcd num.natAbs d) := ⟨hg, ha, hb, by exact hg⟩; clear hg ha hb
    go_enter Tryd.func13, Tryd.ntmps13
    go_wp2_with (first
      | (go_at_call 31; refine (abs_any _ _ (by omega) (by omega)).mono ?_; rintro e w' ⟨rfl, rfl⟩)
      | (go_at_call 30; refine (gcd_any _ _ _ (by omega) (by omega)).mono ?_; rintro e w' ⟨rfl, nq, rfl⟩; rw [← HG.out.1]))
    have z1 : ((g : Int) == 0) = false := by simp; omega
    have y1 : IntKind.i64.wrap (num.tdiv (g : Int)) = a := by rw [HG.out.2.1]; exact fin_i64 _ (by omega) (by omega)
    have y2 : IntKind.i64.wrap ((d : Int).tdiv (g : Int)) = (b : Int) := by rw [← Int.ofNat_tdiv, HG.out.2.2.1]; exact fin_i64 _ (by omega) (by omega)
    have y3 : IntKind.i64.wrap ((d : Int) / (g : Int)) = (b : Int) := by rw [← Int.natCast_ediv, HG.out.2.2.1]; exact fin_i64 _ (by omega) (by omega)
    go_quiet (fail)
    clear y1 y2 y3 z1
    by_cases t1 : 4611686018427387904 < a.natAbs
    · have EE := Lib.hid (E.out.trans (low_no HG.out.2.2.2 HG.out.2.1 HG.out.2.2.1 (.inl t1)))
      go_wp2_with (go_at_call 31; refine (abs_any _ _ (by omega) (by omega)).mono ?_; rintro e w' ⟨rfl, rfl⟩)
      refine bodyPost_ret (v := .tuple #[.agg #[.int .i64 0, .int .i64 0], .int .i64 5]) (by simp [results, Tryd.results13, go_sem]) rfl (retF EE.out rfl (((bdrew (bel1 _ _) _).setCell (by simp) _).setCell (by simp) _))
    · by_cases t2 : 4611686018427387904 < b
      · have EE := Lib.hid (E.out.trans (low_no HG.out.2.2.2 HG.out.2.1 HG.out.2.2.1 (.inr t2)))
        go_wp2_with (go_at_call 31; refine (abs_any _ _ (by omega) (by omega)).mono ?_; rintro e w' ⟨rfl, rfl⟩)
        refine bodyPost_ret (v := .tuple #[.agg #[.int .i64 0, .int .i64 0], .int .i64 5]) (by simp [results, Tryd.results13, go_sem]) rfl (retF EE.out rfl (((bdrew (bel1 _ _) _).setCell (by simp) _).setCell (by simp) _))
      · have EE := Lib.hid (E.out.trans (low_yes HG.out.2.2.2 HG.out.2.1 HG.out.2.2.1 (by omega) (by omega)))
        go_wp2_with (go_at_call 31; refine (abs_any _ _ (by omega) (by omega)).mono ?_; rintro e w' ⟨rfl, rfl⟩)
        refine bodyPost_ret (v := .tuple #[.agg #[.int .i64 a, .int .i64 b], .int .i64 0]) (by simp [results, Tryd.results13, go_sem]) rfl (retF EE.out rfl (((bdrew (bel1 _ _) _).setCell (by simp) _).setCell (by simp) _))

set_option maxHeartbeats 400000 in
theorem valid_any (n d : Int) (w : World) (l1 : -9223372036854775808 ≤ n) (u1 : n ≤ 9223372036854775807) (l2 : -9223372036854775808 ≤ d) (u2 : d ≤ 9223372036854775807) :
    Calls Tryd.prog 48 #[.agg #[.int .i64 n, .int .i64 d]] w fun e w' => e = .returned (.bool (validB n d)) ∧ Below w.heap.size w w' := by
  by_cases h1 : d < 1
  · have E := Lib.hid (valid_no (n := n) (d := d) (.inl h1))
    go_enter Tryd.func48, Tryd.ntmps48
    go_wp2
    go_ret
    exact ⟨ret_bool (by rw [E.out]), bel1 _ _⟩
  by_cases h2 : 4611686018427387904 < d
  · have E := Lib.hid (valid_no (n := n) (d := d) (.inr (.inl h2)))
    go_enter Tryd.func48, Tryd.ntmps48
    go_wp2
    go_ret
    exact ⟨ret_bool (by rw [E.out]), bel1 _ _⟩
  by_cases h3 : n < -4611686018427387904
  · have E := Lib.hid (valid_no (n := n) (d := d) (.inr (.inr (.inl h3))))
    go_enter Tryd.func48, Tryd.ntmps48
    go_wp2
    go_ret
    exact ⟨ret_bool (by rw [E.out]), bel1 _ _⟩
  by_cases h4 : 4611686018427387904 < n
  · have E := Lib.hid (valid_no (n := n) (d := d) (.inr (.inr (.inr h4))))
    go_enter Tryd.func48, Tryd.ntmps48
    go_wp2
    go_ret
    exact ⟨ret_bool (by rw [E.out]), bel1 _ _⟩
  obtain ⟨k, rfl⟩ : ∃ k : Nat, d = (k : Int) := ⟨d.toNat, by omega⟩
  have E := Lib.hid (valid_yes (n := n) (d := k) (by omega) (by omega) (by omega))
  go_enter Tryd.func48, Tryd.ntmps48
  go_wp2
  go_quiet (first | (go_at_call 31; exact Calls.quiet_of_same (abs_same _ _ (by omega) (by omega))) | (go_at_call 30; exact Calls.quiet_of (gcd_q _ _ _ (by omega) (by omega))))
  go_wp2
  go_ret
  exact ⟨ret_bool (by rw [E.out]; rfl), bdrew (bel1 _ _) _⟩
end
end Go.Proofs.YthoibeajhdhdhaaDoor
