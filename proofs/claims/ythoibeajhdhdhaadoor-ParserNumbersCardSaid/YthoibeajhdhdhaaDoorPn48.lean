/- Contracts, packed: Fh Fi. -/
import Derived.Test.YthoibeajhdhdhaaDoorPn45
import Derived.Test.YthoibeajhdhdhaaDoorPn46
import Derived.Test.YthoibeajhdhdhaaDoorPn47
set_option linter.unusedVariables false
set_option linter.unusedSimpArgs false
namespace Go.Proofs.YthoibeajhdhdhaaDoor
section
open Go.RowKit FracM

theorem eq0 {n : Nat} (h : n = 0) : ((n : Int) == 0) = true := by simp [h]
theorem ne0 {n : Nat} (h : ¬ n = 0) : ((n : Int) == 0) = false := by simp; omega
theorem eqn {n m : Nat} (h : n = m) : ((n : Int) == (m : Int)) = true := by simp [h]
theorem nen {n m : Nat} (h : ¬ n = m) : ((n : Int) == (m : Int)) = false := by simp; omega
/-- bounds on the words of a number below 2^125 -/
theorem w2_bd {x : Int} {h l : Nat} {n : Bool} (H : W2 x h l n) (hx : x.natAbs ≤ 21267647932558653966460912964485513216) : h < 4611686018427387904 ∧ l < 18446744073709551616 ∧ h * 18446744073709551616 + l = x.natAbs ∧ (n = true → x < 0) ∧ (n = false → 0 ≤ x) := by
  obtain ⟨h1, h2, h3⟩ := H
  refine ⟨by omega, h2, h1, ?_, ?_⟩
  · intro hn; rw [hn] at h3; simpa using h3.symm
  · intro hn; rw [hn] at h3; simpa using h3.symm
theorem prod_bd {a b : Int} (ha : a.natAbs ≤ 4611686018427387904) (hb : b.natAbs ≤ 4611686018427387904) : (a * b).natAbs ≤ 21267647932558653966460912964485513216 := by
  rw [Int.natAbs_mul]; exact Nat.le_trans (Nat.mul_le_mul ha hb) (by decide)
theorem rel_ff {x y : Int} (h1 : 0 ≤ x) (h2 : 0 ≤ y) : (x + y).natAbs = x.natAbs + y.natAbs ∧ decide (x + y < 0) = false := ⟨by omega, by simp; omega⟩
theorem rel_tt {x y : Int} (h1 : x < 0) (h2 : y < 0) : (x + y).natAbs = x.natAbs + y.natAbs ∧ decide (x + y < 0) = true := ⟨by omega, by simp; omega⟩
theorem rel_ft {x y : Int} (h1 : 0 ≤ x) (h2 : y < 0) : (x.natAbs < y.natAbs → (x + y).natAbs + x.natAbs = y.natAbs ∧ decide (x + y < 0) = true) ∧ (y.natAbs ≤ x.natAbs → (x + y).natAbs + y.natAbs = x.natAbs ∧ decide (x + y < 0) = false) := ⟨fun h => ⟨by omega, by simp; omega⟩, fun h => ⟨by omega, by simp; omega⟩⟩
theorem rel_tf {x y : Int} (h1 : x < 0) (h2 : 0 ≤ y) : (x.natAbs < y.natAbs → (x + y).natAbs + x.natAbs = y.natAbs ∧ decide (x + y < 0) = false) ∧ (y.natAbs < x.natAbs → (x + y).natAbs + y.natAbs = x.natAbs ∧ decide (x + y < 0) = true) ∧ (x.natAbs = y.natAbs → (x + y).natAbs = 0 ∧ decide (x + y < 0) = false) := ⟨fun h => ⟨by omega, by simp; omega⟩, fun h => ⟨by omega, by simp; omega⟩, fun h => ⟨by omega, by simp; omega⟩⟩
theorem sum_any (a b c d : Int) (w : World) (ha : a.natAbs ≤ 4611686018427387904) (hb : b.natAbs ≤ 4611686018427387904) (hc : c.natAbs ≤ 4611686018427387904) (hd : d.natAbs ≤ 4611686018427387904) :
    Calls Tryd.prog 71 #[.int .i64 a, .int .i64 b, .int .i64 c, .int .i64 d] w (RetW (a * b + c * d) w) := by
  have X := W2.mk' (a * b)
  have Y := W2.mk' (c * d)
  have Z := W2.mk' (a * b + c * d)
  obtain ⟨bx1, bx2, bx3, bx4, bx5⟩ := w2_bd X (prod_bd ha hb)
  obtain ⟨by1, by2, by3, by4, by5⟩ := w2_bd Y (prod_bd hc hd)
  have bz3 := Z.1
  have bz2 := Z.2.1
  have bz4 := Z.2.2
  unfold RetW
  rw [Z.val]
  generalize hiN (a * b) = h1 at *
  generalize loN (a * b) = l1 at *
  generalize hiN (c * d) = h2 at *
  generalize loN (c * d) = l2 at *
  generalize hiN (a * b + c * d) = hi at *
  generalize loN (a * b + c * d) = lo at *
  generalize decide (a * b < 0) = n1 at *
  generalize decide (c * d < 0) = n2 at *
  clear Z
  generalize hz : decide (a * b + c * d < 0) = n3 at *
  have XX := Box.mk X
  have YY := Box.mk Y
  clear X Y
  have ra : -9223372036854775807 ≤ a ∧ a ≤ 9223372036854775807 := by omega
  have rb : -9223372036854775807 ≤ b ∧ b ≤ 9223372036854775807 := by omega
  have rc : -9223372036854775807 ≤ c ∧ c ≤ 9223372036854775807 := by omega
  have rd : -9223372036854775807 ≤ d ∧ d ≤ 9223372036854775807 := by omega
  clear ha hb hc hd
  obtain ⟨x, hx⟩ : ∃ x, x = a * b := ⟨_, rfl⟩
  obtain ⟨y, hy⟩ : ∃ y, y = c * d := ⟨_, rfl⟩
  rw [← hx] at bx3 bx4 bx5
  rw [← hy] at by3 by4 by5
  rw [← hx, ← hy] at bz3 hz
  clear hx hy bz4
  rcases n1 with _ | _ <;> rcases n2 with _ | _
  · obtain ⟨r1, r2⟩ := rel_ff (bx5 rfl) (by5 rfl)
    rw [hz] at r2; subst r2
    clear bx4 bx5 by4 by5 hz
    generalize x.natAbs = Nx at *
    generalize y.natAbs = Ny at *
    generalize (x + y).natAbs = Nz at *
    exact sum_ff a b c d w XX.out YY.out ra.1 ra.2 rb.1 rb.2 rc.1 rc.2 rd.1 rd.2 (addF_of (by omega) (by omega) (by omega) (by omega) bz2 (by rw [bz3, bx3, by3]; omega))
  · have rel := rel_ft (bx5 rfl) (by4 rfl)
    rw [hz] at rel
    have npos : 0 < y.natAbs := Int.natAbs_pos.2 (Int.ne_of_lt (by4 rfl))
    clear bx4 bx5 by4 by5 hz
    generalize x.natAbs = Nx at *
    generalize y.natAbs = Ny at *
    generalize (x + y).natAbs = Nz at *
    by_cases z0 : h1 = 0 ∧ l1 = 0
    · obtain ⟨r1, rfl⟩ := rel.1 (by omega)
      exact sum_0t a b c d w XX.out YY.out ra.1 ra.2 rb.1 rb.2 rc.1 rc.2 rd.1 rd.2 (addF_of (by omega) (by omega) (by omega) (by omega) bz2 (by rw [bz3, bx3, by3]; omega)) (eq0 z0.1) (eq0 z0.2)
    by_cases y1 : h1 < h2
    · by_cases zh : ¬ h1 = 0
      · obtain ⟨r1, rfl⟩ := rel.1 (by omega)
        by_cases v1 : hi = 0
        · exact sum_ft_lt1_h_hi0 a b c d w XX.out YY.out ra.1 ra.2 rb.1 rb.2 rc.1 rc.2 rd.1 rd.2 (subF_of (by omega) (by omega) (by omega) (by omega) bz2 (by rw [bz3, bx3, by3]; omega)) (ne0 zh) (eq0 v1) (ne0 (by omega)) y1
        · exact sum_ft_lt1_h_hi1 a b c d w XX.out YY.out ra.1 ra.2 rb.1 rb.2 rc.1 rc.2 rd.1 rd.2 (subF_of (by omega) (by omega) (by omega) (by omega) bz2 (by rw [bz3, bx3, by3]; omega)) (ne0 zh) (ne0 v1) y1
      · obtain ⟨r1, rfl⟩ := rel.1 (by omega)
        by_cases v1 : hi = 0
        · exact sum_ft_lt1_l_hi0 a b c d w XX.out YY.out ra.1 ra.2 rb.1 rb.2 rc.1 rc.2 rd.1 rd.2 (subF_of (by omega) (by omega) (by omega) (by omega) bz2 (by rw [bz3, bx3, by3]; omega)) (ne0 (by omega)) (eq0 v1) (ne0 (by omega)) y1
        · exact sum_ft_lt1_l_hi1 a b c d w XX.out YY.out ra.1 ra.2 rb.1 rb.2 rc.1 rc.2 rd.1 rd.2 (subF_of (by omega) (by omega) (by omega) (by omega) bz2 (by rw [bz3, bx3, by3]; omega)) (ne0 (by omega)) (ne0 v1) y1
    by_cases y2 : h1 = h2 ∧ l1 < l2
    · by_cases zh : ¬ h1 = 0
      · obtain ⟨r1, rfl⟩ := rel.1 (by omega)
        by_cases v1 : hi = 0
        · exact sum_ft_lt2_h_hi0 a b c d w XX.out YY.out ra.1 ra.2 rb.1 rb.2 rc.1 rc.2 rd.1 rd.2 (subF_of (by omega) (by omega) (by omega) (by omega) bz2 (by rw [bz3, bx3, by3]; omega)) (ne0 zh) (eq0 v1) (ne0 (by omega)) (by omega) (eqn y2.1) y2.2
        · exact sum_ft_lt2_h_hi1 a b c d w XX.out YY.out ra.1 ra.2 rb.1 rb.2 rc.1 rc.2 rd.1 rd.2 (subF_of (by omega) (by omega) (by omega) (by omega) bz2 (by rw [bz3, bx3, by3]; omega)) (ne0 zh) (ne0 v1) (by omega) (eqn y2.1) y2.2
      · obtain ⟨r1, rfl⟩ := rel.1 (by omega)
        by_cases v1 : hi = 0
        · exact sum_ft_lt2_l_hi0 a b c d w XX.out YY.out ra.1 ra.2 rb.1 rb.2 rc.1 rc.2 rd.1 rd.2 (subF_of (by omega) (by omega) (by omega) (by omega) bz2 (by rw [bz3, bx3, by3]; omega)) (ne0 (by omega)) (eq0 v1) (ne0 (by omega)) (by omega) (eqn y2.1) y2.2
        · exact sum_ft_lt2_l_hi1 a b c d w XX.out YY.out ra.1 ra.2 rb.1 rb.2 rc.1 rc.2 rd.1 rd.2 (subF_of (by omega) (by omega) (by omega) (by omega) bz2 (by rw [bz3, bx3, by3]; omega)) (ne0 (by omega)) (ne0 v1) (by omega) (eqn y2.1) y2.2
    by_cases y3 : ¬ h1 = h2
    · by_cases zh : ¬ h1 = 0
      · obtain ⟨r1, rfl⟩ := rel.2 (by omega)
        by_cases v1 : hi = 0
        · exact sum_ft_ge1_h_hi0 a b c d w XX.out YY.out ra.1 ra.2 rb.1 rb.2 rc.1 rc.2 rd.1 rd.2 (subF_of (by omega) (by omega) (by omega) (by omega) bz2 (by rw [bz3, bx3, by3]; omega)) (ne0 zh) (eq0 v1) (ne0 (by omega)) y1 (nen y3)
        · exact sum_ft_ge1_h_hi1 a b c d w XX.out YY.out ra.1 ra.2 rb.1 rb.2 rc.1 rc.2 rd.1 rd.2 (subF_of (by omega) (by omega) (by omega) (by omega) bz2 (by rw [bz3, bx3, by3]; omega)) (ne0 zh) (ne0 v1) y1 (nen y3)
      · obtain ⟨r1, rfl⟩ := rel.2 (by omega)
        by_cases v1 : hi = 0
        · exact sum_ft_ge1_l_hi0 a b c d w XX.out YY.out ra.1 ra.2 rb.1 rb.2 rc.1 rc.2 rd.1 rd.2 (subF_of (by omega) (by omega) (by omega) (by omega) bz2 (by rw [bz3, bx3, by3]; omega)) (ne0 (by omega)) (eq0 v1) (ne0 (by omega)) y1 (nen y3)
        · exact sum_ft_ge1_l_hi1 a b c d w XX.out YY.out ra.1 ra.2 rb.1 rb.2 rc.1 rc.2 rd.1 rd.2 (subF_of (by omega) (by omega) (by omega) (by omega) bz2 (by rw [bz3, bx3, by3]; omega)) (ne0 (by omega)) (ne0 v1) y1 (nen y3)
    by_cases zh : ¬ h1 = 0
    · by_cases v0 : hi = 0 ∧ lo = 0
      · obtain ⟨r1, rfl⟩ := rel.2 (by omega)
        obtain ⟨v1, v2⟩ := v0
        have r := sum_ft_ge2_h_zero a b c d w XX.out YY.out ra.1 ra.2 rb.1 rb.2 rc.1 rc.2 rd.1 rd.2 (subF_of (by omega) (by omega) (by omega) (by omega) bz2 (by rw [bz3, bx3, by3]; omega)) (ne0 zh) (eq0 v1) (eq0 v2) (by omega) (eqn (by omega)) (by omega)
        rw [v1, v2]
        exact r
      obtain ⟨r1, rfl⟩ := rel.2 (by omega)
      by_cases v1 : hi = 0
      · exact sum_ft_ge2_h_hi0 a b c d w XX.out YY.out ra.1 ra.2 rb.1 rb.2 rc.1 rc.2 rd.1 rd.2 (subF_of (by omega) (by omega) (by omega) (by omega) bz2 (by rw [bz3, bx3, by3]; omega)) (ne0 zh) (eq0 v1) (ne0 (by omega)) (by omega) (eqn (by omega)) (by omega)
      · exact sum_ft_ge2_h_hi1 a b c d w XX.out YY.out ra.1 ra.2 rb.1 rb.2 rc.1 rc.2 rd.1 rd.2 (subF_of (by omega) (by omega) (by omega) (by omega) bz2 (by rw [bz3, bx3, by3]; omega)) (ne0 zh) (ne0 v1) (by omega) (eqn (by omega)) (by omega)
    · by_cases v0 : hi = 0 ∧ lo = 0
      · obtain ⟨r1, rfl⟩ := rel.2 (by omega)
        obtain ⟨v1, v2⟩ := v0
        have r := sum_ft_ge2_l_zero a b c d w XX.out YY.out ra.1 ra.2 rb.1 rb.2 rc.1 rc.2 rd.1 rd.2 (subF_of (by omega) (by omega) (by omega) (by omega) bz2 (by rw [bz3, bx3, by3]; omega)) (ne0 (by omega)) (eq0 v1) (eq0 v2) (by omega) (eqn (by omega)) (by omega)
        rw [v1, v2]
        exact r
      obtain ⟨r1, rfl⟩ := rel.2 (by omega)
      by_cases v1 : hi = 0
      · exact sum_ft_ge2_l_hi0 a b c d w XX.out YY.out ra.1 ra.2 rb.1 rb.2 rc.1 rc.2 rd.1 rd.2 (subF_of (by omega) (by omega) (by omega) (by omega) bz2 (by rw [bz3, bx3, by3]; omega)) (ne0 (by omega)) (eq0 v1) (ne0 (by omega)) (by omega) (eqn (by omega)) (by omega)
      · exact sum_ft_ge2_l_hi1 a b c d w XX.out YY.out ra.1 ra.2 rb.1 rb.2 rc.1 rc.2 rd.1 rd.2 (subF_of (by omega) (by omega) (by omega) (by omega) bz2 (by rw [bz3, bx3, by3]; omega)) (ne0 (by omega)) (ne0 v1) (by omega) (eqn (by omega)) (by omega)
  · have rel := rel_tf (bx4 rfl) (by5 rfl)
    rw [hz] at rel
    have npos : 0 < x.natAbs := Int.natAbs_pos.2 (Int.ne_of_lt (bx4 rfl))
    clear bx4 bx5 by4 by5 hz
    generalize x.natAbs = Nx at *
    generalize y.natAbs = Ny at *
    generalize (x + y).natAbs = Nz at *
    by_cases z0 : h2 = 0 ∧ l2 = 0
    · obtain ⟨r1, rfl⟩ := rel.2.1 (by omega)
      exact sum_t0 a b c d w XX.out YY.out ra.1 ra.2 rb.1 rb.2 rc.1 rc.2 rd.1 rd.2 (addF_of (by omega) (by omega) (by omega) (by omega) bz2 (by rw [bz3, bx3, by3]; omega)) (eq0 z0.1) (eq0 z0.2)
    by_cases y1 : h1 < h2
    · by_cases zh : ¬ h2 = 0
      · obtain ⟨r1, rfl⟩ := rel.1 (by omega)
        by_cases v1 : hi = 0
        · exact sum_tf_lt1_h_hi0 a b c d w XX.out YY.out ra.1 ra.2 rb.1 rb.2 rc.1 rc.2 rd.1 rd.2 (subF_of (by omega) (by omega) (by omega) (by omega) bz2 (by rw [bz3, bx3, by3]; omega)) (ne0 zh) (eq0 v1) (ne0 (by omega)) y1
        · exact sum_tf_lt1_h_hi1 a b c d w XX.out YY.out ra.1 ra.2 rb.1 rb.2 rc.1 rc.2 rd.1 rd.2 (subF_of (by omega) (by omega) (by omega) (by omega) bz2 (by rw [bz3, bx3, by3]; omega)) (ne0 zh) (ne0 v1) y1
      · obtain ⟨r1, rfl⟩ := rel.1 (by omega)
        by_cases v1 : hi = 0
        · exact sum_tf_lt1_l_hi0 a b c d w XX.out YY.out ra.1 ra.2 rb.1 rb.2 rc.1 rc.2 rd.1 rd.2 (subF_of (by omega) (by omega) (by omega) (by omega) bz2 (by rw [bz3, bx3, by3]; omega)) (ne0 (by omega)) (eq0 v1) (ne0 (by omega)) y1
        · exact sum_tf_lt1_l_hi1 a b c d w XX.out YY.out ra.1 ra.2 rb.1 rb.2 rc.1 rc.2 rd.1 rd.2 (subF_of (by omega) (by omega) (by omega) (by omega) bz2 (by rw [bz3, bx3, by3]; omega)) (ne0 (by omega)) (ne0 v1) y1
    by_cases y2 : h1 = h2 ∧ l1 < l2
    · by_cases zh : ¬ h2 = 0
      · obtain ⟨r1, rfl⟩ := rel.1 (by omega)
        by_cases v1 : hi = 0
        · exact sum_tf_lt2_h_hi0 a b c d w XX.out YY.out ra.1 ra.2 rb.1 rb.2 rc.1 rc.2 rd.1 rd.2 (subF_of (by omega) (by omega) (by omega) (by omega) bz2 (by rw [bz3, bx3, by3]; omega)) (ne0 zh) (eq0 v1) (ne0 (by omega)) (by omega) (eqn y2.1) y2.2
        · exact sum_tf_lt2_h_hi1 a b c d w XX.out YY.out ra.1 ra.2 rb.1 rb.2 rc.1 rc.2 rd.1 rd.2 (subF_of (by omega) (by omega) (by omega) (by omega) bz2 (by rw [bz3, bx3, by3]; omega)) (ne0 zh) (ne0 v1) (by omega) (eqn y2.1) y2.2
      · obtain ⟨r1, rfl⟩ := rel.1 (by omega)
        by_cases v1 : hi = 0
        · exact sum_tf_lt2_l_hi0 a b c d w XX.out YY.out ra.1 ra.2 rb.1 rb.2 rc.1 rc.2 rd.1 rd.2 (subF_of (by omega) (by omega) (by omega) (by omega) bz2 (by rw [bz3, bx3, by3]; omega)) (ne0 (by omega)) (eq0 v1) (ne0 (by omega)) (by omega) (eqn y2.1) y2.2
        · exact sum_tf_lt2_l_hi1 a b c d w XX.out YY.out ra.1 ra.2 rb.1 rb.2 rc.1 rc.2 rd.1 rd.2 (subF_of (by omega) (by omega) (by omega) (by omega) bz2 (by rw [bz3, bx3, by3]; omega)) (ne0 (by omega)) (ne0 v1) (by omega) (eqn y2.1) y2.2
    by_cases y3 : ¬ h1 = h2
    · by_cases zh : ¬ h2 = 0
      · obtain ⟨r1, rfl⟩ := rel.2.1 (by omega)
        by_cases v1 : hi = 0
        · exact sum_tf_ge1_h_hi0 a b c d w XX.out YY.out ra.1 ra.2 rb.1 rb.2 rc.1 rc.2 rd.1 rd.2 (subF_of (by omega) (by omega) (by omega) (by omega) bz2 (by rw [bz3, bx3, by3]; omega)) (ne0 zh) (eq0 v1) (ne0 (by omega)) y1 (nen y3)
        · exact sum_tf_ge1_h_hi1 a b c d w XX.out YY.out ra.1 ra.2 rb.1 rb.2 rc.1 rc.2 rd.1 rd.2 (subF_of (by omega) (by omega) (by omega) (by omega) bz2 (by rw [bz3, bx3, by3]; omega)) (ne0 zh) (ne0 v1) y1 (nen y3)
      · obtain ⟨r1, rfl⟩ := rel.2.1 (by omega)
        by_cases v1 : hi = 0
        · exact sum_tf_ge1_l_hi0 a b c d w XX.out YY.out ra.1 ra.2 rb.1 rb.2 rc.1 rc.2 rd.1 rd.2 (subF_of (by omega) (by omega) (by omega) (by omega) bz2 (by rw [bz3, bx3, by3]; omega)) (ne0 (by omega)) (eq0 v1) (ne0 (by omega)) y1 (nen y3)
        · exact sum_tf_ge1_l_hi1 a b c d w XX.out YY.out ra.1 ra.2 rb.1 rb.2 rc.1 rc.2 rd.1 rd.2 (subF_of (by omega) (by omega) (by omega) (by omega) bz2 (by rw [bz3, bx3, by3]; omega)) (ne0 (by omega)) (ne0 v1) y1 (nen y3)
    by_cases zh : ¬ h2 = 0
    · by_cases v0 : hi = 0 ∧ lo = 0
      · obtain ⟨r1, rfl⟩ := rel.2.2 (by omega)
        obtain ⟨v1, v2⟩ := v0
        have r := sum_tf_ge2_h_zero a b c d w XX.out YY.out ra.1 ra.2 rb.1 rb.2 rc.1 rc.2 rd.1 rd.2 (subF_of (by omega) (by omega) (by omega) (by omega) bz2 (by rw [bz3, bx3, by3]; omega)) (ne0 zh) (eq0 v1) (eq0 v2) (by omega) (eqn (by omega)) (by omega)
        rw [v1, v2]
        exact r
      obtain ⟨r1, rfl⟩ := rel.2.1 (by omega)
      by_cases v1 : hi = 0
      · exact sum_tf_ge2_h_hi0 a b c d w XX.out YY.out ra.1 ra.2 rb.1 rb.2 rc.1 rc.2 rd.1 rd.2 (subF_of (by omega) (by omega) (by omega) (by omega) bz2 (by rw [bz3, bx3, by3]; omega)) (ne0 zh) (eq0 v1) (ne0 (by omega)) (by omega) (eqn (by omega)) (by omega)
      · exact sum_tf_ge2_h_hi1 a b c d w XX.out YY.out ra.1 ra.2 rb.1 rb.2 rc.1 rc.2 rd.1 rd.2 (subF_of (by omega) (by omega) (by omega) (by omega) bz2 (by rw [bz3, bx3, by3]; omega)) (ne0 zh) (ne0 v1) (by omega) (eqn (by omega)) (by omega)
    · by_cases v0 : hi = 0 ∧ lo = 0
      · obtain ⟨r1, rfl⟩ := rel.2.2 (by omega)
        obtain ⟨v1, v2⟩ := v0
        have r := sum_tf_ge2_l_zero a b c d w XX.out YY.out ra.1 ra.2 rb.1 rb.2 rc.1 rc.2 rd.1 rd.2 (subF_of (by omega) (by omega) (by omega) (by omega) bz2 (by rw [bz3, bx3, by3]; omega)) (ne0 (by omega)) (eq0 v1) (eq0 v2) (by omega) (eqn (by omega)) (by omega)
        rw [v1, v2]
        exact r
      obtain ⟨r1, rfl⟩ := rel.2.1 (by omega)
      by_cases v1 : hi = 0
      · exact sum_tf_ge2_l_hi0 a b c d w XX.out YY.out ra.1 ra.2 rb.1 rb.2 rc.1 rc.2 rd.1 rd.2 (subF_of (by omega) (by omega) (by omega) (by omega) bz2 (by rw [bz3, bx3, by3]; omega)) (ne0 (by omega)) (eq0 v1) (ne0 (by omega)) (by omega) (eqn (by omega)) (by omega)
      · exact sum_tf_ge2_l_hi1 a b c d w XX.out YY.out ra.1 ra.2 rb.1 rb.2 rc.1 rc.2 rd.1 rd.2 (subF_of (by omega) (by omega) (by omega) (by omega) bz2 (by rw [bz3, bx3, by3]; omega)) (ne0 (by omega)) (ne0 v1) (by omega) (eqn (by omega)) (by omega)
  · obtain ⟨r1, r2⟩ := rel_tt (bx4 rfl) (by4 rfl)
    rw [hz] at r2; subst r2
    clear bx4 bx5 by4 by5 hz
    generalize x.natAbs = Nx at *
    generalize y.natAbs = Ny at *
    generalize (x + y).natAbs = Nz at *
    exact sum_tt a b c d w XX.out YY.out ra.1 ra.2 rb.1 rb.2 rc.1 rc.2 rd.1 rd.2 (addF_of (by omega) (by omega) (by omega) (by omega) bz2 (by rw [bz3, bx3, by3]; omega))

theorem div64_any (hi lo y : Nat) (w : World) (h1 : 1 ≤ y) (h2 : y < 18446744073709551616) (h3 : lo < 18446744073709551616) (h4 : hi < y) :
    Calls Tryd.prog 74 #[.int .u64 hi, .int .u64 lo, .int .u64 y] w fun e w' => e = .returned (.tuple #[.int .u64 (((hi * 18446744073709551616 + lo) / y : Nat) : Int), .int .u64 (((hi * 18446744073709551616 + lo) % y : Nat) : Int)]) ∧ ∃ n, w' = w.drewN n := by
  by_cases h5 : hi = 0
  · subst h5
    rw [Nat.zero_mul, Nat.zero_add]
    exact div64_zero lo y w h1 h2 h3
  · have hl : Lib.bitLen y ≤ 64 := by
      have hb := Lib.bitLenAux_bounds 64 y (by omega) (by omega)
      rcases Nat.lt_or_ge 64 (Lib.bitLen y) with h | h
      · have : 2 ^ 64 ≤ 2 ^ (Lib.bitLen y - 1) := Nat.pow_le_pow_right (by omega) (by omega)
        have := hb.2.1
        unfold Lib.bitLen at *
        omega
      · exact h
    exact (div64_norm hi lo y (64 - Lib.bitLen y) w h1 h2 h3 h4 (by omega) (by omega)).mono fun e w' ⟨a, b⟩ => ⟨a, 0, b.symm⟩
theorem rem64_any (hi lo y : Nat) (w : World) (h1 : 1 ≤ y) (h2 : y < 18446744073709551616) (h3 : lo < 18446744073709551616) (h4 : hi < 18446744073709551616) :
    Calls Tryd.prog 72 #[.int .u64 hi, .int .u64 lo, .int .u64 y] w fun e w' => e = .returned (.int .u64 (((hi * 18446744073709551616 + lo) % y : Nat) : Int)) ∧ ∃ n, w' = w.drewN n := by
  have z1 : ((y : Int) == 0) = false := by simp; omega
  have hlt : hi % y < y := Nat.mod_lt _ (by omega)
  have HM : Box ((hi % y * 18446744073709551616 + lo) % y = (hi * 18446744073709551616 + lo) % y) := ⟨by rw [Nat.add_mod, Nat.mul_mod, Nat.mod_mod, ← Nat.mul_mod, ← Nat.add_mod]⟩
  obtain ⟨m, hm⟩ : ∃ m, m = hi % y := ⟨_, rfl⟩
  rw [← hm] at hlt HM
  have e1 : (hi : Int) % (y : Int) = (m : Int) := by rw [hm]; exact (Int.natCast_emod _ _).symm
  clear hm
  go_enter Tryd.func72, Tryd.ntmps72
  go_wp2_with (go_at_call 74; refine (div64_any _ _ _ _ h1 h2 h3 hlt).mono ?_; rintro e w' ⟨rfl, nq, rfl⟩; rw [HM.out])
  go_ret
  exact ⟨rfl, nq, rfl⟩
end
section
open Go.RowKit FracM

def fr (n d : Int) : Array Value := #[.int .i64 n, .int .i64 d]
/-- two fractions of the call's own, behind one another -/
structure Bx2 (w W : World) (n1 d1 n2 d2 : Int) : Prop where
  below : Below w.heap.size w W
  b0 : Blk W w.heap.size 24 #[.int .i64 n1, .int .i64 d1]
  b1 : Blk W (w.heap.size + 1) 24 #[.int .i64 n2, .int .i64 d2]
theorem Bx2.start (w : World) (n1 d1 n2 d2 : Int) : Bx2 w ((w.alloc (.cells #[.int .i64 n1, .int .i64 d1] 24)).alloc (.cells #[.int .i64 n2, .int .i64 d2] 24)) n1 d1 n2 d2 :=
  ⟨bel2 _ _ _, (Blk.new _ _ _).alloc _, Blk.newAt _ _ (by simp)⟩
theorem Bx2.next {w W W' : World} {n1 d1 n2 d2 : Int} (h : Bx2 w W n1 d1 n2 d2) (hb : Below W.heap.size W W') : Bx2 w W' n1 d1 n2 d2 :=
  ⟨bthen h.below hb (Nat.le_refl _), h.b0.below hb, h.b1.below hb⟩
/-- .. and a third, the result *-/
structure Bx3 (w W : World) (n1 d1 n2 d2 : Int) : Prop extends Bx2 w W n1 d1 n2 d2 where
  b2 : Blk W (w.heap.size + 1 + 1) 24 #[.int .i64 0, .int .i64 0]
theorem Bx3.start (w : World) (n1 d1 n2 d2 : Int) : Bx3 w (((w.alloc (.cells #[.int .i64 n1, .int .i64 d1] 24)).alloc (.cells #[.int .i64 n2, .int .i64 d2] 24)).alloc (.cells #[.int .i64 0, .int .i64 0] 24)) n1 d1 n2 d2 :=
  ⟨(Bx2.start w n1 d1 n2 d2).next (bel1 _ _), Blk.newAt _ _ (by simp)⟩
theorem Bx3.next {w W W' : World} {n1 d1 n2 d2 : Int} (h : Bx3 w W n1 d1 n2 d2) (hb : Below W.heap.size W W') : Bx3 w W' n1 d1 n2 d2 :=
  ⟨h.toBx2.next hb, h.b2.below hb⟩
theorem sum_w {a b c d : Int} {h l : Nat} {n : Bool} (w : World) (H : W2 (a * b + c * d) h l n) (ha : a.natAbs ≤ 4611686018427387904) (hb : b.natAbs ≤ 4611686018427387904) (hc : c.natAbs ≤ 4611686018427387904) (hd : d.natAbs ≤ 4611686018427387904) :
    Calls Tryd.prog 71 #[.int .i64 a, .int .i64 b, .int .i64 c, .int .i64 d] w fun e w' => e = .returned (.agg #[.int .u64 h, .int .u64 l, .bool n]) ∧ Below w.heap.size w w' := by
  have := sum_any a b c d w ha hb hc hd
  unfold RetW at this
  rw [H.val] at this
  exact this
theorem valid_bd {n d : Int} (h : validB n d = true) : n.natAbs ≤ 4611686018427387904 ∧ 1 ≤ d ∧ d ≤ 4611686018427387904 := by
  obtain ⟨h1, h2, h3, _⟩ := valid_iff.1 h
  unfold M at *
  exact ⟨h3, h1, by omega⟩
end
end Go.Proofs.YthoibeajhdhdhaaDoor
