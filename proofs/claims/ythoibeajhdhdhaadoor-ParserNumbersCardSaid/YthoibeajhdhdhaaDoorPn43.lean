/- Contracts, packed: Fc Fd. -/
import Derived.Test.YthoibeajhdhdhaaDoorPn16
import Derived.Test.YthoibeajhdhdhaaDoorPn42
set_option linter.unusedVariables false
set_option linter.unusedSimpArgs false
namespace Go.Proofs.YthoibeajhdhdhaaDoor
section
open Go.RowKit FracM
end
section
open Go.RowKit FracM

def hiN (x : Int) : Nat := x.natAbs / 18446744073709551616
def loN (x : Int) : Nat := x.natAbs % 18446744073709551616
def wideV (x : Int) : Value := .agg #[.int .u64 (hiN x), .int .u64 (loN x), .bool (decide (x < 0))]
theorem lo_lt (x : Int) : loN x < 18446744073709551616 := Nat.mod_lt _ (by omega)
theorem wide_eq (x : Int) : hiN x * 18446744073709551616 + loN x = x.natAbs := by unfold hiN loN; omega
theorem wide_zero (x : Int) : (hiN x = 0 ∧ loN x = 0) ↔ x = 0 := by unfold hiN loN; omega
theorem mul_natAbs (a b : Int) : a.natAbs * b.natAbs = (a * b).natAbs := (Int.natAbs_mul a b).symm
theorem mul_neg_iff (a b : Int) (h : ¬ a * b = 0) : a * b < 0 ↔ (a < 0 ∧ ¬ b < 0) ∨ (¬ a < 0 ∧ b < 0) := by
  have ha : a ≠ 0 := fun h' => h (by simp [h'])
  have hb : b ≠ 0 := fun h' => h (by simp [h'])
  rcases Int.lt_or_lt_of_ne ha with h1 | h1 <;> rcases Int.lt_or_lt_of_ne hb with h2 | h2
  · have := Int.mul_pos_of_neg_of_neg h1 h2; omega
  · have := Int.mul_neg_of_neg_of_pos h1 h2; omega
  · have := Int.mul_neg_of_pos_of_neg h1 h2; omega
  · have := Int.mul_pos h1 h2; omega
def RetW (x : Int) (w : World) (e : Ending) (w' : World) : Prop := e = .returned (wideV x) ∧ Below w.heap.size w w'

set_option maxHeartbeats 1000000 in
theorem product_any (a b : Int) (w : World) (l1 : -9223372036854775807 ≤ a) (u1 : a ≤ 9223372036854775807) (l2 : -9223372036854775807 ≤ b) (u2 : b ≤ 9223372036854775807) :
    Calls Tryd.prog 76 #[.int .i64 a, .int .i64 b] w (RetW (a * b) w) := by
  have HM : Hid (a.natAbs * b.natAbs = (a * b).natAbs) := mul_natAbs a b
  have HH : Hid (((a.natAbs * b.natAbs / 18446744073709551616 : Nat) : Int) = hiN (a * b)) := by show _ = _; rw [mul_natAbs]; rfl
  have HL : Hid (((a.natAbs * b.natAbs % 18446744073709551616 : Nat) : Int) = loN (a * b)) := by show _ = _; rw [mul_natAbs]; rfl
  have hlo := lo_lt (a * b)
  by_cases h0 : a * b = 0
  · have E : Hid (wideV (a * b) = .agg #[.int .u64 0, .int .u64 0, .bool false]) := by show _ = _; rw [h0]; rfl
    obtain ⟨z1, z2⟩ := (wide_zero (a * b)).2 h0
    have Z : Hid (hiN (a * b) = 0 ∧ loN (a * b) = 0) := ⟨z1, z2⟩
    clear h0 z1 z2 hlo
    go_enter Tryd.func76, Tryd.ntmps76
    go_wp2_with (first
      | (go_at_call 31; refine (abs_any _ _ (by omega) (by omega)).mono ?_; rintro e w' ⟨rfl, rfl⟩)
      | (go_at_call 75; refine (Tryd.bits_Mul64 _ _ (by omega) (by omega) _).mono ?_; rintro e w' ⟨rfl, rfl⟩; rw [HH.out, HL.out, Z.out.1, Z.out.2]))
    exact bodyPost_ret (v := .agg #[.int .u64 0, .int .u64 0, .bool false]) (by simp [results, Tryd.results76, go_sem]) rfl ⟨ret_val E.out.symm, bel1 _ _⟩
  have hz : ¬ (hiN (a * b) = 0 ∧ loN (a * b) = 0) := fun h => h0 ((wide_zero _).1 h)
  have hng := mul_neg_iff a b h0
  have H0 := Lib.hid h0; have HN := Lib.hid hng; clear h0 hng
  obtain ⟨hi, hhi⟩ : ∃ hi, hi = hiN (a * b) := ⟨_, rfl⟩
  obtain ⟨lo, hlo'⟩ : ∃ lo, lo = loN (a * b) := ⟨_, rfl⟩
  rw [← hhi] at HH hz
  rw [← hlo'] at HL hz hlo
  have HV : Hid (∀ g, decide (a * b < 0) = g → wideV (a * b) = .agg #[.int .u64 hi, .int .u64 lo, .bool g]) := by intro g hg; unfold wideV; rw [hhi, hlo', hg]
  clear hhi hlo'
  by_cases a1 : a < 0 <;> by_cases a2 : b < 0
  · have E := Lib.hid (HV.out false (by have := HN.out; simp [this, a1, a2]))
    have c1 : decide (a < 0) = true := by simpa using a1
    have c2 : decide (b < 0) = true := by simpa using a2
    clear HV
    by_cases hi0 : hi = 0
    · have lo0 : ((lo : Int) == 0) = false := by simp; omega
      subst hi0
      go_enter Tryd.func76, Tryd.ntmps76
      go_wp2_with (first
        | (go_at_call 31; refine (abs_any _ _ (by omega) (by omega)).mono ?_; rintro e w' ⟨rfl, rfl⟩)
        | (go_at_call 75; refine (Tryd.bits_Mul64 _ _ (by omega) (by omega) _).mono ?_; rintro e w' ⟨rfl, rfl⟩; rw [HH.out, HL.out]))
      exact bodyPost_ret (v := .agg #[.int .u64 0, .int .u64 lo, .bool false]) (by simp [results, Tryd.results76, go_sem]) rfl ⟨ret_val E.out.symm, bel1 _ _⟩
    · have hi1 : ((hi : Int) == 0) = false := by simp; omega
      clear hi0
      go_enter Tryd.func76, Tryd.ntmps76
      go_wp2_with (first
        | (go_at_call 31; refine (abs_any _ _ (by omega) (by omega)).mono ?_; rintro e w' ⟨rfl, rfl⟩)
        | (go_at_call 75; refine (Tryd.bits_Mul64 _ _ (by omega) (by omega) _).mono ?_; rintro e w' ⟨rfl, rfl⟩; rw [HH.out, HL.out]))
      exact bodyPost_ret (v := .agg #[.int .u64 hi, .int .u64 lo, .bool false]) (by simp [results, Tryd.results76, go_sem]) rfl ⟨ret_val E.out.symm, bel1 _ _⟩
  · have E := Lib.hid (HV.out true (by have := HN.out; simp [this, a1, a2]))
    have c1 : decide (a < 0) = true := by simpa using a1
    have c2 : decide (b < 0) = false := by simpa using a2
    clear HV
    by_cases hi0 : hi = 0
    · have lo0 : ((lo : Int) == 0) = false := by simp; omega
      subst hi0
      go_enter Tryd.func76, Tryd.ntmps76
      go_wp2_with (first
        | (go_at_call 31; refine (abs_any _ _ (by omega) (by omega)).mono ?_; rintro e w' ⟨rfl, rfl⟩)
        | (go_at_call 75; refine (Tryd.bits_Mul64 _ _ (by omega) (by omega) _).mono ?_; rintro e w' ⟨rfl, rfl⟩; rw [HH.out, HL.out]))
      exact bodyPost_ret (v := .agg #[.int .u64 0, .int .u64 lo, .bool true]) (by simp [results, Tryd.results76, go_sem]) rfl ⟨ret_val E.out.symm, bel1 _ _⟩
    · have hi1 : ((hi : Int) == 0) = false := by simp; omega
      clear hi0
      go_enter Tryd.func76, Tryd.ntmps76
      go_wp2_with (first
        | (go_at_call 31; refine (abs_any _ _ (by omega) (by omega)).mono ?_; rintro e w' ⟨rfl, rfl⟩)
        | (go_at_call 75; refine (Tryd.bits_Mul64 _ _ (by omega) (by omega) _).mono ?_; rintro e w' ⟨rfl, rfl⟩; rw [HH.out, HL.out]))
      exact bodyPost_ret (v := .agg #[.int .u64 hi, .int .u64 lo, .bool true]) (by simp [results, Tryd.results76, go_sem]) rfl ⟨ret_val E.out.symm, bel1 _ _⟩
  · have E := Lib.hid (HV.out true (by have := HN.out; simp [this, a1, a2]))
    have c1 : decide (a < 0) = false := by simpa using a1
    have c2 : decide (b < 0) = true := by simpa using a2
    clear HV
    by_cases hi0 : hi = 0
    · have lo0 : ((lo : Int) == 0) = false := by simp; omega
      subst hi0
      go_enter Tryd.func76, Tryd.ntmps76
      go_wp2_with (first
        | (go_at_call 31; refine (abs_any _ _ (by omega) (by omega)).mono ?_; rintro e w' ⟨rfl, rfl⟩)
        | (go_at_call 75; refine (Tryd.bits_Mul64 _ _ (by omega) (by omega) _).mono ?_; rintro e w' ⟨rfl, rfl⟩; rw [HH.out, HL.out]))
      exact bodyPost_ret (v := .agg #[.int .u64 0, .int .u64 lo, .bool true]) (by simp [results, Tryd.results76, go_sem]) rfl ⟨ret_val E.out.symm, bel1 _ _⟩
    · have hi1 : ((hi : Int) == 0) = false := by simp; omega
      clear hi0
      go_enter Tryd.func76, Tryd.ntmps76
      go_wp2_with (first
        | (go_at_call 31; refine (abs_any _ _ (by omega) (by omega)).mono ?_; rintro e w' ⟨rfl, rfl⟩)
        | (go_at_call 75; refine (Tryd.bits_Mul64 _ _ (by omega) (by omega) _).mono ?_; rintro e w' ⟨rfl, rfl⟩; rw [HH.out, HL.out]))
      exact bodyPost_ret (v := .agg #[.int .u64 hi, .int .u64 lo, .bool true]) (by simp [results, Tryd.results76, go_sem]) rfl ⟨ret_val E.out.symm, bel1 _ _⟩
  · have E := Lib.hid (HV.out false (by have := HN.out; simp [this, a1, a2]))
    have c1 : decide (a < 0) = false := by simpa using a1
    have c2 : decide (b < 0) = false := by simpa using a2
    clear HV
    by_cases hi0 : hi = 0
    · have lo0 : ((lo : Int) == 0) = false := by simp; omega
      subst hi0
      go_enter Tryd.func76, Tryd.ntmps76
      go_wp2_with (first
        | (go_at_call 31; refine (abs_any _ _ (by omega) (by omega)).mono ?_; rintro e w' ⟨rfl, rfl⟩)
        | (go_at_call 75; refine (Tryd.bits_Mul64 _ _ (by omega) (by omega) _).mono ?_; rintro e w' ⟨rfl, rfl⟩; rw [HH.out, HL.out]))
      exact bodyPost_ret (v := .agg #[.int .u64 0, .int .u64 lo, .bool false]) (by simp [results, Tryd.results76, go_sem]) rfl ⟨ret_val E.out.symm, bel1 _ _⟩
    · have hi1 : ((hi : Int) == 0) = false := by simp; omega
      clear hi0
      go_enter Tryd.func76, Tryd.ntmps76
      go_wp2_with (first
        | (go_at_call 31; refine (abs_any _ _ (by omega) (by omega)).mono ?_; rintro e w' ⟨rfl, rfl⟩)
        | (go_at_call 75; refine (Tryd.bits_Mul64 _ _ (by omega) (by omega) _).mono ?_; rintro e w' ⟨rfl, rfl⟩; rw [HH.out, HL.out]))
      exact bodyPost_ret (v := .agg #[.int .u64 hi, .int .u64 lo, .bool false]) (by simp [results, Tryd.results76, go_sem]) rfl ⟨ret_val E.out.symm, bel1 _ _⟩
end
end Go.Proofs.YthoibeajhdhdhaaDoor
