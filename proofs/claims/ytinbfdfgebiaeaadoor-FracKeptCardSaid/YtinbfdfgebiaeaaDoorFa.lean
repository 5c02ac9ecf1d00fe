/- Small functions of package frac and of its reference: abs, gcd, Around, Bound, Size, common. -/
import Derived.Test.YtinbfdfgebiaeaaDoorBk
import Derived.Test.YtinbfdfgebiaeaaDoorFm
import Derived.RegionTactic
import Derived.ChangeAlike
set_option linter.unusedVariables false
set_option linter.unusedSimpArgs false
namespace Go.Proofs.YtinbfdfgebiaeaaDoor
open Go.RowKit FracM

/-- the call computes v and moves no more than the count of draws -/
def Quiet (v : Value) (w : World) (e : Ending) (w' : World) : Prop := e = .returned v ∧ ∃ n, w' = w.drewN n

theorem abs_any (n : Int) (w : World) (h1 : -9223372036854775807 ≤ n) (h2 : n ≤ 9223372036854775807) :
    Calls Tryd.prog 36 #[.int .i64 n] w fun e w' => e = .returned (.int .i64 (n.natAbs : Int)) ∧ w = w' := by
  by_cases h : n < 0
  · go_enter Tryd.func36, Tryd.ntmps36
    go_wp2
    go_ret
    exact ⟨ret_int (by omega), rfl⟩
  · go_enter Tryd.func36, Tryd.ntmps36
    go_wp2
    go_ret
    exact ⟨ret_int (by omega), rfl⟩

def GcdRel (k : IntKind) (a b : Nat) (w : World) (u v : Value) (wr : World) : Prop :=
  ∃ x y : Nat, u = .int k x ∧ v = .int k y ∧ x ≤ 9223372036854775807 ∧ y ≤ 9223372036854775807 ∧ Nat.gcd x y = Nat.gcd a b ∧ ∃ n, wr = w.drewN n
theorem gcd_step {x y a b : Nat} (h : Nat.gcd x y = Nat.gcd a b) : Nat.gcd y (x % y) = Nat.gcd a b := by
  rw [← h, Nat.gcd_comm y, FracM.gcd_mod_left]

set_option maxHeartbeats 400000 in
theorem gcd_any (a b : Nat) (w : World) (h1 : a ≤ 9223372036854775807) (h2 : b ≤ 9223372036854775807) :
    Calls Tryd.prog 35 #[.int .i64 a, .int .i64 b] w (Quiet (.int .i64 (Nat.gcd a b : Nat)) w) := by
  go_enter Tryd.func35, Tryd.ntmps35
  go_wp2
  go_loopw [0, 1] (fun u v wr => GcdRel .i64 a b w u v wr) (fun _ v _ => (intOf v).toNat)
  case atStart => exact ⟨a, b, rfl, rfl, h1, h2, rfl, 0, rfl⟩
  case round =>
    obtain ⟨x, y, rfl, rfl, hx, hy, hg, n, rfl⟩ := hrel
    have HG := Lib.hid hg; clear hg
    by_cases hz : y = 0
    · subst hz
      have HG2 : Hid (x = Nat.gcd a b) := by show x = Nat.gcd a b; simpa using HG.out
      clear HG
      go_wp2
      go_ret
      exact ⟨ret_int (by rw [← HG2.out]), n, rfl⟩
    · have hz' : ((y : Int) != 0) = true := by simp; omega
      have hz2 : ((y : Int) == 0) = false := by simp; omega
      have hy1 : 1 ≤ (y : Int) := by omega
      have hlt : x % y < y := Nat.mod_lt _ (by omega)
      have hle : x % y ≤ 9223372036854775807 := by omega
      go_wp2
      go_region
      all_goals
        go_wp2
        go_roundw
        case rel => exact ⟨y, x % y, rfl, by go_num, hy, hle, gcd_step HG.out, n + 1, rfl⟩
        case measure => simp [intOf]; omega

set_option maxHeartbeats 400000 in
theorem gcdu_any (a b : Nat) (w : World) (h1 : a ≤ 9223372036854775807) (h2 : b ≤ 9223372036854775807) :
    Calls Tryd.prog 46 #[.int .u64 a, .int .u64 b] w (Quiet (.int .u64 (Nat.gcd a b : Nat)) w) := by
  go_enter Tryd.func46, Tryd.ntmps46
  go_wp2
  go_loopw [0, 1] (fun u v wr => GcdRel .u64 a b w u v wr) (fun _ v _ => (intOf v).toNat)
  case atStart => exact ⟨a, b, rfl, rfl, h1, h2, rfl, 0, rfl⟩
  case round =>
    obtain ⟨x, y, rfl, rfl, hx, hy, hg, n, rfl⟩ := hrel
    have HG := Lib.hid hg; clear hg
    by_cases hz : y = 0
    · subst hz
      have HG2 : Hid (x = Nat.gcd a b) := by show x = Nat.gcd a b; simpa using HG.out
      clear HG
      go_wp2
      go_ret
      exact ⟨ret_int (by rw [← HG2.out]), n, rfl⟩
    · have hz' : ((y : Int) != 0) = true := by simp; omega
      have hz2 : ((y : Int) == 0) = false := by simp; omega
      have hy1 : 1 ≤ (y : Int) := by omega
      have hlt : x % y < y := Nat.mod_lt _ (by omega)
      have hle : x % y ≤ 9223372036854775807 := by omega
      go_wp2
      go_region
      all_goals
        go_wp2
        go_roundw
        case rel => exact ⟨y, x % y, rfl, by go_num, hy, hle, gcd_step HG.out, n + 1, rfl⟩
        case measure => simp [intOf]; omega

/-- 'Around': n modulo most, never negative. -/
def around (n most : Int) : Int := if n < 0 then (-(n + 1)) % most else n % most
theorem around_any (n most : Int) (w : World) (hn1 : -9223372036854775808 ≤ n) (hn2 : n ≤ 9223372036854775807) (h1 : 1 ≤ most) (h2 : most ≤ 9223372036854775807) :
    Calls Tryd.prog 18 #[.int .i64 n, .int .i64 most] w fun e w' => e = .returned (.int .i64 (around n most)) ∧ w = w' := by
  by_cases h : n < 0
  · have e : around n most = (-(n + 1)) % most := if_pos h
    have e2 : (-(n + 1)).tmod most = (-(n + 1)) % most := Int.tmod_eq_emod_of_nonneg (by omega)
    have E := Lib.hid e; have E2 := Lib.hid e2; clear e e2
    go_enter Tryd.func18, Tryd.ntmps18
    go_wp2
    go_ret
    exact ⟨ret_int (by rw [E.out, ← E2.out, Int.neg_tmod]), rfl⟩
  · have e : around n most = n % most := if_neg h
    have E := Lib.hid e; clear e
    go_enter Tryd.func18, Tryd.ntmps18
    go_wp2
    go_ret
    exact ⟨ret_int (by rw [E.out]), rfl⟩
theorem around_bd (n most : Int) (h1 : 1 ≤ most) : 0 ≤ around n most ∧ around n most < most := by
  unfold around; split <;> exact ⟨Int.emod_nonneg _ (by omega), Int.emod_lt_of_pos _ (by omega)⟩
def bound (n most : Int) : Int := around n (2 * most + 1) - most
theorem bound_any (n most : Int) (w : World) (hn1 : -9223372036854775808 ≤ n) (hn2 : n ≤ 9223372036854775807) (h1 : 0 ≤ most) (h2 : most ≤ 2305843009213693952) :
    Calls Tryd.prog 17 #[.int .i64 n, .int .i64 most] w fun e w' => e = .returned (.int .i64 (bound n most)) ∧ w = w' := by
  obtain ⟨b1, b2⟩ := around_bd n (2 * most + 1) (by omega)
  go_enter Tryd.func17, Tryd.ntmps17
  go_wp2_with (go_at_call 18; refine (around_any _ _ _ hn1 hn2 (by omega) (by omega)).mono ?_; rintro e w' ⟨rfl, rfl⟩)
  go_ret
  exact ⟨rfl, rfl⟩
theorem bound_bd (n most : Int) (h1 : 0 ≤ most) : -most ≤ bound n most ∧ bound n most ≤ most := by
  have := around_bd n (2 * most + 1) (by omega)
  unfold bound; omega

theorem size_any (n : Int) (w : World) (h1 : -9223372036854775808 ≤ n) (h2 : n ≤ 9223372036854775807) :
    Calls Tryd.prog 33 #[.int .i64 n] w fun e w' => e = .returned (.int .u64 (n.natAbs : Int)) ∧ w = w' := by
  by_cases h : n < 0
  · go_enter Tryd.func33, Tryd.ntmps33
    go_wp2
    go_ret
    exact ⟨ret_int (by first | omega | (simp [wrap64, IntKind.wrap, IntKind.bits, IntKind.signed]; omega)), rfl⟩
  · go_enter Tryd.func33, Tryd.ntmps33
    go_wp2
    go_ret
    exact ⟨ret_int (by first | omega | (simp [wrap64, IntKind.wrap, IntKind.bits, IntKind.signed]; omega)), rfl⟩

set_option maxHeartbeats 400000 in
theorem common_any (a b : Nat) (w : World) (h1 : a ≤ 9223372036854775807) (h2 : b ≤ 9223372036854775807) :
    Calls Tryd.prog 34 #[.int .u64 a, .int .u64 b] w fun e w' => e = .returned (.int .u64 (Nat.gcd a b : Nat)) ∧ w = w' := by
  go_enter Tryd.func34, Tryd.ntmps34
  go_wp2
  go_loop [0, 1] (fun u v => GcdRel .u64 a b w u v w) (fun _ v => (intOf v).toNat)
  case atStart => exact ⟨a, b, rfl, rfl, h1, h2, rfl, 0, rfl⟩
  case round =>
    obtain ⟨x, y, rfl, rfl, hx, hy, hg, n, hn⟩ := hrel
    clear hn
    have HG := Lib.hid hg; clear hg
    by_cases hz : y = 0
    · subst hz
      have HG2 : Hid (x = Nat.gcd a b) := by show x = Nat.gcd a b; simpa using HG.out
      clear HG
      go_wp2
      go_ret
      exact ⟨ret_int (by rw [← HG2.out]), rfl⟩
    · have hz' : ((y : Int) != 0) = true := by simp; omega
      have hz2 : ((y : Int) == 0) = false := by simp; omega
      have hy1 : 1 ≤ (y : Int) := by omega
      have hlt : x % y < y := Nat.mod_lt _ (by omega)
      have hle : x % y ≤ 9223372036854775807 := by omega
      go_wp2
      go_round
      case rel => exact ⟨y, x % y, rfl, by go_num, hy, hle, gcd_step HG.out, 0, rfl⟩
      case measure => simp [intOf]; omega
end Go.Proofs.YtinbfdfgebiaeaaDoor
