/- frac.Valid. -/
import Derived.Test.YtgomgoacponbkaaDoorBk
import Derived.Test.YtgomgoacponbkaaDoorFm
import Derived.RegionTactic
import Derived.ChangeAlike
set_option linter.unusedVariables false
set_option linter.unusedSimpArgs false
namespace Go.Proofs.YtgomgoacponbkaaDoor
open Go.RowKit FracM

/-- the call computes v and moves no more than the count of draws -/
def Quiet (v : Value) (w : World) (e : Ending) (w' : World) : Prop := e = .returned v ∧ ∃ n, w' = w.drewN n

theorem abs_any (n : Int) (w : World) (h1 : -9223372036854775807 ≤ n) (h2 : n ≤ 9223372036854775807) :
    Calls Tryd.prog 100 #[.int .i64 n] w fun e w' => e = .returned (.int .i64 (n.natAbs : Int)) ∧ w = w' := by
  by_cases h : n < 0
  · go_enter Tryd.func100, Tryd.ntmps100
    go_wp2
    go_ret
    exact ⟨ret_int (by omega), rfl⟩
  · go_enter Tryd.func100, Tryd.ntmps100
    go_wp2
    go_ret
    exact ⟨ret_int (by omega), rfl⟩

def GcdRel (k : IntKind) (a b : Nat) (w : World) (u v : Value) (wr : World) : Prop :=
  ∃ x y : Nat, u = .int k x ∧ v = .int k y ∧ x ≤ 9223372036854775807 ∧ y ≤ 9223372036854775807 ∧ Nat.gcd x y = Nat.gcd a b ∧ ∃ n, wr = w.drewN n
theorem gcd_step {x y a b : Nat} (h : Nat.gcd x y = Nat.gcd a b) : Nat.gcd y (x % y) = Nat.gcd a b := by
  rw [← h, Nat.gcd_comm y, FracM.gcd_mod_left]

set_option maxHeartbeats 400000 in
theorem gcd_any (a b : Nat) (w : World) (h1 : a ≤ 9223372036854775807) (h2 : b ≤ 9223372036854775807) :
    Calls Tryd.prog 99 #[.int .i64 a, .int .i64 b] w (Quiet (.int .i64 (Nat.gcd a b : Nat)) w) := by
  go_enter Tryd.func99, Tryd.ntmps99
  go_wp2
  go_loopw [0, 1] (fun u v wr => GcdRel .i64 a b w u v wr) (fun _ v _ => (intOf v).toNat)
  case atStart => exact ⟨a, b, rfl, rfl, h1, h2, rfl, 0, rfl⟩
  case round =>
    obtain ⟨x, y, rfl, rfl, hx, hy, hg, n, rfl⟩ := hrel
    have HG := Lib.hid hg; clear hg
    by_cases hz : y = 0
    · subst hz
      have HG2 : Hid (x = Nat.gcd a b) := by show x = Nat.gcd a b; simpa using HG.out
      clear HG
      go_wp2
      go_ret
      exact ⟨ret_int (by rw [← HG2.out]), n, rfl⟩
    · have hz' : ((y : Int) != 0) = true := by simp; omega
      have hz2 : ((y : Int) == 0) = false := by simp; omega
      have hy1 : 1 ≤ (y : Int) := by omega
      have hlt : x % y < y := Nat.mod_lt _ (by omega)
      have hle : x % y ≤ 9223372036854775807 := by omega
      go_wp2
      go_region
      all_goals
        go_wp2
        go_roundw
        case rel => exact ⟨y, x % y, rfl, by go_num, hy, hle, gcd_step HG.out, n + 1, rfl⟩
        case measure => simp [intOf]; omega

theorem abs_same (n : Int) (w : World) (h1 : -9223372036854775807 ≤ n) (h2 : n ≤ 9223372036854775807) :
    Calls Tryd.prog 100 #[.int .i64 n] w fun e w' => e = .returned (.int .i64 (n.natAbs : Int)) ∧ w' = w := (abs_any n w h1 h2).mono fun _ _ ⟨a, b⟩ => ⟨a, b.symm⟩
theorem gcd_q (a b : Nat) (w : World) (h1 : a ≤ 9223372036854775807) (h2 : b ≤ 9223372036854775807) :
    Calls Tryd.prog 99 #[.int .i64 a, .int .i64 b] w fun e w' => e = .returned (.int .i64 (Nat.gcd a b : Nat)) ∧ ∃ n, w' = w.drewN n := gcd_any a b w h1 h2
theorem valid_no {n d : Int} (h : d < 1 ∨ 4611686018427387904 < d ∨ n < -4611686018427387904 ∨ 4611686018427387904 < n) : validB n d = false := by
  rw [Bool.eq_false_iff]; intro hv
  obtain ⟨h1, h2, h3, _⟩ := valid_iff.1 hv
  unfold M at *; omega
theorem valid_yes {n : Int} {d : Nat} (h1 : 1 ≤ d) (h2 : d ≤ 4611686018427387904) (h3 : n.natAbs ≤ 4611686018427387904) : validB n d = decide (((Nat.gcd n.natAbs d : Nat) : Int) = 1) := by
  rw [Bool.eq_iff_iff, valid_iff, decide_eq_true_iff]
  unfold M
  rw [Int.natAbs_natCast]
  omega
set_option maxHeartbeats 400000 in
theorem fvalid_any (n d : Int) (w : World) (l1 : -9223372036854775808 ≤ n) (u1 : n ≤ 9223372036854775807) (l2 : -9223372036854775808 ≤ d) (u2 : d ≤ 9223372036854775807) :
    Calls Tryd.prog 82 #[.agg #[.int .i64 n, .int .i64 d]] w fun e w' => e = .returned (.bool (validB n d)) ∧ Below w.heap.size w w' := by
  by_cases h1 : d < 1
  · have E := Lib.hid (valid_no (n := n) (d := d) (.inl h1))
    go_enter Tryd.func82, Tryd.ntmps82
    go_wp2
    go_ret
    exact ⟨ret_bool (by rw [E.out]), bel1 _ _⟩
  by_cases h2 : 4611686018427387904 < d
  · have E := Lib.hid (valid_no (n := n) (d := d) (.inr (.inl h2)))
    go_enter Tryd.func82, Tryd.ntmps82
    go_wp2
    go_ret
    exact ⟨ret_bool (by rw [E.out]), bel1 _ _⟩
  by_cases h3 : n < -4611686018427387904
  · have E := Lib.hid (valid_no (n := n) (d := d) (.inr (.inr (.inl h3))))
    go_enter Tryd.func82, Tryd.ntmps82
    go_wp2
    go_ret
    exact ⟨ret_bool (by rw [E.out]), bel1 _ _⟩
  by_cases h4 : 4611686018427387904 < n
  · have E := Lib.hid (valid_no (n := n) (d := d) (.inr (.inr (.inr h4))))
    go_enter Tryd.func82, Tryd.ntmps82
    go_wp2
    go_ret
    exact ⟨ret_bool (by rw [E.out]), bel1 _ _⟩
  obtain ⟨k, rfl⟩ : ∃ k : Nat, d = (k : Int) := ⟨d.toNat, by omega⟩
  have E := Lib.hid (valid_yes (n := n) (d := k) (by omega) (by omega) (by omega))
  go_enter Tryd.func82, Tryd.ntmps82
  go_wp2
  go_quiet (first | (go_at_call 100; exact Calls.quiet_of_same (abs_same _ _ (by omega) (by omega))) | (go_at_call 99; exact Calls.quiet_of (gcd_q _ _ _ (by omega) (by omega))))
  go_wp2
  go_ret
  exact ⟨ret_bool (by rw [E.out]; rfl), bdrew (bel1 _ _) _⟩
end Go.Proofs.YtgomgoacponbkaaDoor
