/- Units that are not valid; the reference's Valid and power. -/
import Derived.Test.YtpgfpcfmchmbcaaDoorZb
set_option linter.unusedVariables false
set_option linter.unusedSimpArgs false
namespace Go.Proofs.YtpgfpcfmchmbcaaDoor
open Go.RowKit

set_option maxHeartbeats 1000000 in
set_option maxRecDepth 100000 in
theorem decimal2 (w : World) : Calls Tryd.prog 28 #[.int .i64 2] w (fun e w' => e = .returned (.string ⟨#[50]⟩) ∧ w' = w) := by
  go_enter Tryd.func28, Tryd.ntmps28
  go_wp2
  go_loop [4, 5] (fun x v => (x = .string ⟨#[]⟩ ∧ v = .int .i64 2) ∨ (x = .string ⟨#[50]⟩ ∧ v = .int .i64 0)) (fun _ v => (intOf v).toNat)
  case atStart => exact .inl ⟨rfl, rfl⟩
  case round =>
    rcases hrel with ⟨rfl, rfl⟩ | ⟨rfl, rfl⟩
    · go_wp2
      go_round
      case rel => exact .inr ⟨by rfl, rfl⟩
      case measure => decide
    · go_wp2
      go_ret
      exact ⟨rfl, rfl⟩
theorem rpow2 (s : ByteArray) (w : World) (hs : s.size ≤ 100) : Calls Tryd.prog 20 #[.string s, .int .i64 2] w (fun e w' => e = .returned (.string (s ++ ⟨#[94]⟩ ++ ⟨#[50]⟩)) ∧ w' = w) := by
  have z1 : ¬ 9223372036854775807 < s.size + 1 := by omega
  have z2 : ¬ 9223372036854775807 < s.size + 1 + 1 := by omega
  go_enter Tryd.func20, Tryd.ntmps20
  go_wp2_with (go_at_call 28; refine (decimal2 _).mono ?_; rintro e w5 ⟨rfl, rfl⟩)
  go_ret
  exact ⟨rfl, rfl⟩
set_option maxHeartbeats 1000000 in
set_option maxRecDepth 100000 in
theorem decimal3 (w : World) : Calls Tryd.prog 28 #[.int .i64 3] w (fun e w' => e = .returned (.string ⟨#[51]⟩) ∧ w' = w) := by
  go_enter Tryd.func28, Tryd.ntmps28
  go_wp2
  go_loop [4, 5] (fun x v => (x = .string ⟨#[]⟩ ∧ v = .int .i64 3) ∨ (x = .string ⟨#[51]⟩ ∧ v = .int .i64 0)) (fun _ v => (intOf v).toNat)
  case atStart => exact .inl ⟨rfl, rfl⟩
  case round =>
    rcases hrel with ⟨rfl, rfl⟩ | ⟨rfl, rfl⟩
    · go_wp2
      go_round
      case rel => exact .inr ⟨by rfl, rfl⟩
      case measure => decide
    · go_wp2
      go_ret
      exact ⟨rfl, rfl⟩
theorem rpow3 (s : ByteArray) (w : World) (hs : s.size ≤ 100) : Calls Tryd.prog 20 #[.string s, .int .i64 3] w (fun e w' => e = .returned (.string (s ++ ⟨#[94]⟩ ++ ⟨#[51]⟩)) ∧ w' = w) := by
  have z1 : ¬ 9223372036854775807 < s.size + 1 := by omega
  have z2 : ¬ 9223372036854775807 < s.size + 1 + 1 := by omega
  go_enter Tryd.func20, Tryd.ntmps20
  go_wp2_with (go_at_call 28; refine (decimal3 _).mono ?_; rintro e w5 ⟨rfl, rfl⟩)
  go_ret
  exact ⟨rfl, rfl⟩
theorem rpow1 (s : ByteArray) (w : World) : Calls Tryd.prog 20 #[.string s, .int .i64 1] w (fun e w' => e = .returned (.string s) ∧ w' = w) := by
  go_enter Tryd.func20, Tryd.ntmps20
  go_wp2
  go_ret
  exact ⟨rfl, rfl⟩
def inR (n : Int) : Bool := decide (-3 ≤ n) && decide (n ≤ 3)
def inU (a b c : Int) : Bool := inR a && (inR b && inR c)
theorem inR_no {n : Int} (h : inR n = false) : n < -3 ∨ (¬ n < -3 ∧ 3 < n) := by simp [inR] at h; omega
theorem inR_yes {n : Int} (h : inR n = true) : ¬ n < -3 ∧ ¬ 3 < n := by simp [inR] at h; omega
set_option maxHeartbeats 2000000 in
set_option maxRecDepth 100000 in
theorem uv_any (a b c : Int) (w : World) : Calls Tryd.prog 16 #[uv a b c] w (RetB (.bool (inU a b c)) w) := by
  have i0 := ix0 a b c; have i1 := ix1 a b c; have i2 := ix2 a b c
  go_enter Tryd.func16, Tryd.ntmps16
  go_wp2_with fail
  go_loop [6] (fun v => v = .int .i64 0 ∨ (v = .int .i64 1 ∧ inR a = true) ∨ (v = .int .i64 2 ∧ inR a = true ∧ inR b = true) ∨ (v = .int .i64 3 ∧ inU a b c = true)) (fun v => (3 - intOf v).toNat)
  case atStart => exact .inl rfl
  case round =>
    rcases hrel with rfl | ⟨rfl, ha⟩ | ⟨rfl, ha, hb⟩ | ⟨rfl, hu⟩
    · skip
      cases hn : inR a
      · have HE : Box (inU a b c = false) := ⟨by simp [inU, hn]⟩
        rcases inR_no hn with h | ⟨h, h2⟩
        all_goals
          clear hn
          go_wp2_with fail
          go_ret
          exact ⟨ret_bool (by rw [HE.out]), bel1 _ _⟩
      · obtain ⟨h, h2⟩ := inR_yes hn
        have HN := Box.mk hn; clear hn
        go_wp2_with fail
        go_round
        case rel => exact (.inr (.inl ⟨rfl, by first | exact HN.out | trivial⟩))
        case measure => decide
    · have HA := Box.mk ha; clear ha
      cases hn : inR b
      · have HE : Box (inU a b c = false) := ⟨by simp [inU, HA.out, hn]⟩
        rcases inR_no hn with h | ⟨h, h2⟩
        all_goals
          clear hn
          go_wp2_with fail
          go_ret
          exact ⟨ret_bool (by rw [HE.out]), bel1 _ _⟩
      · obtain ⟨h, h2⟩ := inR_yes hn
        have HN := Box.mk hn; clear hn
        go_wp2_with fail
        go_round
        case rel => exact (.inr (.inr (.inl ⟨rfl, HA.out, by first | exact HN.out | trivial⟩)))
        case measure => decide
    · have HA := Box.mk ha; have HC := Box.mk hb; clear ha hb
      cases hn : inR c
      · have HE : Box (inU a b c = false) := ⟨by simp [inU, HA.out, HC.out, hn]⟩
        rcases inR_no hn with h | ⟨h, h2⟩
        all_goals
          clear hn
          go_wp2_with fail
          go_ret
          exact ⟨ret_bool (by rw [HE.out]), bel1 _ _⟩
      · obtain ⟨h, h2⟩ := inR_yes hn
        have HN := Box.mk hn; clear hn
        go_wp2_with fail
        go_round
        case rel => exact (.inr (.inr (.inr ⟨rfl, by simp [inU, HA.out, HC.out, HN.out]⟩)))
        case measure => decide
    · have HE := Box.mk hu; clear hu
      go_wp2_with fail
      go_ret
      exact ⟨ret_bool (by rw [HE.out]), bel1 _ _⟩
set_option maxHeartbeats 2000000 in
set_option maxRecDepth 100000 in
theorem ruv_any (a b c : Int) (w : World) : Calls Tryd.prog 19 #[uv a b c] w (RetB (.bool (inU a b c)) w) := by
  go_enter Tryd.func19, Tryd.ntmps19
  go_wp2_with fail
  go_loop [3] (fun v => v = .int .i64 0 ∨ (v = .int .i64 1 ∧ inR a = true) ∨ (v = .int .i64 2 ∧ inR a = true ∧ inR b = true) ∨ (v = .int .i64 3 ∧ inU a b c = true)) (fun v => (3 - intOf v).toNat)
  case atStart => exact .inl rfl
  case round =>
    rcases hrel with rfl | ⟨rfl, ha⟩ | ⟨rfl, ha, hb⟩ | ⟨rfl, hu⟩
    · skip
      cases hn : inR a
      · have HE : Box (inU a b c = false) := ⟨by simp [inU, hn]⟩
        rcases inR_no hn with h | ⟨h, h2⟩
        all_goals
          clear hn
          go_wp2_with fail
          go_ret
          exact ⟨ret_bool (by rw [HE.out]), bel1 _ _⟩
      · obtain ⟨h, h2⟩ := inR_yes hn
        have HN := Box.mk hn; clear hn
        go_wp2_with fail
        go_round
        case rel => exact (.inr (.inl ⟨rfl, by first | exact HN.out | trivial⟩))
        case measure => decide
    · have HA := Box.mk ha; clear ha
      cases hn : inR b
      · have HE : Box (inU a b c = false) := ⟨by simp [inU, HA.out, hn]⟩
        rcases inR_no hn with h | ⟨h, h2⟩
        all_goals
          clear hn
          go_wp2_with fail
          go_ret
          exact ⟨ret_bool (by rw [HE.out]), bel1 _ _⟩
      · obtain ⟨h, h2⟩ := inR_yes hn
        have HN := Box.mk hn; clear hn
        go_wp2_with fail
        go_round
        case rel => exact (.inr (.inr (.inl ⟨rfl, HA.out, by first | exact HN.out | trivial⟩)))
        case measure => decide
    · have HA := Box.mk ha; have HC := Box.mk hb; clear ha hb
      cases hn : inR c
      · have HE : Box (inU a b c = false) := ⟨by simp [inU, HA.out, HC.out, hn]⟩
        rcases inR_no hn with h | ⟨h, h2⟩
        all_goals
          clear hn
          go_wp2_with fail
          go_ret
          exact ⟨ret_bool (by rw [HE.out]), bel1 _ _⟩
      · obtain ⟨h, h2⟩ := inR_yes hn
        have HN := Box.mk hn; clear hn
        go_wp2_with fail
        go_round
        case rel => exact (.inr (.inr (.inr ⟨rfl, by simp [inU, HA.out, HC.out, HN.out]⟩)))
        case measure => decide
    · have HE := Box.mk hu; clear hu
      go_wp2_with fail
      go_ret
      exact ⟨ret_bool (by rw [HE.out]), bel1 _ _⟩
end Go.Proofs.YtpgfpcfmchmbcaaDoor
