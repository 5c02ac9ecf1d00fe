/- Text of units that are not valid; the reference's Text of them. -/
import Derived.Test.YtpgfpcfmchmbcaaDoorZc
set_option linter.unusedVariables false
set_option linter.unusedSimpArgs false
namespace Go.Proofs.YtpgfpcfmchmbcaaDoor
open Go.RowKit

set_option maxHeartbeats 1000000 in
theorem text_bad (a b c : Int) (w : World) (h : inU a b c = false) : Calls Tryd.prog 7 #[uv a b c] w (RetB (.string ⟨#[]⟩) w) := by
  go_enter Tryd.func7, Tryd.ntmps7
  go_wp2_with fail
  refine (uv_any _ _ _ _).mono ?_
  rintro e w1 ⟨rfl, hb⟩
  rw [h]
  have HB : Hid (Below w.heap.size w w1) := bthen (bel1 _ _) hb (Nat.le_refl _)
  clear hb
  go_wp2_with fail
  go_ret
  exact ⟨rfl, HB.out⟩
set_option maxHeartbeats 1000000 in
theorem rtext_bad (a b c : Int) (w : World) (h : inU a b c = false) : Calls Tryd.prog 11 #[uv a b c] w (RetB (.string ⟨#[]⟩) w) := by
  go_enter Tryd.func11, Tryd.ntmps11
  go_wp2_with fail
  refine (ruv_any _ _ _ _).mono ?_
  rintro e w1 ⟨rfl, hb⟩
  rw [h]
  have HB : Hid (Below w.heap.size w w1) := bthen (bel1 _ _) hb (Nat.le_refl _)
  clear hb
  go_wp2_with fail
  go_ret
  exact ⟨rfl, HB.out⟩
set_option maxHeartbeats 1000000 in
theorem unit_any (n : Int) (w : World) (l1 : -9223372036854775808 ≤ n) (u1 : n ≤ 9223372036854775807) : Calls Tryd.prog 5 #[.int .i64 n] w fun e w' => ∃ a b c : Int, e = .returned (uv a b c) ∧ (-4 ≤ a ∧ a ≤ 4 ∧ -4 ≤ b ∧ b ≤ 4 ∧ -4 ≤ c ∧ c ≤ 4) ∧ Below w.heap.size w w' := by
  obtain ⟨k0, k1⟩ := around_bd n 729 (by omega)
  generalize hk : around n 729 = k at *
  have HK := Box.mk hk; clear hk
  go_enter Tryd.func5, Tryd.ntmps5
  go_wp2_with fail
  refine (around_any n 729 _ l1 u1 (by omega) (by omega)).mono ?_
  rintro e w1 ⟨rfl, rfl⟩
  rw [HK.out]
  go_wp2_with fail
  exact bodyPost_ret (v := uv (k / 81 - 4) (k / 9 % 9 - 4) (k % 9 - 4)) (by simp [results, Tryd.results5, go_sem]) rfl ⟨_, _, _, rfl, by omega, bel1 _ _⟩
end Go.Proofs.YtpgfpcfmchmbcaaDoor
