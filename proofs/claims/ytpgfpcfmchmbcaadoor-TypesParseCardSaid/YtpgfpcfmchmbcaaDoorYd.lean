/- The query of the law's examples: parser.Valid; units that are valid; Text of two units. -/
import Derived.Test.YtpgfpcfmchmbcaaDoorYc
set_option linter.unusedVariables false
set_option linter.unusedSimpArgs false
namespace Go.Proofs.YtpgfpcfmchmbcaaDoor
open Go.RowKit

set_option maxHeartbeats 1000000 in
theorem check_req (w : World) (hw : WordsW w) : Calls Tryd.prog 37 #[reqV] w (RetB (.int .i64 0) w) := by
  have HW := Box.mk hw; clear hw
  go_enter Tryd.func37, Tryd.ntmps37
  have HB := Lib.hid (Q1.start w)
  go_upto_region 1 with (fail)
  generalize w.alloc (.cells reqC 48) = W at HB ⊢
  obtain ⟨c0, c1, c2, c3, c4, c5, c6, c7, c8, c9, c10⟩ := HB.out.c
  go_wp2_with fail
  refine (shaped_req _).mono ?_
  rintro e w1 ⟨rfl, hb⟩
  clear c0 c1 c2 c3 c4 c5 c6 c7 c8 c9 c10
  have HB2 := Lib.hid (HB.out.next hb); clear HB hb
  have HB := Lib.hid HB2.out; clear HB2
  obtain ⟨c0, c1, c2, c3, c4, c5, c6, c7, c8, c9, c10⟩ := HB.out.c
  go_wp2_with fail
  refine (named_req _ (HW.out.below HB.out.below)).mono ?_
  rintro e w2 ⟨rfl, hb⟩
  clear c0 c1 c2 c3 c4 c5 c6 c7 c8 c9 c10
  have HB2 := Lib.hid (HB.out.next hb); clear HB hb
  have HB := Lib.hid HB2.out; clear HB2
  obtain ⟨c0, c1, c2, c3, c4, c5, c6, c7, c8, c9, c10⟩ := HB.out.c
  go_wp2_with fail
  refine (ranged_req _).mono ?_
  rintro e w3 ⟨rfl, hb⟩
  clear c0 c1 c2 c3 c4 c5 c6 c7 c8 c9 c10
  have HB2 := Lib.hid (HB.out.next hb); clear HB hb
  have HB := Lib.hid HB2.out; clear HB2
  obtain ⟨c0, c1, c2, c3, c4, c5, c6, c7, c8, c9, c10⟩ := HB.out.c
  go_wp2_with fail
  go_loop [28] (fun v => v = .int .i64 0) (fun _ => 0)
  case atStart => rfl
  case round =>
    subst hrel
    go_wp2_with fail
    go_ret
    exact ⟨rfl, HB.out.below⟩
set_option maxHeartbeats 1000000 in
theorem pvalid_req (w : World) (hw : WordsW w) : Calls Tryd.prog 26 #[reqV] w (RetB (.int .i64 0) w) := by
  have HW := Box.mk hw; clear hw
  go_enter Tryd.func26, Tryd.ntmps26
  have HB := Lib.hid (Q1.start w)
  go_upto_region 1 with (fail)
  generalize w.alloc (.cells reqC 48) = W at HB ⊢
  obtain ⟨c0, c1, c2, c3, c4, c5, c6, c7, c8, c9, c10⟩ := HB.out.c
  go_wp2_with fail
  refine (fits_req _).mono ?_
  rintro e w1 ⟨rfl, hb⟩
  clear c0 c1 c2 c3 c4 c5 c6 c7 c8 c9 c10
  have HB2 := Lib.hid (HB.out.next hb); clear HB hb
  have HB := Lib.hid HB2.out; clear HB2
  obtain ⟨c0, c1, c2, c3, c4, c5, c6, c7, c8, c9, c10⟩ := HB.out.c
  go_wp2_with fail
  refine (check_req _ (HW.out.below HB.out.below)).mono ?_
  rintro e w2 ⟨rfl, hb⟩
  clear c0 c1 c2 c3 c4 c5 c6 c7 c8 c9 c10
  have HB2 := Lib.hid (HB.out.next hb); clear HB hb
  have HB := Lib.hid HB2.out; clear HB2
  go_wp2_with fail
  go_ret
  exact ⟨rfl, HB.out.below⟩
theorem ix0 (a b c : Int) (w : World) : (Instr.index 23 (.agg #[.int .i64 a, .int .i64 b, .int .i64 c]) (.int .i64 0)).run Tryd.prog w = .ok (.int .i64 a) w := by kernel_rfl
theorem ix1 (a b c : Int) (w : World) : (Instr.index 23 (.agg #[.int .i64 a, .int .i64 b, .int .i64 c]) (.int .i64 1)).run Tryd.prog w = .ok (.int .i64 b) w := by kernel_rfl
theorem ix2 (a b c : Int) (w : World) : (Instr.index 23 (.agg #[.int .i64 a, .int .i64 b, .int .i64 c]) (.int .i64 2)).run Tryd.prog w = .ok (.int .i64 c) w := by kernel_rfl
set_option maxHeartbeats 1000000 in
set_option maxRecDepth 100000 in
theorem uvalid_any (a b c : Int) (w : World) (h : -3 ≤ a ∧ a ≤ 3 ∧ -3 ≤ b ∧ b ≤ 3 ∧ -3 ≤ c ∧ c ≤ 3) : Calls Tryd.prog 16 #[.agg #[.int .i64 a, .int .i64 b, .int .i64 c]] w (RetB (.bool true) w) := by
  obtain ⟨h1, h2, h3, h4, h5, h6⟩ := h
  have k1 : ¬ a < -3 := by omega
  have k2 : ¬ 3 < a := by omega
  have k3 : ¬ b < -3 := by omega
  have k4 : ¬ 3 < b := by omega
  have k5 : ¬ c < -3 := by omega
  have k6 : ¬ 3 < c := by omega
  clear h1 h2 h3 h4 h5 h6
  have i0 := ix0 a b c; have i1 := ix1 a b c; have i2 := ix2 a b c
  go_enter Tryd.func16, Tryd.ntmps16
  go_wp2_with fail
  go_loop [6] (fun v => v = .int .i64 0 ∨ v = .int .i64 1 ∨ v = .int .i64 2 ∨ v = .int .i64 3) (fun v => (3 - intOf v).toNat)
  case atStart => exact .inl rfl
  case round =>
    rcases hrel with rfl | rfl | rfl | rfl
    · go_wp2_with fail
      go_round
      case rel => exact .inr (.inl rfl)
      case measure => decide
    · go_wp2_with fail
      go_round
      case rel => exact .inr (.inr (.inl rfl))
      case measure => decide
    · go_wp2_with fail
      go_round
      case rel => exact .inr (.inr (.inr rfl))
      case measure => decide
    · go_wp2_with fail
      go_ret
      exact ⟨rfl, bel1 _ _⟩
end Go.Proofs.YtpgfpcfmchmbcaaDoor
