/- The reference's Mul and Div of units; the law's unit; the numerals 2 and 3. -/
import Derived.Test.YtgomgoacponbkaaDoorYk
set_option linter.unusedVariables false
set_option linter.unusedSimpArgs false
namespace Go.Proofs.YtgomgoacponbkaaDoor
open Go.RowKit

set_option maxHeartbeats 1000000 in
set_option maxRecDepth 100000 in
theorem ruMul {a0 a1 a2 b0 b1 b2 m0 m1 m2 : Int} (w : World) (h0 : W64 (a0 + b0) = m0) (h1 : W64 (a1 + b1) = m1) (h2 : W64 (a2 + b2) = m2) : Calls Tryd.prog 11 #[uv a0 a1 a2, uv b0 b1 b2] w (RetB (uv m0 m1 m2) w) := by
  unfold W64 at h0 h1 h2
  go_enter Tryd.func11, Tryd.ntmps11
  have HB := Lib.hid (M3.start w a0 a1 a2 b0 b1 b2)
  go_upto_region 1 with (fail)
  generalize (((w.alloc (.cells #[.int .i64 a0, .int .i64 a1, .int .i64 a2] 23)).alloc (.cells #[.int .i64 b0, .int .i64 b1, .int .i64 b2] 23)).alloc (.cells #[.int .i64 0, .int .i64 0, .int .i64 0] 23)) = W at HB ⊢
  obtain ⟨p0, p1, p2⟩ := HB.out.A.c3
  obtain ⟨q0, q1, q2⟩ := HB.out.B.c3
  obtain ⟨r0, r1, r2⟩ := HB.out.R.c3
  have rf := HB.out.R.frozen
  go_wp2_with fail
  exact bodyPost_ret (v := uv m0 m1 m2) (by simp [results, Tryd.results11, go_sem, r0, r1, r2, rf]) rfl ⟨rfl, bset3 HB.out.below (by omega) _ _ _⟩
set_option maxHeartbeats 1000000 in
set_option maxRecDepth 100000 in
theorem ruDiv {a0 a1 a2 b0 b1 b2 m0 m1 m2 : Int} (w : World) (h0 : W64 (a0 - b0) = m0) (h1 : W64 (a1 - b1) = m1) (h2 : W64 (a2 - b2) = m2) : Calls Tryd.prog 13 #[uv a0 a1 a2, uv b0 b1 b2] w (RetB (uv m0 m1 m2) w) := by
  unfold W64 at h0 h1 h2
  go_enter Tryd.func13, Tryd.ntmps13
  have HB := Lib.hid (M3.start w a0 a1 a2 b0 b1 b2)
  go_upto_region 1 with (fail)
  generalize (((w.alloc (.cells #[.int .i64 a0, .int .i64 a1, .int .i64 a2] 23)).alloc (.cells #[.int .i64 b0, .int .i64 b1, .int .i64 b2] 23)).alloc (.cells #[.int .i64 0, .int .i64 0, .int .i64 0] 23)) = W at HB ⊢
  obtain ⟨p0, p1, p2⟩ := HB.out.A.c3
  obtain ⟨q0, q1, q2⟩ := HB.out.B.c3
  obtain ⟨r0, r1, r2⟩ := HB.out.R.c3
  have rf := HB.out.R.frozen
  go_wp2_with fail
  exact bodyPost_ret (v := uv m0 m1 m2) (by simp [results, Tryd.results13, go_sem, r0, r1, r2, rf]) rfl ⟨rfl, bset3 HB.out.below (by omega) _ _ _⟩
set_option maxHeartbeats 1000000 in
set_option maxRecDepth 100000 in
theorem itoa2 (w : World) : Calls Tryd.prog 28 #[.int .i64 2] w (fun e w' => e = .returned (.string ⟨#[50]⟩) ∧ w' = w) := by
  go_enter Tryd.func28, Tryd.ntmps28
  go_wp2
  go_ret
  exact ⟨by rfl, rfl⟩
set_option maxHeartbeats 1000000 in
set_option maxRecDepth 100000 in
theorem itoa3 (w : World) : Calls Tryd.prog 28 #[.int .i64 3] w (fun e w' => e = .returned (.string ⟨#[51]⟩) ∧ w' = w) := by
  go_enter Tryd.func28, Tryd.ntmps28
  go_wp2
  go_ret
  exact ⟨by rfl, rfl⟩
end Go.Proofs.YtgomgoacponbkaaDoor
