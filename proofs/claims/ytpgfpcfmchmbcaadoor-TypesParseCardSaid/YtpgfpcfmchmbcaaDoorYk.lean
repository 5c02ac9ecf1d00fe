/- Mul and Div of units. -/
import Derived.Test.YtpgfpcfmchmbcaaDoorYj
set_option linter.unusedVariables false
set_option linter.unusedSimpArgs false
namespace Go.Proofs.YtpgfpcfmchmbcaaDoor
open Go.RowKit

abbrev uv (a b c : Int) : Value := .agg #[.int .i64 a, .int .i64 b, .int .i64 c]
structure M3 (w W : World) (x0 x1 x2 b0 b1 b2 : Int) : Prop where
  below : Below w.heap.size w W
  A : Blk W w.heap.size 23 #[.int .i64 x0, .int .i64 x1, .int .i64 x2]
  B : Blk W (w.heap.size + 1) 23 #[.int .i64 b0, .int .i64 b1, .int .i64 b2]
  R : Blk W (w.heap.size + 1 + 1) 23 #[.int .i64 0, .int .i64 0, .int .i64 0]
theorem M3.start (w : World) (x0 x1 x2 b0 b1 b2 : Int) : M3 w (((w.alloc (.cells #[.int .i64 x0, .int .i64 x1, .int .i64 x2] 23)).alloc (.cells #[.int .i64 b0, .int .i64 b1, .int .i64 b2] 23)).alloc (.cells #[.int .i64 0, .int .i64 0, .int .i64 0] 23)) x0 x1 x2 b0 b1 b2 :=
  ⟨bel3 _ _ _ _, ((Blk.new _ _ _).alloc _).alloc _, (Blk.newAt _ _ (by simp)).alloc _, Blk.newAt _ _ (by simp)⟩
theorem M3.set {w W : World} {x0 x1 x2 b0 b1 b2 : Int} (h : M3 w W x0 x1 x2 b0 b1 b2) (i : Nat) (v y0 y1 y2 : Int) (hy : (#[.int .i64 x0, .int .i64 x1, .int .i64 x2] : Array Value).setIfInBounds i (.int .i64 v) = #[.int .i64 y0, .int .i64 y1, .int .i64 y2]) : M3 w ((W.setCell ⟨w.heap.size, i, none⟩ (.int .i64 v)).drewN 1) y0 y1 y2 b0 b1 b2 :=
  ⟨bdrew (h.below.setCell (p := ⟨w.heap.size, i, none⟩) (Nat.le_refl _) _) 1, Blk.drewN (hy ▸ h.A.set i (.int .i64 v)) 1, Blk.drewN (h.B.far (p := ⟨w.heap.size, i, none⟩) (by simp only; omega) _) 1, Blk.drewN (h.R.far (p := ⟨w.heap.size, i, none⟩) (by simp only; omega) _) 1⟩
set_option maxHeartbeats 2000000 in
set_option maxRecDepth 100000 in
theorem uMul {a0 a1 a2 b0 b1 b2 m0 m1 m2 : Int} (w : World) (h0 : W64 (a0 + b0) = m0) (h1 : W64 (a1 + b1) = m1) (h2 : W64 (a2 + b2) = m2) : Calls Tryd.prog 63 #[uv a0 a1 a2, uv b0 b1 b2] w (RetB (uv m0 m1 m2) w) := by
  unfold W64 at h0 h1 h2
  go_enter Tryd.func63, Tryd.ntmps63
  have HB := Lib.hid (M3.start w a0 a1 a2 b0 b1 b2)
  go_upto_region 1 with (fail)
  generalize (((w.alloc (.cells #[.int .i64 a0, .int .i64 a1, .int .i64 a2] 23)).alloc (.cells #[.int .i64 b0, .int .i64 b1, .int .i64 b2] 23)).alloc (.cells #[.int .i64 0, .int .i64 0, .int .i64 0] 23)) = W at HB ⊢
  go_wp2_with fail
  go_loopw [6] (fun v wr => (v = .int .i64 0 ∧ M3 w wr a0 a1 a2 b0 b1 b2) ∨ (v = .int .i64 1 ∧ M3 w wr m0 a1 a2 b0 b1 b2) ∨ (v = .int .i64 2 ∧ M3 w wr m0 m1 a2 b0 b1 b2) ∨ (v = .int .i64 3 ∧ M3 w wr m0 m1 m2 b0 b1 b2)) (fun v _ => (3 - intOf v).toNat)
  case atStart => exact .inl ⟨rfl, HB.out⟩
  case round =>
    clear HB
    rcases hrel with ⟨rfl, hM⟩ | ⟨rfl, hM⟩ | ⟨rfl, hM⟩ | ⟨rfl, hM⟩
    · have HB := Lib.hid hM; clear hM
      obtain ⟨p0, p1, p2⟩ := HB.out.A.c3
      obtain ⟨q0, q1, q2⟩ := HB.out.B.c3
      have pf := HB.out.A.frozen
      go_wp2_with fail
      go_region
      all_goals
        go_wp2_with fail
        go_roundw
        case rel => exact (.inr (.inl ⟨rfl, HB.out.set 0 m0 m0 a1 a2 rfl⟩))
        case measure => decide
    · have HB := Lib.hid hM; clear hM
      obtain ⟨p0, p1, p2⟩ := HB.out.A.c3
      obtain ⟨q0, q1, q2⟩ := HB.out.B.c3
      have pf := HB.out.A.frozen
      go_wp2_with fail
      go_region
      all_goals
        go_wp2_with fail
        go_roundw
        case rel => exact (.inr (.inr (.inl ⟨rfl, HB.out.set 1 m1 m0 m1 a2 rfl⟩)))
        case measure => decide
    · have HB := Lib.hid hM; clear hM
      obtain ⟨p0, p1, p2⟩ := HB.out.A.c3
      obtain ⟨q0, q1, q2⟩ := HB.out.B.c3
      have pf := HB.out.A.frozen
      go_wp2_with fail
      go_region
      all_goals
        go_wp2_with fail
        go_roundw
        case rel => exact (.inr (.inr (.inr ⟨rfl, HB.out.set 2 m2 m0 m1 m2 rfl⟩)))
        case measure => decide
    · have HB := Lib.hid hM; clear hM
      obtain ⟨p0, p1, p2⟩ := HB.out.A.c3
      obtain ⟨r0, r1, r2⟩ := HB.out.R.c3
      have rf := HB.out.R.frozen
      go_wp2_with fail
      exact bodyPost_ret (v := uv m0 m1 m2) (by simp [results, Tryd.results63, go_sem, r0, r1, r2, rf]) rfl ⟨rfl, bset3 HB.out.below (by omega) _ _ _⟩
set_option maxHeartbeats 2000000 in
set_option maxRecDepth 100000 in
theorem uDiv {a0 a1 a2 b0 b1 b2 m0 m1 m2 : Int} (w : World) (h0 : W64 (a0 - b0) = m0) (h1 : W64 (a1 - b1) = m1) (h2 : W64 (a2 - b2) = m2) : Calls Tryd.prog 64 #[uv a0 a1 a2, uv b0 b1 b2] w (RetB (uv m0 m1 m2) w) := by
  unfold W64 at h0 h1 h2
  go_enter Tryd.func64, Tryd.ntmps64
  have HB := Lib.hid (M3.start w a0 a1 a2 b0 b1 b2)
  go_upto_region 1 with (fail)
  generalize (((w.alloc (.cells #[.int .i64 a0, .int .i64 a1, .int .i64 a2] 23)).alloc (.cells #[.int .i64 b0, .int .i64 b1, .int .i64 b2] 23)).alloc (.cells #[.int .i64 0, .int .i64 0, .int .i64 0] 23)) = W at HB ⊢
  go_wp2_with fail
  go_loopw [6] (fun v wr => (v = .int .i64 0 ∧ M3 w wr a0 a1 a2 b0 b1 b2) ∨ (v = .int .i64 1 ∧ M3 w wr m0 a1 a2 b0 b1 b2) ∨ (v = .int .i64 2 ∧ M3 w wr m0 m1 a2 b0 b1 b2) ∨ (v = .int .i64 3 ∧ M3 w wr m0 m1 m2 b0 b1 b2)) (fun v _ => (3 - intOf v).toNat)
  case atStart => exact .inl ⟨rfl, HB.out⟩
  case round =>
    clear HB
    rcases hrel with ⟨rfl, hM⟩ | ⟨rfl, hM⟩ | ⟨rfl, hM⟩ | ⟨rfl, hM⟩
    · have HB := Lib.hid hM; clear hM
      obtain ⟨p0, p1, p2⟩ := HB.out.A.c3
      obtain ⟨q0, q1, q2⟩ := HB.out.B.c3
      have pf := HB.out.A.frozen
      go_wp2_with fail
      go_region
      all_goals
        go_wp2_with fail
        go_roundw
        case rel => exact (.inr (.inl ⟨rfl, HB.out.set 0 m0 m0 a1 a2 rfl⟩))
        case measure => decide
    · have HB := Lib.hid hM; clear hM
      obtain ⟨p0, p1, p2⟩ := HB.out.A.c3
      obtain ⟨q0, q1, q2⟩ := HB.out.B.c3
      have pf := HB.out.A.frozen
      go_wp2_with fail
      go_region
      all_goals
        go_wp2_with fail
        go_roundw
        case rel => exact (.inr (.inr (.inl ⟨rfl, HB.out.set 1 m1 m0 m1 a2 rfl⟩)))
        case measure => decide
    · have HB := Lib.hid hM; clear hM
      obtain ⟨p0, p1, p2⟩ := HB.out.A.c3
      obtain ⟨q0, q1, q2⟩ := HB.out.B.c3
      have pf := HB.out.A.frozen
      go_wp2_with fail
      go_region
      all_goals
        go_wp2_with fail
        go_roundw
        case rel => exact (.inr (.inr (.inr ⟨rfl, HB.out.set 2 m2 m0 m1 m2 rfl⟩)))
        case measure => decide
    · have HB := Lib.hid hM; clear hM
      obtain ⟨p0, p1, p2⟩ := HB.out.A.c3
      obtain ⟨r0, r1, r2⟩ := HB.out.R.c3
      have rf := HB.out.R.frozen
      go_wp2_with fail
      exact bodyPost_ret (v := uv m0 m1 m2) (by simp [results, Tryd.results64, go_sem, r0, r1, r2, rf]) rfl ⟨rfl, bset3 HB.out.below (by omega) _ _ _⟩
end Go.Proofs.YtpgfpcfmchmbcaaDoor
