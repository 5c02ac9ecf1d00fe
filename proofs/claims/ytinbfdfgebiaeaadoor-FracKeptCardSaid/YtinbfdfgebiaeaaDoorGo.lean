/- Of of the reference. -/
import Derived.Test.YtinbfdfgebiaeaaDoorGb
set_option linter.unusedVariables false
set_option linter.unusedSimpArgs false
namespace Go.Proofs.YtinbfdfgebiaeaaDoor
open Go.RowKit FracM

theorem of_ok {p q : Int} (h1 : -2305843009213693952 ≤ p) (h2 : p ≤ 2305843009213693952) (h3 : 1 ≤ q) (h4 : q ≤ 2305843009213693952) : ∃ a b, newF p q = (a, b, 0) ∧ validB a b = true := by
  rw [newF_pos (by omega) (by omega) (by omega)]
  obtain ⟨a, b, hl⟩ := low_small (p := p) (q := q.natAbs) (by unfold M; omega) (by unfold M; omega)
  exact ⟨a, b, hl, low_valid (by omega) hl⟩
def RetV (w : World) (e : Ending) (w' : World) : Prop := ∃ a b, e = .returned (.agg #[.int .i64 a, .int .i64 b]) ∧ validB a b = true ∧ Below w.heap.size w w'
set_option maxHeartbeats 400000 in
theorem of_any (n d : Int) (w : World) (l1 : -9223372036854775808 ≤ n) (u1 : n ≤ 9223372036854775807) (l2 : -9223372036854775808 ≤ d) (u2 : d ≤ 9223372036854775807) : Calls Tryd.prog 4 #[.int .i64 n, .int .i64 d] w (RetV w) := by
  obtain ⟨k0, k1⟩ := around_bd d 2305843009213693952 (by omega)
  obtain ⟨k2, k3⟩ := bound_bd n 2305843009213693952 (by omega)
  generalize hk : around d 2305843009213693952 = k at *
  generalize hm : bound n 2305843009213693952 = m at *
  have HK := Box.mk hk; have HM := Box.mk hm; clear hk hm
  obtain ⟨a, b, hr, hs⟩ := of_ok (p := m) (q := 1 + k) (by omega) (by omega) (by omega) (by omega)
  have HR := Box.mk hr; have HS := Box.mk hs; clear hr hs
  go_enter Tryd.func4, Tryd.ntmps4
  go_wp2_with (first
    | (go_at_call 17; refine (bound_any n _ _ l1 u1 (by omega) (by omega)).mono ?_; rintro e w1 ⟨rfl, rfl⟩; rw [HM.out])
    | (go_at_call 18; refine (around_any d _ _ l2 u2 (by omega) (by omega)).mono ?_; rintro e w1 ⟨rfl, rfl⟩; rw [HK.out]))
  refine (rnew_any _ _ _ (by omega) (by omega) (by omega) (by omega)).mono ?_
  rintro e w2 ⟨rfl, hb2⟩
  rw [HR.out]
  have HB2 : Hid (Below w.heap.size w w2 ∧ Blk w2 w.heap.size 24 #[.int .i64 0, .int .i64 0]) := ⟨bthen (bel1 _ _) hb2 (Nat.le_refl _), (Blk.new _ _ _).below hb2⟩
  obtain ⟨r0, r1⟩ := HB2.out.2.c2
  have rf := HB2.out.2.frozen
  have hz := HB2.out.2.lt
  have n1 : ¬ w.heap.size = w2.heap.size := by omega
  have n2 : ¬ w2.heap.size = w.heap.size := by omega
  clear hb2
  go_wp2_with fail
  exact bodyPost_ret (v := .agg #[.int .i64 a, .int .i64 b]) (by simp [results, Tryd.results4, go_sem, r0, r1, rf, hz, n1, n2]) rfl ⟨a, b, rfl, HS.out, (bset2 HB2.out.1 (Nat.le_refl _) _ _).alloc (by simp [World.setCell]; omega) _⟩
end Go.Proofs.YtinbfdfgebiaeaaDoor
