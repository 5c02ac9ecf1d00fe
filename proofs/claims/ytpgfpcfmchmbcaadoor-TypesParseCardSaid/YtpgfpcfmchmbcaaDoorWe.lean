/- The reference's Parse of units. -/
import Derived.Test.YtpgfpcfmchmbcaaDoorWf
import Derived.Test.YtpgfpcfmchmbcaaDoorZe
set_option linter.unusedVariables false
set_option linter.unusedSimpArgs false
namespace Go.Proofs.YtpgfpcfmchmbcaaDoor
open Go.RowKit FracM

theorem rtx_any (u : V3) (w : World) : Calls Tryd.prog 11 #[uv u.1 u.2.1 u.2.2] w (RetB (.string (bs (txL u))) w) := by
  unfold txL
  cases h : okV u with
  | false =>
    rw [if_neg (by simp)]
    exact rtext_bad u.1 u.2.1 u.2.2 w (by rw [ok_inU, h])
  | true =>
    rw [if_pos rfl]
    simp [okV, in7] at h
    exact rtext_any u.1 u.2.1 u.2.2 w (by omega) (by omega) (by omega) (by omega) (by omega) (by omega)
theorem un_cells (n : Nat) : vC (unR n) = #[.int .i64 ((n : Int) / 49 - 3), .int .i64 ((n : Int) / 7 % 7 - 3), .int .i64 ((n : Int) % 7 - 3)] := by
  simp [unR]
set_option maxHeartbeats 2000000 in
set_option maxRecDepth 100000 in
theorem rparse_any (s : ByteArray) (w : World) :
    Calls Tryd.prog 12 #[.string s] w (RetB (.tuple #[uv (parM s.data.toList).1.1 (parM s.data.toList).1.2.1 (parM s.data.toList).1.2.2, .int .i64 (parM s.data.toList).2]) w) := by
  go_enter Tryd.func12, Tryd.ntmps12
  go_upto_region 1 with (fail)
  have HF : Box (Below w.heap.size w (w.alloc (.cells #[.int .i64 0, .int .i64 0, .int .i64 0] 23)) ∧ Blk (w.alloc (.cells #[.int .i64 0, .int .i64 0, .int .i64 0] 23)) w.heap.size 23 #[.int .i64 0, .int .i64 0, .int .i64 0]) := ⟨bel1 _ _, Blk.new _ _ _⟩
  generalize w.alloc (.cells #[.int .i64 0, .int .i64 0, .int .i64 0] 23) = W at HF ⊢
  go_wp2_with fail
  go_loopw [4] (fun v wr => ∃ k : Nat, k ≤ 343 ∧ v = .int .i64 (k : Nat) ∧ Box (∀ n, n < k → txL (unR n) ≠ s.data.toList) ∧ Below w.heap.size w wr ∧ Blk wr w.heap.size 23 #[.int .i64 0, .int .i64 0, .int .i64 0]) (fun v _ => 343 - (intOf v).toNat)
  case atStart => exact ⟨0, by omega, rfl, ⟨fun n hn => by omega⟩, HF.out⟩
  case round =>
    clear HF
    obtain ⟨k, hk, rfl, HN, hb, hr⟩ := hrel
    have HF := Box.mk (And.intro hb hr)
    clear hb hr
    by_cases hlt : k < 343
    · have hlt2 : (k : Int) < 343 := by omega
      have hk0 : (0 : Int) ≤ (k : Int) := by omega
      go_upto_region 5 with (fail)
      rw [← un_cells k]
      have HF4 : Box (Below w.heap.size w (wr.alloc (.cells (vC (unR k)) 23)) ∧ Blk (wr.alloc (.cells (vC (unR k)) 23)) w.heap.size 23 #[.int .i64 0, .int .i64 0, .int .i64 0]) := ⟨bthen HF.out.1 (bel1 _ _) (Nat.le_refl _), HF.out.2.alloc _⟩
      have HV4 : Box (Blk (wr.alloc (.cells (vC (unR k)) 23)) wr.heap.size 23 (vC (unR k))) := ⟨Blk.new _ _ _⟩
      clear HF
      obtain ⟨u, HU⟩ : ∃ u, Box (unR k = u) := ⟨_, ⟨rfl⟩⟩
      rw [HU.out] at HF4 HV4 ⊢
      generalize wr.alloc (.cells (vC u) 23) = W4 at *
      generalize wr.heap.size = vb at *
      obtain ⟨v0', v1', v2'⟩ := HV4.out.c3
      go_wp2_with fail
      refine (rtx_any u _).mono ?_
      rintro e w5 ⟨rfl, hb5⟩
      have HF5 := Box.mk (And.intro (bthen HF4.out.1 hb5 (Nat.le_refl _)) (HF4.out.2.below hb5))
      have HV5 := Box.mk (HV4.out.below hb5)
      clear hb5 HF4 HV4 v0' v1' v2'
      by_cases hx : txL u = s.data.toList
      · have hq : ((bs (txL u)).toList == s.toList) = true := by rw [bs_toL, toL, hx]; simp
        have HM : Box (parM s.data.toList = (u, 0)) := ⟨by rw [← hx, ← HU.out]; exact (par_un hlt).1⟩
        clear hx
        obtain ⟨v0', v1', v2'⟩ := HV5.out.c3
        obtain ⟨r0, r1, r2⟩ := HF5.out.2.c3
        have rf := HF5.out.2.frozen
        go_wp2_with fail
        exact bodyPost_ret (v := .tuple #[uv u.1 u.2.1 u.2.2, .int .i64 0]) (by simp [results, Tryd.results12, go_sem, r0, r1, r2, rf]) rfl ⟨by rw [HM.out], bset3 HF5.out.1 (by omega) _ _ _⟩
      · have hq : ((bs (txL u)).toList == s.toList) = false := by rw [bs_toL, toL, beq_eq_false_iff_ne]; exact hx
        have HX := Box.mk hx
        clear hx
        go_wp2_with fail
        go_roundw
        case rel =>
          refine ⟨k + 1, by omega, by go_num, ⟨fun n hn => ?_⟩, HF5.out⟩
          rcases Nat.lt_or_ge n k with h | h
          · exact HN.out n h
          · obtain rfl : n = k := by omega
            rw [HU.out]; exact HX.out
        case measure => simp [intOf]; omega
    · obtain rfl : k = 343 := by omega
      have HM : Box (parM s.data.toList = (v0, 2)) := ⟨par_no HN.out⟩
      obtain ⟨r0, r1, r2⟩ := HF.out.2.c3
      have rf := HF.out.2.frozen
      go_wp2_with fail
      exact bodyPost_ret (v := .tuple #[uv 0 0 0, .int .i64 2]) (by simp [results, Tryd.results12, go_sem, r0, r1, r2, rf]) rfl ⟨by rw [HM.out]; rfl, bset3 HF.out.1 (by omega) _ _ _⟩
end Go.Proofs.YtpgfpcfmchmbcaaDoor
