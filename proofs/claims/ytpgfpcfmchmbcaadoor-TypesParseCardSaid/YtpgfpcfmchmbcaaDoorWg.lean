/- Mutated of the reference 05. -/
import Derived.Test.YtpgfpcfmchmbcaaDoorWe
import Derived.Laws.Concat
import Derived.Laws.BytesArg
set_option linter.unusedVariables false
set_option linter.unusedSimpArgs false
namespace Go.Proofs.YtpgfpcfmchmbcaaDoor
open Go.RowKit FracM

def RetTx (m : Nat) (w : World) (e : Ending) (w' : World) : Prop := ∃ t : ByteArray, e = .returned (.string t) ∧ t.size ≤ m ∧ Below w.heap.size w w'
set_option maxHeartbeats 2000000 in
set_option maxRecDepth 100000 in
theorem mutated_any (s : ByteArray) (at' how c : Int) (w : World) (hs : s.size ≤ 800) (a1 : -9223372036854775808 ≤ at') (a2 : at' ≤ 9223372036854775807) (h1 : -9223372036854775808 ≤ how) (h2 : how ≤ 9223372036854775807) (c1 : 0 ≤ c) (c2 : c ≤ 255) :
    Calls Tryd.prog 10 #[.string s, .int .i64 at', .int .i64 how, .int .u8 c] w (RetTx 810 w) := by
  obtain ⟨k0, k1⟩ := around_bd at' ((s.size : Int) + 1) (by omega)
  obtain ⟨q0, q1⟩ := around_bd how 3 (by omega)
  have HA := Box.mk (And.intro (And.intro a1 a2) (And.intro h1 h2))
  clear a1 a2 h1 h2
  have hcv : (convert 54 9 (.slice (some ⟨w.heap.size, 0, none⟩) 1 1)).run Tryd.prog (w.alloc (.cells #[.int .u8 c] 5)) = .ok (.string (strOfNums [c])) (w.alloc (.cells #[.int .u8 c] 5)) :=
    run_convert_bytes_arg _ 54 5 Tryd.underlying54 Tryd.underlying5 w.heap.size 0 1 1 [c] rfl (fun i hi => by
      obtain rfl : i = 0 := by omega
      simp) 9 Tryd.underlying9
  have ho : (strOfNums [c]).size = 1 := rfl
  generalize strOfNums [c] = one at hcv ho
  go_enter Tryd.func10, Tryd.ntmps10
  go_wp2_with fail
  refine (around_any at' ((s.size : Int) + 1) _ HA.out.1.1 HA.out.1.2 (by omega) (by omega)).mono ?_
  rintro e w1 ⟨rfl, rfl⟩
  generalize around at' ((s.size : Int) + 1) = k at *
  obtain ⟨k, rfl⟩ : ∃ n : Nat, k = n := ⟨k.toNat, by omega⟩
  go_upto_region 3 with (fail)
  have HB := Box.mk (bel1 w (.cells #[.int .u8 c] 5))
  clear hcv
  generalize w.alloc (.cells #[.int .u8 c] 5) = W at *
  have hk3 : k ≤ s.size := by omega
  have hk4 : (k : Int) ≤ (s.size : Int) := by omega
  by_cases hk : (s.size : Int) = k
  · go_upto_region 4 with (fail)
    go_region
    all_goals
      go_wp2_with fail
      go_ret
      exact ⟨_, rfl, by simp [ByteArray.size_append, ByteArray.size_extract, ho]; omega, by first | exact HB.out | exact bdrew HB.out 1⟩
  · have hk5 : (k : Int) + 1 ≤ (s.size : Int) := by omega
    have hk6 : k + 1 ≤ s.size := by omega
    obtain ⟨q, HQ⟩ : ∃ q, Box (around how 3 = q) := ⟨_, ⟨rfl⟩⟩
    rw [HQ.out] at q0 q1
    have hq : q = 0 ∨ q = 1 ∨ q = 2 := by omega
    clear q0 q1
    rcases hq with rfl | rfl | rfl
    · go_upto_region 4 with (go_at_call 13; refine (around_any how 3 _ HA.out.2.1 HA.out.2.2 (by omega) (by omega)).mono ?_; rintro e w' ⟨rfl, rfl⟩; rw [HQ.out])
      go_region
      all_goals
        go_wp2_with fail
        go_ret
        exact ⟨_, rfl, by simp [ByteArray.size_append, ByteArray.size_extract, ho]; omega, by first | exact HB.out | exact bdrew HB.out 1⟩
    · go_upto_region 6 with (go_at_call 13; refine (around_any how 3 _ HA.out.2.1 HA.out.2.2 (by omega) (by omega)).mono ?_; rintro e w' ⟨rfl, rfl⟩; rw [HQ.out])
      go_region
      all_goals
        go_wp2_with fail
        go_ret
        exact ⟨_, rfl, by simp [ByteArray.size_append, ByteArray.size_extract, ho]; omega, by first | exact HB.out | exact bdrew HB.out 1⟩
    · go_upto_region 7 with (go_at_call 13; refine (around_any how 3 _ HA.out.2.1 HA.out.2.2 (by omega) (by omega)).mono ?_; rintro e w' ⟨rfl, rfl⟩; rw [HQ.out])
      go_region
      all_goals
        go_wp2_with fail
        go_ret
        exact ⟨_, rfl, by simp [ByteArray.size_append, ByteArray.size_extract, ho]; omega, by first | exact HB.out | exact bdrew HB.out 1⟩
end Go.Proofs.YtpgfpcfmchmbcaaDoor
