/- The law's examples hold. -/
import Derived.Test.YtpgfpcfmchmbcaaDoorYi
set_option linter.unusedVariables false
set_option linter.unusedSimpArgs false
namespace Go.Proofs.YtpgfpcfmchmbcaaDoor
open Go.RowKit

theorem eq_u (W : World) : (Op.equalIn 10000 23 oneU oneU).run Tryd.prog W = .ok true W := by kernel_rfl
set_option maxHeartbeats 1000000 in
set_option maxRecDepth 100000 in
theorem lives_true (w : World) (hw : WordsW w) : Calls Tryd.prog 8 #[] w (RetB (.bool true) w) := by
  have HW := Box.mk hw; clear hw
  have q := eq_u
  go_enter Tryd.func8, Tryd.ntmps8
  go_wp2_with fail
  refine (of_one (w.heap.size + 1) _ (HW.out.below (bel2 _ _ _)) (Blk.newAt _ _ (by simp))).mono ?_
  rintro e w1 ⟨rfl, hb⟩
  have HB : Hid (Below w.heap.size w w1 ∧ Blk w1 w.heap.size 48 reqC) := ⟨bthen (bel2 _ _ _) hb (Nat.le_refl _), ((Blk.new _ _ _).alloc _).below hb⟩
  clear hb
  go_upto_region 3 with (fail)
  have HB2 : Hid (Below w.heap.size w (w1.alloc (.cells #[.int .i64 1, .int .i64 0, .int .i64 (-1)] 23)) ∧ Blk (w1.alloc (.cells #[.int .i64 1, .int .i64 0, .int .i64 (-1)] 23)) w.heap.size 48 reqC ∧ Blk (w1.alloc (.cells #[.int .i64 1, .int .i64 0, .int .i64 (-1)] 23)) w1.heap.size 23 #[.int .i64 1, .int .i64 0, .int .i64 (-1)]) := ⟨HB.out.1.alloc HB.out.1.size _, HB.out.2.alloc _, Blk.new _ _ _⟩
  clear HB
  generalize w1.heap.size = N at *
  generalize w1.alloc (.cells #[.int .i64 1, .int .i64 0, .int .i64 (-1)] 23) = W1 at *
  obtain ⟨c0, c1, c2, c3, c4, c5, c6, c7, c8, c9, c10⟩ := req_at HB2.out.2.1
  go_wp2_with fail
  refine (of_nil _ (HW.out.below HB2.out.1)).mono ?_
  rintro e w2 ⟨rfl, hb⟩
  clear c0 c1 c2 c3 c4 c5 c6 c7 c8 c9 c10
  have HB3 : Hid (Below w.heap.size w w2 ∧ Blk w2 N 23 #[.int .i64 1, .int .i64 0, .int .i64 (-1)]) := ⟨bthen HB2.out.1 hb (Nat.le_refl _), HB2.out.2.2.below hb⟩
  clear hb HB2
  go_upto_region 4 with (fail)
  have HB4 : Hid (Below w.heap.size w (w2.alloc (.cells #[.int .i64 0, .int .i64 0, .int .i64 0] 23)) ∧ Blk (w2.alloc (.cells #[.int .i64 0, .int .i64 0, .int .i64 0] 23)) N 23 #[.int .i64 1, .int .i64 0, .int .i64 (-1)]) := ⟨HB3.out.1.alloc HB3.out.1.size _, HB3.out.2.alloc _⟩
  clear HB3
  generalize w2.alloc (.cells #[.int .i64 0, .int .i64 0, .int .i64 0] 23) = W2 at *
  obtain ⟨n0, n1, n2⟩ := HB4.out.2.c3
  go_wp2_with fail
  refine (text_one _ (HW.out.below HB4.out.1)).mono ?_
  rintro e w3 ⟨rfl, hb⟩
  have HB5 := Lib.hid (bthen HB4.out.1 hb (Nat.le_refl _))
  clear hb n0 n1 n2 HB4
  go_wp2_with fail
  refine (text_none _ (HW.out.below HB5.out)).mono ?_
  rintro e w4 ⟨rfl, hb⟩
  have HB6 := Lib.hid (bthen HB5.out hb (Nat.le_refl _))
  clear hb HB5
  go_wp2_with fail
  go_ret
  exact ⟨rfl, HB6.out⟩
end Go.Proofs.YtpgfpcfmchmbcaaDoor
