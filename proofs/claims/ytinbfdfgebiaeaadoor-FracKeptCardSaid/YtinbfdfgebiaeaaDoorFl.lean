/- The documented examples of package frac. -/
import Derived.Test.YtinbfdfgebiaeaaDoorFk
import Derived.Test.YtinbfdfgebiaeaaDoorFp
set_option linter.unusedVariables false
set_option linter.unusedSimpArgs false
namespace Go.Proofs.YtinbfdfgebiaeaaDoor
open Go.RowKit FracM

theorem lv1 : newF 6 (-8) = (-3, 4, 0) := by decide +kernel
theorem lv2 : addF 1 2 1 3 = (5, 6, 0) := by decide +kernel
theorem lv3 : validB (-3) 4 = true := by decide +kernel
theorem lv4 : validB 0 1 = true := by decide +kernel
theorem lv5 : parseF ⟨#[50, 47, 52]⟩ = (0, 0, 2) := by decide +kernel
theorem lv6 : (textF (-3) 4).toList = [45, 51, 47, 52] := by decide +kernel
theorem lv7 : cmpF (-3) 4 5 6 = -1 := by decide +kernel

/-- the four blocks of the call -/
structure LvS (w W : World) (g1 g2 : Nat) : Prop where
  below : Below w.heap.size w W
  b1 : Blk W g1 24 #[.int .i64 (-3), .int .i64 4]
  b2 : Blk W g2 24 #[.int .i64 5, .int .i64 6]
theorem LvS.next {w W W' : World} {g1 g2 : Nat} (h : LvS w W g1 g2) (hb : Below W.heap.size W W') : LvS w W' g1 g2 := ⟨bthen h.below hb (Nat.le_refl _), h.b1.below hb, h.b2.below hb⟩

set_option maxHeartbeats 1000000 in
theorem lives_true (w : World) (hl : LibW w) : Calls Tryd.prog 15 #[] w fun e w' => e = .returned (.bool true) ∧ Below w.heap.size w w' := by
  have HL := Box.mk hl; clear hl
  go_enter Tryd.func15, Tryd.ntmps15
  go_wp2_with fail
  refine (new_any 6 (-8) _ (by omega) (by omega) (by omega) (by omega)).mono ?_
  rintro e w1 ⟨rfl, hb1⟩
  rw [lv1]
  have HB1 := Lib.hid hb1; clear hb1
  go_wp2_with fail
  refine (add_any 1 2 1 3 _ (by omega) (by omega) (by omega) (by omega) (by omega) (by omega) (by omega) (by omega)).mono ?_
  rintro e w2 ⟨rfl, hb2⟩
  rw [lv2]
  have HB2 : Hid (Below w.heap.size w w2 ∧ Blk w2 w1.heap.size 24 #[.int .i64 (-3), .int .i64 4]) := ⟨bthen (HB1.out.alloc HB1.out.size _) hb2 (Nat.le_refl _), (Blk.new _ _ _).below hb2⟩
  have hs2 := sz1 hb2
  obtain ⟨c0, c1⟩ := HB2.out.2.c2
  have hx1 : ¬ w1.heap.size = w2.heap.size := by omega
  clear hb2
  go_wp2_with fail
  refine (div_zero_any (-3) 4 1 _ lv3 lv4).mono ?_
  rintro e w3 ⟨rfl, hb3⟩
  have HB3 : Hid (LvS w w3 w1.heap.size w2.heap.size) := ⟨bthen (HB2.out.1.alloc HB2.out.1.size _) hb3 (Nat.le_refl _), (HB2.out.2.alloc _).below hb3, (Blk.new _ _ _).below hb3⟩
  clear hb3 c0 c1
  go_wp2_with fail
  refine (parse_any ⟨#[50, 47, 52]⟩ _ (by decide) (HL.out.below (HB3.out.next (bel1 _ _)).below)).mono ?_
  rintro e w4 ⟨rfl, hb4⟩
  rw [lv5]
  have HB4 : Hid (LvS w w4 w1.heap.size w2.heap.size) := (HB3.out.next (bel1 _ _)).next hb4
  clear hb4
  have HB5 : Hid (LvS w (w4.alloc (.cells #[.int .i64 0, .int .i64 0] 24)) w1.heap.size w2.heap.size) := HB4.out.next (bel1 _ _)
  obtain ⟨c0, c1⟩ := HB5.out.b1.c2
  obtain ⟨d0, d1⟩ := HB5.out.b2.c2
  go_wp2_with fail
  refine (text_any (-3) 4 _ (by omega) (by omega) (by omega) (by omega) (HL.out.below HB5.out.below)).mono ?_
  rintro e w6 ⟨rfl, hb6⟩
  have HB6 : Hid (LvS w w6 w1.heap.size w2.heap.size) := HB5.out.next hb6
  clear hb6 c0 c1 d0 d1
  obtain ⟨c0, c1⟩ := HB6.out.b1.c2
  obtain ⟨d0, d1⟩ := HB6.out.b2.c2
  have e6 : ((textF (-3) 4).toList == [45, 51, 47, 52]) = true := by rw [lv6]; decide
  generalize textF (-3) 4 = T at *
  go_wp2_with fail
  refine (compare_any (-3) 4 5 6 _ (by omega) (by omega) (by omega) (by omega) (by omega) (by omega) (by omega) (by omega)).mono ?_
  rintro e w7 ⟨rfl, hb7⟩
  rw [lv7]
  have HB7 : Hid (LvS w w7 w1.heap.size w2.heap.size) := HB6.out.next hb7
  clear hb7
  go_wp2_with fail
  go_ret
  exact ⟨rfl, HB7.out.below⟩
end Go.Proofs.YtinbfdfgebiaeaaDoor
