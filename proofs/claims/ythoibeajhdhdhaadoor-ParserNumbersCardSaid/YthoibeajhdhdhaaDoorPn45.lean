/- Contracts, packed: FeT. -/
import Derived.Test.YthoibeajhdhdhaaDoorPn44
set_option linter.unusedVariables false
set_option linter.unusedSimpArgs false
namespace Go.Proofs.YthoibeajhdhdhaaDoor
section
open Go.RowKit FracM
set_option maxHeartbeats 1000000 in
theorem sum_tf_lt1_h_hi0 (a b c d : Int) (w : World) {h1 l1 h2 l2 hi lo : Nat} (X : W2 (a * b) h1 l1 true) (Y : W2 (c * d) h2 l2 false) (la : -9223372036854775807 ≤ a) (ua : a ≤ 9223372036854775807) (lb : -9223372036854775807 ≤ b) (ub : b ≤ 9223372036854775807) (lc : -9223372036854775807 ≤ c) (uc : c ≤ 9223372036854775807) (ld : -9223372036854775807 ≤ d) (ud : d ≤ 9223372036854775807) (R : SubF h2 l2 h1 l1 hi lo) (x1 : ((h2 : Int) == 0) = false) (v1 : ((hi : Int) == 0) = true) (v2 : ((lo : Int) == 0) = false) (y1 : h1 < h2) :
    Calls Tryd.prog 71 #[.int .i64 a, .int .i64 b, .int .i64 c, .int .i64 d] w fun e w' => e = .returned (.agg #[.int .u64 hi, .int .u64 lo, .bool false]) ∧ Below w.heap.size w w' := by
  obtain ⟨cy, r1, r2⟩ := R
  have HX := Lib.hid X; have HY := Lib.hid Y; clear X Y
  go_enter Tryd.func71, Tryd.ntmps71
  go_wp2_with fail
  refine (product_w _ HX.out (by omega) (by omega) (by omega) (by omega)).mono ?_
  rintro e w1 ⟨rfl, hb1⟩
  have HB1 : Hid (Below w.heap.size w w1 ∧ Blk w1 w.heap.size 111 #[.int .u64 0, .int .u64 0, .bool false]) := ⟨bthen (bel1 _ _) hb1 (Nat.le_refl _), (Blk.new _ _ _).below hb1⟩
  have z1 := sz1 hb1
  clear hb1
  go_wp2_with fail
  refine (product_w _ HY.out (by omega) (by omega) (by omega) (by omega)).mono ?_
  rintro e w2 ⟨rfl, hb2⟩
  have HB2 : Hid (Below w.heap.size w w2 ∧ Blk w2 w.heap.size 111 #[.int .u64 0, .int .u64 0, .bool false]) := ⟨bthen HB1.out.1 hb2 (Nat.le_refl _), HB1.out.2.below hb2⟩
  have z2 : w.heap.size < w2.heap.size := by have := hb2.size; omega
  obtain ⟨d0, d1, d2⟩ := HB2.out.2.c3
  have df := HB2.out.2.frozen
  clear hb2
  have n1 : ¬ w.heap.size = w2.heap.size := by omega
  have n2 : ¬ w.heap.size = w2.heap.size + 1 := by omega
  have n3 : ¬ w2.heap.size = w.heap.size := by omega
  have n4 : ¬ w2.heap.size + 1 = w.heap.size := by omega
  go_wp2_with fail
  exact bodyPost_ret (v := .agg #[.int .u64 hi, .int .u64 lo, .bool false]) (by simp [results, Tryd.results71, go_sem, d0, d1, d2, df, z2, n1, n2, n3, n4]) rfl ⟨rfl, ((bset3 HB2.out.1 (Nat.le_refl _) _ _ _).alloc (by simp [World.setCell]; omega) _).alloc (by simp [World.setCell]; omega) _⟩
set_option maxHeartbeats 1000000 in
theorem sum_tf_lt1_h_hi1 (a b c d : Int) (w : World) {h1 l1 h2 l2 hi lo : Nat} (X : W2 (a * b) h1 l1 true) (Y : W2 (c * d) h2 l2 false) (la : -9223372036854775807 ≤ a) (ua : a ≤ 9223372036854775807) (lb : -9223372036854775807 ≤ b) (ub : b ≤ 9223372036854775807) (lc : -9223372036854775807 ≤ c) (uc : c ≤ 9223372036854775807) (ld : -9223372036854775807 ≤ d) (ud : d ≤ 9223372036854775807) (R : SubF h2 l2 h1 l1 hi lo) (x1 : ((h2 : Int) == 0) = false) (v1 : ((hi : Int) == 0) = false) (y1 : h1 < h2) :
    Calls Tryd.prog 71 #[.int .i64 a, .int .i64 b, .int .i64 c, .int .i64 d] w fun e w' => e = .returned (.agg #[.int .u64 hi, .int .u64 lo, .bool false]) ∧ Below w.heap.size w w' := by
  obtain ⟨cy, r1, r2⟩ := R
  have HX := Lib.hid X; have HY := Lib.hid Y; clear X Y
  go_enter Tryd.func71, Tryd.ntmps71
  go_wp2_with fail
  refine (product_w _ HX.out (by omega) (by omega) (by omega) (by omega)).mono ?_
  rintro e w1 ⟨rfl, hb1⟩
  have HB1 : Hid (Below w.heap.size w w1 ∧ Blk w1 w.heap.size 111 #[.int .u64 0, .int .u64 0, .bool false]) := ⟨bthen (bel1 _ _) hb1 (Nat.le_refl _), (Blk.new _ _ _).below hb1⟩
  have z1 := sz1 hb1
  clear hb1
  go_wp2_with fail
  refine (product_w _ HY.out (by omega) (by omega) (by omega) (by omega)).mono ?_
  rintro e w2 ⟨rfl, hb2⟩
  have HB2 : Hid (Below w.heap.size w w2 ∧ Blk w2 w.heap.size 111 #[.int .u64 0, .int .u64 0, .bool false]) := ⟨bthen HB1.out.1 hb2 (Nat.le_refl _), HB1.out.2.below hb2⟩
  have z2 : w.heap.size < w2.heap.size := by have := hb2.size; omega
  obtain ⟨d0, d1, d2⟩ := HB2.out.2.c3
  have df := HB2.out.2.frozen
  clear hb2
  have n1 : ¬ w.heap.size = w2.heap.size := by omega
  have n2 : ¬ w.heap.size = w2.heap.size + 1 := by omega
  have n3 : ¬ w2.heap.size = w.heap.size := by omega
  have n4 : ¬ w2.heap.size + 1 = w.heap.size := by omega
  go_wp2_with fail
  exact bodyPost_ret (v := .agg #[.int .u64 hi, .int .u64 lo, .bool false]) (by simp [results, Tryd.results71, go_sem, d0, d1, d2, df, z2, n1, n2, n3, n4]) rfl ⟨rfl, ((bset3 HB2.out.1 (Nat.le_refl _) _ _ _).alloc (by simp [World.setCell]; omega) _).alloc (by simp [World.setCell]; omega) _⟩
set_option maxHeartbeats 1000000 in
theorem sum_tf_lt1_l_hi0 (a b c d : Int) (w : World) {h1 l1 h2 l2 hi lo : Nat} (X : W2 (a * b) h1 l1 true) (Y : W2 (c * d) h2 l2 false) (la : -9223372036854775807 ≤ a) (ua : a ≤ 9223372036854775807) (lb : -9223372036854775807 ≤ b) (ub : b ≤ 9223372036854775807) (lc : -9223372036854775807 ≤ c) (uc : c ≤ 9223372036854775807) (ld : -9223372036854775807 ≤ d) (ud : d ≤ 9223372036854775807) (R : SubF h2 l2 h1 l1 hi lo) (x1 : ((l2 : Int) == 0) = false) (v1 : ((hi : Int) == 0) = true) (v2 : ((lo : Int) == 0) = false) (y1 : h1 < h2) :
    Calls Tryd.prog 71 #[.int .i64 a, .int .i64 b, .int .i64 c, .int .i64 d] w fun e w' => e = .returned (.agg #[.int .u64 hi, .int .u64 lo, .bool false]) ∧ Below w.heap.size w w' := by
  obtain ⟨cy, r1, r2⟩ := R
  have HX := Lib.hid X; have HY := Lib.hid Y; clear X Y
  go_enter Tryd.func71, Tryd.ntmps71
  go_wp2_with fail
  refine (product_w _ HX.out (by omega) (by omega) (by omega) (by omega)).mono ?_
  rintro e w1 ⟨rfl, hb1⟩
  have HB1 : Hid (Below w.heap.size w w1 ∧ Blk w1 w.heap.size 111 #[.int .u64 0, .int .u64 0, .bool false]) := ⟨bthen (bel1 _ _) hb1 (Nat.le_refl _), (Blk.new _ _ _).below hb1⟩
  have z1 := sz1 hb1
  clear hb1
  go_wp2_with fail
  refine (product_w _ HY.out (by omega) (by omega) (by omega) (by omega)).mono ?_
  rintro e w2 ⟨rfl, hb2⟩
  have HB2 : Hid (Below w.heap.size w w2 ∧ Blk w2 w.heap.size 111 #[.int .u64 0, .int .u64 0, .bool false]) := ⟨bthen HB1.out.1 hb2 (Nat.le_refl _), HB1.out.2.below hb2⟩
  have z2 : w.heap.size < w2.heap.size := by have := hb2.size; omega
  obtain ⟨d0, d1, d2⟩ := HB2.out.2.c3
  have df := HB2.out.2.frozen
  clear hb2
  have n1 : ¬ w.heap.size = w2.heap.size := by omega
  have n2 : ¬ w.heap.size = w2.heap.size + 1 := by omega
  have n3 : ¬ w2.heap.size = w.heap.size := by omega
  have n4 : ¬ w2.heap.size + 1 = w.heap.size := by omega
  go_wp2_with fail
  exact bodyPost_ret (v := .agg #[.int .u64 hi, .int .u64 lo, .bool false]) (by simp [results, Tryd.results71, go_sem, d0, d1, d2, df, z2, n1, n2, n3, n4]) rfl ⟨rfl, ((bset3 HB2.out.1 (Nat.le_refl _) _ _ _).alloc (by simp [World.setCell]; omega) _).alloc (by simp [World.setCell]; omega) _⟩
set_option maxHeartbeats 1000000 in
theorem sum_tf_lt1_l_hi1 (a b c d : Int) (w : World) {h1 l1 h2 l2 hi lo : Nat} (X : W2 (a * b) h1 l1 true) (Y : W2 (c * d) h2 l2 false) (la : -9223372036854775807 ≤ a) (ua : a ≤ 9223372036854775807) (lb : -9223372036854775807 ≤ b) (ub : b ≤ 9223372036854775807) (lc : -9223372036854775807 ≤ c) (uc : c ≤ 9223372036854775807) (ld : -9223372036854775807 ≤ d) (ud : d ≤ 9223372036854775807) (R : SubF h2 l2 h1 l1 hi lo) (x1 : ((l2 : Int) == 0) = false) (v1 : ((hi : Int) == 0) = false) (y1 : h1 < h2) :
    Calls Tryd.prog 71 #[.int .i64 a, .int .i64 b, .int .i64 c, .int .i64 d] w fun e w' => e = .returned (.agg #[.int .u64 hi, .int .u64 lo, .bool false]) ∧ Below w.heap.size w w' := by
  obtain ⟨cy, r1, r2⟩ := R
  have HX := Lib.hid X; have HY := Lib.hid Y; clear X Y
  go_enter Tryd.func71, Tryd.ntmps71
  go_wp2_with fail
  refine (product_w _ HX.out (by omega) (by omega) (by omega) (by omega)).mono ?_
  rintro e w1 ⟨rfl, hb1⟩
  have HB1 : Hid (Below w.heap.size w w1 ∧ Blk w1 w.heap.size 111 #[.int .u64 0, .int .u64 0, .bool false]) := ⟨bthen (bel1 _ _) hb1 (Nat.le_refl _), (Blk.new _ _ _).below hb1⟩
  have z1 := sz1 hb1
  clear hb1
  go_wp2_with fail
  refine (product_w _ HY.out (by omega) (by omega) (by omega) (by omega)).mono ?_
  rintro e w2 ⟨rfl, hb2⟩
  have HB2 : Hid (Below w.heap.size w w2 ∧ Blk w2 w.heap.size 111 #[.int .u64 0, .int .u64 0, .bool false]) := ⟨bthen HB1.out.1 hb2 (Nat.le_refl _), HB1.out.2.below hb2⟩
  have z2 : w.heap.size < w2.heap.size := by have := hb2.size; omega
  obtain ⟨d0, d1, d2⟩ := HB2.out.2.c3
  have df := HB2.out.2.frozen
  clear hb2
  have n1 : ¬ w.heap.size = w2.heap.size := by omega
  have n2 : ¬ w.heap.size = w2.heap.size + 1 := by omega
  have n3 : ¬ w2.heap.size = w.heap.size := by omega
  have n4 : ¬ w2.heap.size + 1 = w.heap.size := by omega
  go_wp2_with fail
  exact bodyPost_ret (v := .agg #[.int .u64 hi, .int .u64 lo, .bool false]) (by simp [results, Tryd.results71, go_sem, d0, d1, d2, df, z2, n1, n2, n3, n4]) rfl ⟨rfl, ((bset3 HB2.out.1 (Nat.le_refl _) _ _ _).alloc (by simp [World.setCell]; omega) _).alloc (by simp [World.setCell]; omega) _⟩
set_option maxHeartbeats 1000000 in
theorem sum_tf_lt2_h_hi0 (a b c d : Int) (w : World) {h1 l1 h2 l2 hi lo : Nat} (X : W2 (a * b) h1 l1 true) (Y : W2 (c * d) h2 l2 false) (la : -9223372036854775807 ≤ a) (ua : a ≤ 9223372036854775807) (lb : -9223372036854775807 ≤ b) (ub : b ≤ 9223372036854775807) (lc : -9223372036854775807 ≤ c) (uc : c ≤ 9223372036854775807) (ld : -9223372036854775807 ≤ d) (ud : d ≤ 9223372036854775807) (R : SubF h2 l2 h1 l1 hi lo) (x1 : ((h2 : Int) == 0) = false) (v1 : ((hi : Int) == 0) = true) (v2 : ((lo : Int) == 0) = false) (y1 : ¬ h1 < h2) (y2 : ((h1 : Int) == (h2 : Int)) = true) (y3 : l1 < l2) :
    Calls Tryd.prog 71 #[.int .i64 a, .int .i64 b, .int .i64 c, .int .i64 d] w fun e w' => e = .returned (.agg #[.int .u64 hi, .int .u64 lo, .bool false]) ∧ Below w.heap.size w w' := by
  obtain ⟨cy, r1, r2⟩ := R
  have HX := Lib.hid X; have HY := Lib.hid Y; clear X Y
  go_enter Tryd.func71, Tryd.ntmps71
  go_wp2_with fail
  refine (product_w _ HX.out (by omega) (by omega) (by omega) (by omega)).mono ?_
  rintro e w1 ⟨rfl, hb1⟩
  have HB1 : Hid (Below w.heap.size w w1 ∧ Blk w1 w.heap.size 111 #[.int .u64 0, .int .u64 0, .bool false]) := ⟨bthen (bel1 _ _) hb1 (Nat.le_refl _), (Blk.new _ _ _).below hb1⟩
  have z1 := sz1 hb1
  clear hb1
  go_wp2_with fail
  refine (product_w _ HY.out (by omega) (by omega) (by omega) (by omega)).mono ?_
  rintro e w2 ⟨rfl, hb2⟩
  have HB2 : Hid (Below w.heap.size w w2 ∧ Blk w2 w.heap.size 111 #[.int .u64 0, .int .u64 0, .bool false]) := ⟨bthen HB1.out.1 hb2 (Nat.le_refl _), HB1.out.2.below hb2⟩
  have z2 : w.heap.size < w2.heap.size := by have := hb2.size; omega
  obtain ⟨d0, d1, d2⟩ := HB2.out.2.c3
  have df := HB2.out.2.frozen
  clear hb2
  have n1 : ¬ w.heap.size = w2.heap.size := by omega
  have n2 : ¬ w.heap.size = w2.heap.size + 1 := by omega
  have n3 : ¬ w2.heap.size = w.heap.size := by omega
  have n4 : ¬ w2.heap.size + 1 = w.heap.size := by omega
  go_wp2_with fail
  exact bodyPost_ret (v := .agg #[.int .u64 hi, .int .u64 lo, .bool false]) (by simp [results, Tryd.results71, go_sem, d0, d1, d2, df, z2, n1, n2, n3, n4]) rfl ⟨rfl, ((bset3 HB2.out.1 (Nat.le_refl _) _ _ _).alloc (by simp [World.setCell]; omega) _).alloc (by simp [World.setCell]; omega) _⟩
set_option maxHeartbeats 1000000 in
theorem sum_tf_lt2_h_hi1 (a b c d : Int) (w : World) {h1 l1 h2 l2 hi lo : Nat} (X : W2 (a * b) h1 l1 true) (Y : W2 (c * d) h2 l2 false) (la : -9223372036854775807 ≤ a) (ua : a ≤ 9223372036854775807) (lb : -9223372036854775807 ≤ b) (ub : b ≤ 9223372036854775807) (lc : -9223372036854775807 ≤ c) (uc : c ≤ 9223372036854775807) (ld : -9223372036854775807 ≤ d) (ud : d ≤ 9223372036854775807) (R : SubF h2 l2 h1 l1 hi lo) (x1 : ((h2 : Int) == 0) = false) (v1 : ((hi : Int) == 0) = false) (y1 : ¬ h1 < h2) (y2 : ((h1 : Int) == (h2 : Int)) = true) (y3 : l1 < l2) :
    Calls Tryd.prog 71 #[.int .i64 a, .int .i64 b, .int .i64 c, .int .i64 d] w fun e w' => e = .returned (.agg #[.int .u64 hi, .int .u64 lo, .bool false]) ∧ Below w.heap.size w w' := by
  obtain ⟨cy, r1, r2⟩ := R
  have HX := Lib.hid X; have HY := Lib.hid Y; clear X Y
  go_enter Tryd.func71, Tryd.ntmps71
  go_wp2_with fail
  refine (product_w _ HX.out (by omega) (by omega) (by omega) (by omega)).mono ?_
  rintro e w1 ⟨rfl, hb1⟩
  have HB1 : Hid (Below w.heap.size w w1 ∧ Blk w1 w.heap.size 111 #[.int .u64 0, .int .u64 0, .bool false]) := ⟨bthen (bel1 _ _) hb1 (Nat.le_refl _), (Blk.new _ _ _).below hb1⟩
  have z1 := sz1 hb1
  clear hb1
  go_wp2_with fail
  refine (product_w _ HY.out (by omega) (by omega) (by omega) (by omega)).mono ?_
  rintro e w2 ⟨rfl, hb2⟩
  have HB2 : Hid (Below w.heap.size w w2 ∧ Blk w2 w.heap.size 111 #[.int .u64 0, .int .u64 0, .bool false]) := ⟨bthen HB1.out.1 hb2 (Nat.le_refl _), HB1.out.2.below hb2⟩
  have z2 : w.heap.size < w2.heap.size := by have := hb2.size; omega
  obtain ⟨d0, d1, d2⟩ := HB2.out.2.c3
  have df := HB2.out.2.frozen
  clear hb2
  have n1 : ¬ w.heap.size = w2.heap.size := by omega
  have n2 : ¬ w.heap.size = w2.heap.size + 1 := by omega
  have n3 : ¬ w2.heap.size = w.heap.size := by omega
  have n4 : ¬ w2.heap.size + 1 = w.heap.size := by omega
  go_wp2_with fail
  exact bodyPost_ret (v := .agg #[.int .u64 hi, .int .u64 lo, .bool false]) (by simp [results, Tryd.results71, go_sem, d0, d1, d2, df, z2, n1, n2, n3, n4]) rfl ⟨rfl, ((bset3 HB2.out.1 (Nat.le_refl _) _ _ _).alloc (by simp [World.setCell]; omega) _).alloc (by simp [World.setCell]; omega) _⟩
set_option maxHeartbeats 1000000 in
theorem sum_tf_lt2_l_hi0 (a b c d : Int) (w : World) {h1 l1 h2 l2 hi lo : Nat} (X : W2 (a * b) h1 l1 true) (Y : W2 (c * d) h2 l2 false) (la : -9223372036854775807 ≤ a) (ua : a ≤ 9223372036854775807) (lb : -9223372036854775807 ≤ b) (ub : b ≤ 9223372036854775807) (lc : -9223372036854775807 ≤ c) (uc : c ≤ 9223372036854775807) (ld : -9223372036854775807 ≤ d) (ud : d ≤ 9223372036854775807) (R : SubF h2 l2 h1 l1 hi lo) (x1 : ((l2 : Int) == 0) = false) (v1 : ((hi : Int) == 0) = true) (v2 : ((lo : Int) == 0) = false) (y1 : ¬ h1 < h2) (y2 : ((h1 : Int) == (h2 : Int)) = true) (y3 : l1 < l2) :
    Calls Tryd.prog 71 #[.int .i64 a, .int .i64 b, .int .i64 c, .int .i64 d] w fun e w' => e = .returned (.agg #[.int .u64 hi, .int .u64 lo, .bool false]) ∧ Below w.heap.size w w' := by
  obtain ⟨cy, r1, r2⟩ := R
  have HX := Lib.hid X; have HY := Lib.hid Y; clear X Y
  go_enter Tryd.func71, Tryd.ntmps71
  go_wp2_with fail
  refine (product_w _ HX.out (by omega) (by omega) (by omega) (by omega)).mono ?_
  rintro e w1 ⟨rfl, hb1⟩
  have HB1 : Hid (Below w.heap.size w w1 ∧ Blk w1 w.heap.size 111 #[.int .u64 0, .int .u64 0, .bool false]) := ⟨bthen (bel1 _ _) hb1 (Nat.le_refl _), (Blk.new _ _ _).below hb1⟩
  have z1 := sz1 hb1
  clear hb1
  go_wp2_with fail
  refine (product_w _ HY.out (by omega) (by omega) (by omega) (by omega)).mono ?_
  rintro e w2 ⟨rfl, hb2⟩
  have HB2 : Hid (Below w.heap.size w w2 ∧ Blk w2 w.heap.size 111 #[.int .u64 0, .int .u64 0, .bool false]) := ⟨bthen HB1.out.1 hb2 (Nat.le_refl _), HB1.out.2.below hb2⟩
  have z2 : w.heap.size < w2.heap.size := by have := hb2.size; omega
  obtain ⟨d0, d1, d2⟩ := HB2.out.2.c3
  have df := HB2.out.2.frozen
  clear hb2
  have n1 : ¬ w.heap.size = w2.heap.size := by omega
  have n2 : ¬ w.heap.size = w2.heap.size + 1 := by omega
  have n3 : ¬ w2.heap.size = w.heap.size := by omega
  have n4 : ¬ w2.heap.size + 1 = w.heap.size := by omega
  go_wp2_with fail
  exact bodyPost_ret (v := .agg #[.int .u64 hi, .int .u64 lo, .bool false]) (by simp [results, Tryd.results71, go_sem, d0, d1, d2, df, z2, n1, n2, n3, n4]) rfl ⟨rfl, ((bset3 HB2.out.1 (Nat.le_refl _) _ _ _).alloc (by simp [World.setCell]; omega) _).alloc (by simp [World.setCell]; omega) _⟩
set_option maxHeartbeats 1000000 in
theorem sum_tf_lt2_l_hi1 (a b c d : Int) (w : World) {h1 l1 h2 l2 hi lo : Nat} (X : W2 (a * b) h1 l1 true) (Y : W2 (c * d) h2 l2 false) (la : -9223372036854775807 ≤ a) (ua : a ≤ 9223372036854775807) (lb : -9223372036854775807 ≤ b) (ub : b ≤ 9223372036854775807) (lc : -9223372036854775807 ≤ c) (uc : c ≤ 9223372036854775807) (ld : -9223372036854775807 ≤ d) (ud : d ≤ 9223372036854775807) (R : SubF h2 l2 h1 l1 hi lo) (x1 : ((l2 : Int) == 0) = false) (v1 : ((hi : Int) == 0) = false) (y1 : ¬ h1 < h2) (y2 : ((h1 : Int) == (h2 : Int)) = true) (y3 : l1 < l2) :
    Calls Tryd.prog 71 #[.int .i64 a, .int .i64 b, .int .i64 c, .int .i64 d] w fun e w' => e = .returned (.agg #[.int .u64 hi, .int .u64 lo, .bool false]) ∧ Below w.heap.size w w' := by
  obtain ⟨cy, r1, r2⟩ := R
  have HX := Lib.hid X; have HY := Lib.hid Y; clear X Y
  go_enter Tryd.func71, Tryd.ntmps71
  go_wp2_with fail
  refine (product_w _ HX.out (by omega) (by omega) (by omega) (by omega)).mono ?_
  rintro e w1 ⟨rfl, hb1⟩
  have HB1 : Hid (Below w.heap.size w w1 ∧ Blk w1 w.heap.size 111 #[.int .u64 0, .int .u64 0, .bool false]) := ⟨bthen (bel1 _ _) hb1 (Nat.le_refl _), (Blk.new _ _ _).below hb1⟩
  have z1 := sz1 hb1
  clear hb1
  go_wp2_with fail
  refine (product_w _ HY.out (by omega) (by omega) (by omega) (by omega)).mono ?_
  rintro e w2 ⟨rfl, hb2⟩
  have HB2 : Hid (Below w.heap.size w w2 ∧ Blk w2 w.heap.size 111 #[.int .u64 0, .int .u64 0, .bool false]) := ⟨bthen HB1.out.1 hb2 (Nat.le_refl _), HB1.out.2.below hb2⟩
  have z2 : w.heap.size < w2.heap.size := by have := hb2.size; omega
  obtain ⟨d0, d1, d2⟩ := HB2.out.2.c3
  have df := HB2.out.2.frozen
  clear hb2
  have n1 : ¬ w.heap.size = w2.heap.size := by omega
  have n2 : ¬ w.heap.size = w2.heap.size + 1 := by omega
  have n3 : ¬ w2.heap.size = w.heap.size := by omega
  have n4 : ¬ w2.heap.size + 1 = w.heap.size := by omega
  go_wp2_with fail
  exact bodyPost_ret (v := .agg #[.int .u64 hi, .int .u64 lo, .bool false]) (by simp [results, Tryd.results71, go_sem, d0, d1, d2, df, z2, n1, n2, n3, n4]) rfl ⟨rfl, ((bset3 HB2.out.1 (Nat.le_refl _) _ _ _).alloc (by simp [World.setCell]; omega) _).alloc (by simp [World.setCell]; omega) _⟩
set_option maxHeartbeats 1000000 in
theorem sum_tf_ge1_h_hi0 (a b c d : Int) (w : World) {h1 l1 h2 l2 hi lo : Nat} (X : W2 (a * b) h1 l1 true) (Y : W2 (c * d) h2 l2 false) (la : -9223372036854775807 ≤ a) (ua : a ≤ 9223372036854775807) (lb : -9223372036854775807 ≤ b) (ub : b ≤ 9223372036854775807) (lc : -9223372036854775807 ≤ c) (uc : c ≤ 9223372036854775807) (ld : -9223372036854775807 ≤ d) (ud : d ≤ 9223372036854775807) (R : SubF h1 l1 h2 l2 hi lo) (x1 : ((h2 : Int) == 0) = false) (v1 : ((hi : Int) == 0) = true) (v2 : ((lo : Int) == 0) = false) (y1 : ¬ h1 < h2) (y2 : ((h1 : Int) == (h2 : Int)) = false) :
    Calls Tryd.prog 71 #[.int .i64 a, .int .i64 b, .int .i64 c, .int .i64 d] w fun e w' => e = .returned (.agg #[.int .u64 hi, .int .u64 lo, .bool true]) ∧ Below w.heap.size w w' := by
  obtain ⟨cy, r1, r2⟩ := R
  have HX := Lib.hid X; have HY := Lib.hid Y; clear X Y
  go_enter Tryd.func71, Tryd.ntmps71
  go_wp2_with fail
  refine (product_w _ HX.out (by omega) (by omega) (by omega) (by omega)).mono ?_
  rintro e w1 ⟨rfl, hb1⟩
  have HB1 : Hid (Below w.heap.size w w1 ∧ Blk w1 w.heap.size 111 #[.int .u64 0, .int .u64 0, .bool false]) := ⟨bthen (bel1 _ _) hb1 (Nat.le_refl _), (Blk.new _ _ _).below hb1⟩
  have z1 := sz1 hb1
  clear hb1
  go_wp2_with fail
  refine (product_w _ HY.out (by omega) (by omega) (by omega) (by omega)).mono ?_
  rintro e w2 ⟨rfl, hb2⟩
  have HB2 : Hid (Below w.heap.size w w2 ∧ Blk w2 w.heap.size 111 #[.int .u64 0, .int .u64 0, .bool false]) := ⟨bthen HB1.out.1 hb2 (Nat.le_refl _), HB1.out.2.below hb2⟩
  have z2 : w.heap.size < w2.heap.size := by have := hb2.size; omega
  obtain ⟨d0, d1, d2⟩ := HB2.out.2.c3
  have df := HB2.out.2.frozen
  clear hb2
  have n1 : ¬ w.heap.size = w2.heap.size := by omega
  have n2 : ¬ w.heap.size = w2.heap.size + 1 := by omega
  have n3 : ¬ w2.heap.size = w.heap.size := by omega
  have n4 : ¬ w2.heap.size + 1 = w.heap.size := by omega
  go_wp2_with fail
  exact bodyPost_ret (v := .agg #[.int .u64 hi, .int .u64 lo, .bool true]) (by simp [results, Tryd.results71, go_sem, d0, d1, d2, df, z2, n1, n2, n3, n4]) rfl ⟨rfl, ((bset3 HB2.out.1 (Nat.le_refl _) _ _ _).alloc (by simp [World.setCell]; omega) _).alloc (by simp [World.setCell]; omega) _⟩
set_option maxHeartbeats 1000000 in
theorem sum_tf_ge1_h_hi1 (a b c d : Int) (w : World) {h1 l1 h2 l2 hi lo : Nat} (X : W2 (a * b) h1 l1 true) (Y : W2 (c * d) h2 l2 false) (la : -9223372036854775807 ≤ a) (ua : a ≤ 9223372036854775807) (lb : -9223372036854775807 ≤ b) (ub : b ≤ 9223372036854775807) (lc : -9223372036854775807 ≤ c) (uc : c ≤ 9223372036854775807) (ld : -9223372036854775807 ≤ d) (ud : d ≤ 9223372036854775807) (R : SubF h1 l1 h2 l2 hi lo) (x1 : ((h2 : Int) == 0) = false) (v1 : ((hi : Int) == 0) = false) (y1 : ¬ h1 < h2) (y2 : ((h1 : Int) == (h2 : Int)) = false) :
    Calls Tryd.prog 71 #[.int .i64 a, .int .i64 b, .int .i64 c, .int .i64 d] w fun e w' => e = .returned (.agg #[.int .u64 hi, .int .u64 lo, .bool true]) ∧ Below w.heap.size w w' := by
  obtain ⟨cy, r1, r2⟩ := R
  have HX := Lib.hid X; have HY := Lib.hid Y; clear X Y
  go_enter Tryd.func71, Tryd.ntmps71
  go_wp2_with fail
  refine (product_w _ HX.out (by omega) (by omega) (by omega) (by omega)).mono ?_
  rintro e w1 ⟨rfl, hb1⟩
  have HB1 : Hid (Below w.heap.size w w1 ∧ Blk w1 w.heap.size 111 #[.int .u64 0, .int .u64 0, .bool false]) := ⟨bthen (bel1 _ _) hb1 (Nat.le_refl _), (Blk.new _ _ _).below hb1⟩
  have z1 := sz1 hb1
  clear hb1
  go_wp2_with fail
  refine (product_w _ HY.out (by omega) (by omega) (by omega) (by omega)).mono ?_
  rintro e w2 ⟨rfl, hb2⟩
  have HB2 : Hid (Below w.heap.size w w2 ∧ Blk w2 w.heap.size 111 #[.int .u64 0, .int .u64 0, .bool false]) := ⟨bthen HB1.out.1 hb2 (Nat.le_refl _), HB1.out.2.below hb2⟩
  have z2 : w.heap.size < w2.heap.size := by have := hb2.size; omega
  obtain ⟨d0, d1, d2⟩ := HB2.out.2.c3
  have df := HB2.out.2.frozen
  clear hb2
  have n1 : ¬ w.heap.size = w2.heap.size := by omega
  have n2 : ¬ w.heap.size = w2.heap.size + 1 := by omega
  have n3 : ¬ w2.heap.size = w.heap.size := by omega
  have n4 : ¬ w2.heap.size + 1 = w.heap.size := by omega
  go_wp2_with fail
  exact bodyPost_ret (v := .agg #[.int .u64 hi, .int .u64 lo, .bool true]) (by simp [results, Tryd.results71, go_sem, d0, d1, d2, df, z2, n1, n2, n3, n4]) rfl ⟨rfl, ((bset3 HB2.out.1 (Nat.le_refl _) _ _ _).alloc (by simp [World.setCell]; omega) _).alloc (by simp [World.setCell]; omega) _⟩
set_option maxHeartbeats 1000000 in
theorem sum_tf_ge1_l_hi0 (a b c d : Int) (w : World) {h1 l1 h2 l2 hi lo : Nat} (X : W2 (a * b) h1 l1 true) (Y : W2 (c * d) h2 l2 false) (la : -9223372036854775807 ≤ a) (ua : a ≤ 9223372036854775807) (lb : -9223372036854775807 ≤ b) (ub : b ≤ 9223372036854775807) (lc : -9223372036854775807 ≤ c) (uc : c ≤ 9223372036854775807) (ld : -9223372036854775807 ≤ d) (ud : d ≤ 9223372036854775807) (R : SubF h1 l1 h2 l2 hi lo) (x1 : ((l2 : Int) == 0) = false) (v1 : ((hi : Int) == 0) = true) (v2 : ((lo : Int) == 0) = false) (y1 : ¬ h1 < h2) (y2 : ((h1 : Int) == (h2 : Int)) = false) :
    Calls Tryd.prog 71 #[.int .i64 a, .int .i64 b, .int .i64 c, .int .i64 d] w fun e w' => e = .returned (.agg #[.int .u64 hi, .int .u64 lo, .bool true]) ∧ Below w.heap.size w w' := by
  obtain ⟨cy, r1, r2⟩ := R
  have HX := Lib.hid X; have HY := Lib.hid Y; clear X Y
  go_enter Tryd.func71, Tryd.ntmps71
  go_wp2_with fail
  refine (product_w _ HX.out (by omega) (by omega) (by omega) (by omega)).mono ?_
  rintro e w1 ⟨rfl, hb1⟩
  have HB1 : Hid (Below w.heap.size w w1 ∧ Blk w1 w.heap.size 111 #[.int .u64 0, .int .u64 0, .bool false]) := ⟨bthen (bel1 _ _) hb1 (Nat.le_refl _), (Blk.new _ _ _).below hb1⟩
  have z1 := sz1 hb1
  clear hb1
  go_wp2_with fail
  refine (product_w _ HY.out (by omega) (by omega) (by omega) (by omega)).mono ?_
  rintro e w2 ⟨rfl, hb2⟩
  have HB2 : Hid (Below w.heap.size w w2 ∧ Blk w2 w.heap.size 111 #[.int .u64 0, .int .u64 0, .bool false]) := ⟨bthen HB1.out.1 hb2 (Nat.le_refl _), HB1.out.2.below hb2⟩
  have z2 : w.heap.size < w2.heap.size := by have := hb2.size; omega
  obtain ⟨d0, d1, d2⟩ := HB2.out.2.c3
  have df := HB2.out.2.frozen
  clear hb2
  have n1 : ¬ w.heap.size = w2.heap.size := by omega
  have n2 : ¬ w.heap.size = w2.heap.size + 1 := by omega
  have n3 : ¬ w2.heap.size = w.heap.size := by omega
  have n4 : ¬ w2.heap.size + 1 = w.heap.size := by omega
  go_wp2_with fail
  exact bodyPost_ret (v := .agg #[.int .u64 hi, .int .u64 lo, .bool true]) (by simp [results, Tryd.results71, go_sem, d0, d1, d2, df, z2, n1, n2, n3, n4]) rfl ⟨rfl, ((bset3 HB2.out.1 (Nat.le_refl _) _ _ _).alloc (by simp [World.setCell]; omega) _).alloc (by simp [World.setCell]; omega) _⟩
set_option maxHeartbeats 1000000 in
theorem sum_tf_ge1_l_hi1 (a b c d : Int) (w : World) {h1 l1 h2 l2 hi lo : Nat} (X : W2 (a * b) h1 l1 true) (Y : W2 (c * d) h2 l2 false) (la : -9223372036854775807 ≤ a) (ua : a ≤ 9223372036854775807) (lb : -9223372036854775807 ≤ b) (ub : b ≤ 9223372036854775807) (lc : -9223372036854775807 ≤ c) (uc : c ≤ 9223372036854775807) (ld : -9223372036854775807 ≤ d) (ud : d ≤ 9223372036854775807) (R : SubF h1 l1 h2 l2 hi lo) (x1 : ((l2 : Int) == 0) = false) (v1 : ((hi : Int) == 0) = false) (y1 : ¬ h1 < h2) (y2 : ((h1 : Int) == (h2 : Int)) = false) :
    Calls Tryd.prog 71 #[.int .i64 a, .int .i64 b, .int .i64 c, .int .i64 d] w fun e w' => e = .returned (.agg #[.int .u64 hi, .int .u64 lo, .bool true]) ∧ Below w.heap.size w w' := by
  obtain ⟨cy, r1, r2⟩ := R
  have HX := Lib.hid X; have HY := Lib.hid Y; clear X Y
  go_enter Tryd.func71, Tryd.ntmps71
  go_wp2_with fail
  refine (product_w _ HX.out (by omega) (by omega) (by omega) (by omega)).mono ?_
  rintro e w1 ⟨rfl, hb1⟩
  have HB1 : Hid (Below w.heap.size w w1 ∧ Blk w1 w.heap.size 111 #[.int .u64 0, .int .u64 0, .bool false]) := ⟨bthen (bel1 _ _) hb1 (Nat.le_refl _), (Blk.new _ _ _).below hb1⟩
  have z1 := sz1 hb1
  clear hb1
  go_wp2_with fail
  refine (product_w _ HY.out (by omega) (by omega) (by omega) (by omega)).mono ?_
  rintro e w2 ⟨rfl, hb2⟩
  have HB2 : Hid (Below w.heap.size w w2 ∧ Blk w2 w.heap.size 111 #[.int .u64 0, .int .u64 0, .bool false]) := ⟨bthen HB1.out.1 hb2 (Nat.le_refl _), HB1.out.2.below hb2⟩
  have z2 : w.heap.size < w2.heap.size := by have := hb2.size; omega
  obtain ⟨d0, d1, d2⟩ := HB2.out.2.c3
  have df := HB2.out.2.frozen
  clear hb2
  have n1 : ¬ w.heap.size = w2.heap.size := by omega
  have n2 : ¬ w.heap.size = w2.heap.size + 1 := by omega
  have n3 : ¬ w2.heap.size = w.heap.size := by omega
  have n4 : ¬ w2.heap.size + 1 = w.heap.size := by omega
  go_wp2_with fail
  exact bodyPost_ret (v := .agg #[.int .u64 hi, .int .u64 lo, .bool true]) (by simp [results, Tryd.results71, go_sem, d0, d1, d2, df, z2, n1, n2, n3, n4]) rfl ⟨rfl, ((bset3 HB2.out.1 (Nat.le_refl _) _ _ _).alloc (by simp [World.setCell]; omega) _).alloc (by simp [World.setCell]; omega) _⟩
set_option maxHeartbeats 1000000 in
theorem sum_tf_ge2_h_hi0 (a b c d : Int) (w : World) {h1 l1 h2 l2 hi lo : Nat} (X : W2 (a * b) h1 l1 true) (Y : W2 (c * d) h2 l2 false) (la : -9223372036854775807 ≤ a) (ua : a ≤ 9223372036854775807) (lb : -9223372036854775807 ≤ b) (ub : b ≤ 9223372036854775807) (lc : -9223372036854775807 ≤ c) (uc : c ≤ 9223372036854775807) (ld : -9223372036854775807 ≤ d) (ud : d ≤ 9223372036854775807) (R : SubF h1 l1 h2 l2 hi lo) (x1 : ((h2 : Int) == 0) = false) (v1 : ((hi : Int) == 0) = true) (v2 : ((lo : Int) == 0) = false) (y1 : ¬ h1 < h2) (y2 : ((h1 : Int) == (h2 : Int)) = true) (y3 : ¬ l1 < l2) :
    Calls Tryd.prog 71 #[.int .i64 a, .int .i64 b, .int .i64 c, .int .i64 d] w fun e w' => e = .returned (.agg #[.int .u64 hi, .int .u64 lo, .bool true]) ∧ Below w.heap.size w w' := by
  obtain ⟨cy, r1, r2⟩ := R
  have HX := Lib.hid X; have HY := Lib.hid Y; clear X Y
  go_enter Tryd.func71, Tryd.ntmps71
  go_wp2_with fail
  refine (product_w _ HX.out (by omega) (by omega) (by omega) (by omega)).mono ?_
  rintro e w1 ⟨rfl, hb1⟩
  have HB1 : Hid (Below w.heap.size w w1 ∧ Blk w1 w.heap.size 111 #[.int .u64 0, .int .u64 0, .bool false]) := ⟨bthen (bel1 _ _) hb1 (Nat.le_refl _), (Blk.new _ _ _).below hb1⟩
  have z1 := sz1 hb1
  clear hb1
  go_wp2_with fail
  refine (product_w _ HY.out (by omega) (by omega) (by omega) (by omega)).mono ?_
  rintro e w2 ⟨rfl, hb2⟩
  have HB2 : Hid (Below w.heap.size w w2 ∧ Blk w2 w.heap.size 111 #[.int .u64 0, .int .u64 0, .bool false]) := ⟨bthen HB1.out.1 hb2 (Nat.le_refl _), HB1.out.2.below hb2⟩
  have z2 : w.heap.size < w2.heap.size := by have := hb2.size; omega
  obtain ⟨d0, d1, d2⟩ := HB2.out.2.c3
  have df := HB2.out.2.frozen
  clear hb2
  have n1 : ¬ w.heap.size = w2.heap.size := by omega
  have n2 : ¬ w.heap.size = w2.heap.size + 1 := by omega
  have n3 : ¬ w2.heap.size = w.heap.size := by omega
  have n4 : ¬ w2.heap.size + 1 = w.heap.size := by omega
  go_wp2_with fail
  exact bodyPost_ret (v := .agg #[.int .u64 hi, .int .u64 lo, .bool true]) (by simp [results, Tryd.results71, go_sem, d0, d1, d2, df, z2, n1, n2, n3, n4]) rfl ⟨rfl, ((bset3 HB2.out.1 (Nat.le_refl _) _ _ _).alloc (by simp [World.setCell]; omega) _).alloc (by simp [World.setCell]; omega) _⟩
set_option maxHeartbeats 1000000 in
theorem sum_tf_ge2_h_hi1 (a b c d : Int) (w : World) {h1 l1 h2 l2 hi lo : Nat} (X : W2 (a * b) h1 l1 true) (Y : W2 (c * d) h2 l2 false) (la : -9223372036854775807 ≤ a) (ua : a ≤ 9223372036854775807) (lb : -9223372036854775807 ≤ b) (ub : b ≤ 9223372036854775807) (lc : -9223372036854775807 ≤ c) (uc : c ≤ 9223372036854775807) (ld : -9223372036854775807 ≤ d) (ud : d ≤ 9223372036854775807) (R : SubF h1 l1 h2 l2 hi lo) (x1 : ((h2 : Int) == 0) = false) (v1 : ((hi : Int) == 0) = false) (y1 : ¬ h1 < h2) (y2 : ((h1 : Int) == (h2 : Int)) = true) (y3 : ¬ l1 < l2) :
    Calls Tryd.prog 71 #[.int .i64 a, .int .i64 b, .int .i64 c, .int .i64 d] w fun e w' => e = .returned (.agg #[.int .u64 hi, .int .u64 lo, .bool true]) ∧ Below w.heap.size w w' := by
  obtain ⟨cy, r1, r2⟩ := R
  have HX := Lib.hid X; have HY := Lib.hid Y; clear X Y
  go_enter Tryd.func71, Tryd.ntmps71
  go_wp2_with fail
  refine (product_w _ HX.out (by omega) (by omega) (by omega) (by omega)).mono ?_
  rintro e w1 ⟨rfl, hb1⟩
  have HB1 : Hid (Below w.heap.size w w1 ∧ Blk w1 w.heap.size 111 #[.int .u64 0, .int .u64 0, .bool false]) := ⟨bthen (bel1 _ _) hb1 (Nat.le_refl _), (Blk.new _ _ _).below hb1⟩
  have z1 := sz1 hb1
  clear hb1
  go_wp2_with fail
  refine (product_w _ HY.out (by omega) (by omega) (by omega) (by omega)).mono ?_
  rintro e w2 ⟨rfl, hb2⟩
  have HB2 : Hid (Below w.heap.size w w2 ∧ Blk w2 w.heap.size 111 #[.int .u64 0, .int .u64 0, .bool false]) := ⟨bthen HB1.out.1 hb2 (Nat.le_refl _), HB1.out.2.below hb2⟩
  have z2 : w.heap.size < w2.heap.size := by have := hb2.size; omega
  obtain ⟨d0, d1, d2⟩ := HB2.out.2.c3
  have df := HB2.out.2.frozen
  clear hb2
  have n1 : ¬ w.heap.size = w2.heap.size := by omega
  have n2 : ¬ w.heap.size = w2.heap.size + 1 := by omega
  have n3 : ¬ w2.heap.size = w.heap.size := by omega
  have n4 : ¬ w2.heap.size + 1 = w.heap.size := by omega
  go_wp2_with fail
  exact bodyPost_ret (v := .agg #[.int .u64 hi, .int .u64 lo, .bool true]) (by simp [results, Tryd.results71, go_sem, d0, d1, d2, df, z2, n1, n2, n3, n4]) rfl ⟨rfl, ((bset3 HB2.out.1 (Nat.le_refl _) _ _ _).alloc (by simp [World.setCell]; omega) _).alloc (by simp [World.setCell]; omega) _⟩
set_option maxHeartbeats 1000000 in
theorem sum_tf_ge2_h_zero (a b c d : Int) (w : World) {h1 l1 h2 l2 hi lo : Nat} (X : W2 (a * b) h1 l1 true) (Y : W2 (c * d) h2 l2 false) (la : -9223372036854775807 ≤ a) (ua : a ≤ 9223372036854775807) (lb : -9223372036854775807 ≤ b) (ub : b ≤ 9223372036854775807) (lc : -9223372036854775807 ≤ c) (uc : c ≤ 9223372036854775807) (ld : -9223372036854775807 ≤ d) (ud : d ≤ 9223372036854775807) (R : SubF h1 l1 h2 l2 hi lo) (x1 : ((h2 : Int) == 0) = false) (v1 : ((hi : Int) == 0) = true) (v2 : ((lo : Int) == 0) = true) (y1 : ¬ h1 < h2) (y2 : ((h1 : Int) == (h2 : Int)) = true) (y3 : ¬ l1 < l2) :
    Calls Tryd.prog 71 #[.int .i64 a, .int .i64 b, .int .i64 c, .int .i64 d] w fun e w' => e = .returned (.agg #[.int .u64 0, .int .u64 0, .bool false]) ∧ Below w.heap.size w w' := by
  obtain ⟨cy, r1, r2⟩ := R
  have HX := Lib.hid X; have HY := Lib.hid Y; clear X Y
  go_enter Tryd.func71, Tryd.ntmps71
  go_wp2_with fail
  refine (product_w _ HX.out (by omega) (by omega) (by omega) (by omega)).mono ?_
  rintro e w1 ⟨rfl, hb1⟩
  have HB1 : Hid (Below w.heap.size w w1 ∧ Blk w1 w.heap.size 111 #[.int .u64 0, .int .u64 0, .bool false]) := ⟨bthen (bel1 _ _) hb1 (Nat.le_refl _), (Blk.new _ _ _).below hb1⟩
  have z1 := sz1 hb1
  clear hb1
  go_wp2_with fail
  refine (product_w _ HY.out (by omega) (by omega) (by omega) (by omega)).mono ?_
  rintro e w2 ⟨rfl, hb2⟩
  have HB2 : Hid (Below w.heap.size w w2 ∧ Blk w2 w.heap.size 111 #[.int .u64 0, .int .u64 0, .bool false]) := ⟨bthen HB1.out.1 hb2 (Nat.le_refl _), HB1.out.2.below hb2⟩
  have z2 : w.heap.size < w2.heap.size := by have := hb2.size; omega
  obtain ⟨d0, d1, d2⟩ := HB2.out.2.c3
  have df := HB2.out.2.frozen
  clear hb2
  have n1 : ¬ w.heap.size = w2.heap.size := by omega
  have n2 : ¬ w.heap.size = w2.heap.size + 1 := by omega
  have n3 : ¬ w2.heap.size = w.heap.size := by omega
  have n4 : ¬ w2.heap.size + 1 = w.heap.size := by omega
  go_wp2_with fail
  exact bodyPost_ret (v := .agg #[.int .u64 0, .int .u64 0, .bool false]) (by simp [results, Tryd.results71, go_sem, d0, d1, d2, df, z2, n1, n2, n3, n4]) rfl ⟨rfl, ((bset3 HB2.out.1 (Nat.le_refl _) _ _ _).alloc (by simp [World.setCell]; omega) _).alloc (by simp [World.setCell]; omega) _⟩
set_option maxHeartbeats 1000000 in
theorem sum_tf_ge2_l_hi0 (a b c d : Int) (w : World) {h1 l1 h2 l2 hi lo : Nat} (X : W2 (a * b) h1 l1 true) (Y : W2 (c * d) h2 l2 false) (la : -9223372036854775807 ≤ a) (ua : a ≤ 9223372036854775807) (lb : -9223372036854775807 ≤ b) (ub : b ≤ 9223372036854775807) (lc : -9223372036854775807 ≤ c) (uc : c ≤ 9223372036854775807) (ld : -9223372036854775807 ≤ d) (ud : d ≤ 9223372036854775807) (R : SubF h1 l1 h2 l2 hi lo) (x1 : ((l2 : Int) == 0) = false) (v1 : ((hi : Int) == 0) = true) (v2 : ((lo : Int) == 0) = false) (y1 : ¬ h1 < h2) (y2 : ((h1 : Int) == (h2 : Int)) = true) (y3 : ¬ l1 < l2) :
    Calls Tryd.prog 71 #[.int .i64 a, .int .i64 b, .int .i64 c, .int .i64 d] w fun e w' => e = .returned (.agg #[.int .u64 hi, .int .u64 lo, .bool true]) ∧ Below w.heap.size w w' := by
  obtain ⟨cy, r1, r2⟩ := R
  have HX := Lib.hid X; have HY := Lib.hid Y; clear X Y
  go_enter Tryd.func71, Tryd.ntmps71
  go_wp2_with fail
  refine (product_w _ HX.out (by omega) (by omega) (by omega) (by omega)).mono ?_
  rintro e w1 ⟨rfl, hb1⟩
  have HB1 : Hid (Below w.heap.size w w1 ∧ Blk w1 w.heap.size 111 #[.int .u64 0, .int .u64 0, .bool false]) := ⟨bthen (bel1 _ _) hb1 (Nat.le_refl _), (Blk.new _ _ _).below hb1⟩
  have z1 := sz1 hb1
  clear hb1
  go_wp2_with fail
  refine (product_w _ HY.out (by omega) (by omega) (by omega) (by omega)).mono ?_
  rintro e w2 ⟨rfl, hb2⟩
  have HB2 : Hid (Below w.heap.size w w2 ∧ Blk w2 w.heap.size 111 #[.int .u64 0, .int .u64 0, .bool false]) := ⟨bthen HB1.out.1 hb2 (Nat.le_refl _), HB1.out.2.below hb2⟩
  have z2 : w.heap.size < w2.heap.size := by have := hb2.size; omega
  obtain ⟨d0, d1, d2⟩ := HB2.out.2.c3
  have df := HB2.out.2.frozen
  clear hb2
  have n1 : ¬ w.heap.size = w2.heap.size := by omega
  have n2 : ¬ w.heap.size = w2.heap.size + 1 := by omega
  have n3 : ¬ w2.heap.size = w.heap.size := by omega
  have n4 : ¬ w2.heap.size + 1 = w.heap.size := by omega
  go_wp2_with fail
  exact bodyPost_ret (v := .agg #[.int .u64 hi, .int .u64 lo, .bool true]) (by simp [results, Tryd.results71, go_sem, d0, d1, d2, df, z2, n1, n2, n3, n4]) rfl ⟨rfl, ((bset3 HB2.out.1 (Nat.le_refl _) _ _ _).alloc (by simp [World.setCell]; omega) _).alloc (by simp [World.setCell]; omega) _⟩
set_option maxHeartbeats 1000000 in
theorem sum_tf_ge2_l_hi1 (a b c d : Int) (w : World) {h1 l1 h2 l2 hi lo : Nat} (X : W2 (a * b) h1 l1 true) (Y : W2 (c * d) h2 l2 false) (la : -9223372036854775807 ≤ a) (ua : a ≤ 9223372036854775807) (lb : -9223372036854775807 ≤ b) (ub : b ≤ 9223372036854775807) (lc : -9223372036854775807 ≤ c) (uc : c ≤ 9223372036854775807) (ld : -9223372036854775807 ≤ d) (ud : d ≤ 9223372036854775807) (R : SubF h1 l1 h2 l2 hi lo) (x1 : ((l2 : Int) == 0) = false) (v1 : ((hi : Int) == 0) = false) (y1 : ¬ h1 < h2) (y2 : ((h1 : Int) == (h2 : Int)) = true) (y3 : ¬ l1 < l2) :
    Calls Tryd.prog 71 #[.int .i64 a, .int .i64 b, .int .i64 c, .int .i64 d] w fun e w' => e = .returned (.agg #[.int .u64 hi, .int .u64 lo, .bool true]) ∧ Below w.heap.size w w' := by
  obtain ⟨cy, r1, r2⟩ := R
  have HX := Lib.hid X; have HY := Lib.hid Y; clear X Y
  go_enter Tryd.func71, Tryd.ntmps71
  go_wp2_with fail
  refine (product_w _ HX.out (by omega) (by omega) (by omega) (by omega)).mono ?_
  rintro e w1 ⟨rfl, hb1⟩
  have HB1 : Hid (Below w.heap.size w w1 ∧ Blk w1 w.heap.size 111 #[.int .u64 0, .int .u64 0, .bool false]) := ⟨bthen (bel1 _ _) hb1 (Nat.le_refl _), (Blk.new _ _ _).below hb1⟩
  have z1 := sz1 hb1
  clear hb1
  go_wp2_with fail
  refine (product_w _ HY.out (by omega) (by omega) (by omega) (by omega)).mono ?_
  rintro e w2 ⟨rfl, hb2⟩
  have HB2 : Hid (Below w.heap.size w w2 ∧ Blk w2 w.heap.size 111 #[.int .u64 0, .int .u64 0, .bool false]) := ⟨bthen HB1.out.1 hb2 (Nat.le_refl _), HB1.out.2.below hb2⟩
  have z2 : w.heap.size < w2.heap.size := by have := hb2.size; omega
  obtain ⟨d0, d1, d2⟩ := HB2.out.2.c3
  have df := HB2.out.2.frozen
  clear hb2
  have n1 : ¬ w.heap.size = w2.heap.size := by omega
  have n2 : ¬ w.heap.size = w2.heap.size + 1 := by omega
  have n3 : ¬ w2.heap.size = w.heap.size := by omega
  have n4 : ¬ w2.heap.size + 1 = w.heap.size := by omega
  go_wp2_with fail
  exact bodyPost_ret (v := .agg #[.int .u64 hi, .int .u64 lo, .bool true]) (by simp [results, Tryd.results71, go_sem, d0, d1, d2, df, z2, n1, n2, n3, n4]) rfl ⟨rfl, ((bset3 HB2.out.1 (Nat.le_refl _) _ _ _).alloc (by simp [World.setCell]; omega) _).alloc (by simp [World.setCell]; omega) _⟩
set_option maxHeartbeats 1000000 in
theorem sum_tf_ge2_l_zero (a b c d : Int) (w : World) {h1 l1 h2 l2 hi lo : Nat} (X : W2 (a * b) h1 l1 true) (Y : W2 (c * d) h2 l2 false) (la : -9223372036854775807 ≤ a) (ua : a ≤ 9223372036854775807) (lb : -9223372036854775807 ≤ b) (ub : b ≤ 9223372036854775807) (lc : -9223372036854775807 ≤ c) (uc : c ≤ 9223372036854775807) (ld : -9223372036854775807 ≤ d) (ud : d ≤ 9223372036854775807) (R : SubF h1 l1 h2 l2 hi lo) (x1 : ((l2 : Int) == 0) = false) (v1 : ((hi : Int) == 0) = true) (v2 : ((lo : Int) == 0) = true) (y1 : ¬ h1 < h2) (y2 : ((h1 : Int) == (h2 : Int)) = true) (y3 : ¬ l1 < l2) :
    Calls Tryd.prog 71 #[.int .i64 a, .int .i64 b, .int .i64 c, .int .i64 d] w fun e w' => e = .returned (.agg #[.int .u64 0, .int .u64 0, .bool false]) ∧ Below w.heap.size w w' := by
  obtain ⟨cy, r1, r2⟩ := R
  have HX := Lib.hid X; have HY := Lib.hid Y; clear X Y
  go_enter Tryd.func71, Tryd.ntmps71
  go_wp2_with fail
  refine (product_w _ HX.out (by omega) (by omega) (by omega) (by omega)).mono ?_
  rintro e w1 ⟨rfl, hb1⟩
  have HB1 : Hid (Below w.heap.size w w1 ∧ Blk w1 w.heap.size 111 #[.int .u64 0, .int .u64 0, .bool false]) := ⟨bthen (bel1 _ _) hb1 (Nat.le_refl _), (Blk.new _ _ _).below hb1⟩
  have z1 := sz1 hb1
  clear hb1
  go_wp2_with fail
  refine (product_w _ HY.out (by omega) (by omega) (by omega) (by omega)).mono ?_
  rintro e w2 ⟨rfl, hb2⟩
  have HB2 : Hid (Below w.heap.size w w2 ∧ Blk w2 w.heap.size 111 #[.int .u64 0, .int .u64 0, .bool false]) := ⟨bthen HB1.out.1 hb2 (Nat.le_refl _), HB1.out.2.below hb2⟩
  have z2 : w.heap.size < w2.heap.size := by have := hb2.size; omega
  obtain ⟨d0, d1, d2⟩ := HB2.out.2.c3
  have df := HB2.out.2.frozen
  clear hb2
  have n1 : ¬ w.heap.size = w2.heap.size := by omega
  have n2 : ¬ w.heap.size = w2.heap.size + 1 := by omega
  have n3 : ¬ w2.heap.size = w.heap.size := by omega
  have n4 : ¬ w2.heap.size + 1 = w.heap.size := by omega
  go_wp2_with fail
  exact bodyPost_ret (v := .agg #[.int .u64 0, .int .u64 0, .bool false]) (by simp [results, Tryd.results71, go_sem, d0, d1, d2, df, z2, n1, n2, n3, n4]) rfl ⟨rfl, ((bset3 HB2.out.1 (Nat.le_refl _) _ _ _).alloc (by simp [World.setCell]; omega) _).alloc (by simp [World.setCell]; omega) _⟩
end
end Go.Proofs.YthoibeajhdhdhaaDoor
