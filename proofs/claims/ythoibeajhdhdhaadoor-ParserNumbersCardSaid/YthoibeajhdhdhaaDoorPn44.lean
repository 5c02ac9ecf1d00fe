/- Contracts, packed: Fe. -/
import Derived.Test.YthoibeajhdhdhaaDoorPn43
import Derived.Shelf.Spec.BitsCarry
set_option linter.unusedVariables false
set_option linter.unusedSimpArgs false
namespace Go.Proofs.YthoibeajhdhdhaaDoor
section
open Go.RowKit FracM

theorem add64_run (x y c : Nat) (hc : c ≤ 1) (w : World) : (callFunc 93 #[.int .u64 x, .int .u64 y, .int .u64 c]).run Tryd.prog w =
      .ok (.value (.tuple #[.int .u64 (((x + y + c) % 18446744073709551616 : Nat) : Int), .int .u64 (((x + y + c) / 18446744073709551616 : Nat) : Int)])) w := by
  rw [run_callFunc_extern Tryd.func93 (by kernel_rfl) (by kernel_rfl) (by kernel_rfl) (e := add64Entry) (by kernel_rfl), run_add64 x y c (by omega) (by omega) (by omega) (by omega)]
  simp only [Result.andThen]
  congr 5 <;> omega
theorem sub64_run (x y b : Nat) (hb : b ≤ 1) (w : World) : (callFunc 94 #[.int .u64 x, .int .u64 y, .int .u64 b]).run Tryd.prog w =
      .ok (.value (.tuple #[.int .u64 (((x + 18446744073709551616 - y - b) % 18446744073709551616 : Nat) : Int), .int .u64 ((if x < y + b then 1 else 0 : Nat) : Int)])) w := by
  rw [run_callFunc_extern Tryd.func94 (by kernel_rfl) (by kernel_rfl) (by kernel_rfl) (e := sub64Entry) (by kernel_rfl), run_sub64 x y b hb]
  rfl
/-- the two words of x, and its sign -/
def W2 (x : Int) (h l : Nat) (n : Bool) : Prop := h * 18446744073709551616 + l = x.natAbs ∧ l < 18446744073709551616 ∧ n = decide (x < 0)
theorem W2.mk' (x : Int) : W2 x (hiN x) (loN x) (decide (x < 0)) := ⟨wide_eq x, lo_lt x, rfl⟩
theorem W2.val {x : Int} {h l : Nat} {n : Bool} (H : W2 x h l n) : wideV x = .agg #[.int .u64 h, .int .u64 l, .bool n] := by
  obtain ⟨h1, h2, rfl⟩ := H
  have e1 : hiN x = h := by unfold hiN; omega
  have e2 : loN x = l := by unfold loN; omega
  unfold wideV; rw [e1, e2]
theorem product_w {a b : Int} {h l : Nat} {n : Bool} (w : World) (H : W2 (a * b) h l n) (l1 : -9223372036854775807 ≤ a) (u1 : a ≤ 9223372036854775807) (l2 : -9223372036854775807 ≤ b) (u2 : b ≤ 9223372036854775807) :
    Calls Tryd.prog 76 #[.int .i64 a, .int .i64 b] w fun e w' => e = .returned (.agg #[.int .u64 h, .int .u64 l, .bool n]) ∧ Below w.heap.size w w' := by
  have := product_any a b w l1 u1 l2 u2
  unfold RetW at this
  rw [H.val] at this
  exact this
/-- the first words' sum and its carry; the second words' -/
def AddF (h1 l1 h2 l2 : Nat) (hi lo : Nat) : Prop := ∃ c : Nat, (∀ W, (callFunc 93 #[.int .u64 l1, .int .u64 l2, .int .u64 0]).run Tryd.prog W = .ok (.value (.tuple #[.int .u64 lo, .int .u64 c])) W) ∧
  (∀ W, (callFunc 93 #[.int .u64 h1, .int .u64 h2, .int .u64 c]).run Tryd.prog W = .ok (.value (.tuple #[.int .u64 hi, .int .u64 0])) W)
def SubF (h1 l1 h2 l2 : Nat) (hi lo : Nat) : Prop := ∃ c : Nat, (∀ W, (callFunc 94 #[.int .u64 l1, .int .u64 l2, .int .u64 0]).run Tryd.prog W = .ok (.value (.tuple #[.int .u64 lo, .int .u64 c])) W) ∧
  (∀ W, (callFunc 94 #[.int .u64 h1, .int .u64 h2, .int .u64 c]).run Tryd.prog W = .ok (.value (.tuple #[.int .u64 hi, .int .u64 0])) W)
theorem addF_of {h1 l1 h2 l2 hi lo : Nat} (b1 : h1 < 4611686018427387904) (b2 : h2 < 4611686018427387904) (c1 : l1 < 18446744073709551616) (c2 : l2 < 18446744073709551616) (cl : lo < 18446744073709551616)
    (h : hi * 18446744073709551616 + lo = (h1 * 18446744073709551616 + l1) + (h2 * 18446744073709551616 + l2)) : AddF h1 l1 h2 l2 hi lo := by
  refine ⟨(l1 + l2 + 0) / 18446744073709551616, fun W => ?_, fun W => ?_⟩
  · have := add64_run l1 l2 0 (by omega) W
    rw [show ((l1 + l2 + 0) % 18446744073709551616) = lo by omega] at this
    exact this
  · have := add64_run h1 h2 ((l1 + l2 + 0) / 18446744073709551616) (by omega) W
    rw [show ((h1 + h2 + (l1 + l2 + 0) / 18446744073709551616) % 18446744073709551616) = hi by omega, show ((h1 + h2 + (l1 + l2 + 0) / 18446744073709551616) / 18446744073709551616) = 0 by omega] at this
    exact this
theorem subF_of {h1 l1 h2 l2 hi lo : Nat} (b1 : h1 < 4611686018427387904) (b2 : h2 < 4611686018427387904) (c1 : l1 < 18446744073709551616) (c2 : l2 < 18446744073709551616) (cl : lo < 18446744073709551616)
    (h : hi * 18446744073709551616 + lo + (h2 * 18446744073709551616 + l2) = (h1 * 18446744073709551616 + l1)) : SubF h1 l1 h2 l2 hi lo := by
  refine ⟨if l1 < l2 + 0 then 1 else 0, fun W => ?_, fun W => ?_⟩
  · have := sub64_run l1 l2 0 (by omega) W
    rw [show ((l1 + 18446744073709551616 - l2 - 0) % 18446744073709551616) = lo by omega] at this
    exact this
  · have := sub64_run h1 h2 (if l1 < l2 + 0 then 1 else 0) (by split <;> omega) W
    by_cases hc : l1 < l2 + 0
    · rw [if_pos hc] at this ⊢
      rw [show ((h1 + 18446744073709551616 - h2 - 1) % 18446744073709551616) = hi by omega, if_neg (by omega)] at this
      exact this
    · rw [if_neg hc] at this ⊢
      rw [show ((h1 + 18446744073709551616 - h2 - 0) % 18446744073709551616) = hi by omega, if_neg (by omega)] at this
      exact this
set_option maxHeartbeats 1000000 in
theorem sum_ff (a b c d : Int) (w : World) {h1 l1 h2 l2 hi lo : Nat} (X : W2 (a * b) h1 l1 false) (Y : W2 (c * d) h2 l2 false) (la : -9223372036854775807 ≤ a) (ua : a ≤ 9223372036854775807) (lb : -9223372036854775807 ≤ b) (ub : b ≤ 9223372036854775807) (lc : -9223372036854775807 ≤ c) (uc : c ≤ 9223372036854775807) (ld : -9223372036854775807 ≤ d) (ud : d ≤ 9223372036854775807) (R : AddF h1 l1 h2 l2 hi lo)  :
    Calls Tryd.prog 71 #[.int .i64 a, .int .i64 b, .int .i64 c, .int .i64 d] w fun e w' => e = .returned (.agg #[.int .u64 hi, .int .u64 lo, .bool false]) ∧ Below w.heap.size w w' := by
  obtain ⟨cy, r1, r2⟩ := R
  have HX := Lib.hid X; have HY := Lib.hid Y; clear X Y
  go_enter Tryd.func71, Tryd.ntmps71
  go_wp2_with fail
  refine (product_w _ HX.out (by omega) (by omega) (by omega) (by omega)).mono ?_
  rintro e w1 ⟨rfl, hb1⟩
  have HB1 : Hid (Below w.heap.size w w1 ∧ Blk w1 w.heap.size 111 #[.int .u64 0, .int .u64 0, .bool false]) := ⟨bthen (bel1 _ _) hb1 (Nat.le_refl _), (Blk.new _ _ _).below hb1⟩
  have z1 := sz1 hb1
  clear hb1
  go_wp2_with fail
  refine (product_w _ HY.out (by omega) (by omega) (by omega) (by omega)).mono ?_
  rintro e w2 ⟨rfl, hb2⟩
  have HB2 : Hid (Below w.heap.size w w2 ∧ Blk w2 w.heap.size 111 #[.int .u64 0, .int .u64 0, .bool false]) := ⟨bthen HB1.out.1 hb2 (Nat.le_refl _), HB1.out.2.below hb2⟩
  have z2 : w.heap.size < w2.heap.size := by have := hb2.size; omega
  obtain ⟨d0, d1, d2⟩ := HB2.out.2.c3
  have df := HB2.out.2.frozen
  clear hb2
  have n1 : ¬ w.heap.size = w2.heap.size := by omega
  have n2 : ¬ w.heap.size = w2.heap.size + 1 := by omega
  have n3 : ¬ w2.heap.size = w.heap.size := by omega
  have n4 : ¬ w2.heap.size + 1 = w.heap.size := by omega
  go_wp2_with fail
  exact bodyPost_ret (v := .agg #[.int .u64 hi, .int .u64 lo, .bool false]) (by simp [results, Tryd.results71, go_sem, d0, d1, d2, df, z2, n1, n2, n3, n4]) rfl ⟨rfl, ((bset3 HB2.out.1 (Nat.le_refl _) _ _ _).alloc (by simp [World.setCell]; omega) _).alloc (by simp [World.setCell]; omega) _⟩
set_option maxHeartbeats 1000000 in
theorem sum_tt (a b c d : Int) (w : World) {h1 l1 h2 l2 hi lo : Nat} (X : W2 (a * b) h1 l1 true) (Y : W2 (c * d) h2 l2 true) (la : -9223372036854775807 ≤ a) (ua : a ≤ 9223372036854775807) (lb : -9223372036854775807 ≤ b) (ub : b ≤ 9223372036854775807) (lc : -9223372036854775807 ≤ c) (uc : c ≤ 9223372036854775807) (ld : -9223372036854775807 ≤ d) (ud : d ≤ 9223372036854775807) (R : AddF h1 l1 h2 l2 hi lo)  :
    Calls Tryd.prog 71 #[.int .i64 a, .int .i64 b, .int .i64 c, .int .i64 d] w fun e w' => e = .returned (.agg #[.int .u64 hi, .int .u64 lo, .bool true]) ∧ Below w.heap.size w w' := by
  obtain ⟨cy, r1, r2⟩ := R
  have HX := Lib.hid X; have HY := Lib.hid Y; clear X Y
  go_enter Tryd.func71, Tryd.ntmps71
  go_wp2_with fail
  refine (product_w _ HX.out (by omega) (by omega) (by omega) (by omega)).mono ?_
  rintro e w1 ⟨rfl, hb1⟩
  have HB1 : Hid (Below w.heap.size w w1 ∧ Blk w1 w.heap.size 111 #[.int .u64 0, .int .u64 0, .bool false]) := ⟨bthen (bel1 _ _) hb1 (Nat.le_refl _), (Blk.new _ _ _).below hb1⟩
  have z1 := sz1 hb1
  clear hb1
  go_wp2_with fail
  refine (product_w _ HY.out (by omega) (by omega) (by omega) (by omega)).mono ?_
  rintro e w2 ⟨rfl, hb2⟩
  have HB2 : Hid (Below w.heap.size w w2 ∧ Blk w2 w.heap.size 111 #[.int .u64 0, .int .u64 0, .bool false]) := ⟨bthen HB1.out.1 hb2 (Nat.le_refl _), HB1.out.2.below hb2⟩
  have z2 : w.heap.size < w2.heap.size := by have := hb2.size; omega
  obtain ⟨d0, d1, d2⟩ := HB2.out.2.c3
  have df := HB2.out.2.frozen
  clear hb2
  have n1 : ¬ w.heap.size = w2.heap.size := by omega
  have n2 : ¬ w.heap.size = w2.heap.size + 1 := by omega
  have n3 : ¬ w2.heap.size = w.heap.size := by omega
  have n4 : ¬ w2.heap.size + 1 = w.heap.size := by omega
  go_wp2_with fail
  exact bodyPost_ret (v := .agg #[.int .u64 hi, .int .u64 lo, .bool true]) (by simp [results, Tryd.results71, go_sem, d0, d1, d2, df, z2, n1, n2, n3, n4]) rfl ⟨rfl, ((bset3 HB2.out.1 (Nat.le_refl _) _ _ _).alloc (by simp [World.setCell]; omega) _).alloc (by simp [World.setCell]; omega) _⟩
set_option maxHeartbeats 1000000 in
theorem sum_0t (a b c d : Int) (w : World) {h1 l1 h2 l2 hi lo : Nat} (X : W2 (a * b) h1 l1 false) (Y : W2 (c * d) h2 l2 true) (la : -9223372036854775807 ≤ a) (ua : a ≤ 9223372036854775807) (lb : -9223372036854775807 ≤ b) (ub : b ≤ 9223372036854775807) (lc : -9223372036854775807 ≤ c) (uc : c ≤ 9223372036854775807) (ld : -9223372036854775807 ≤ d) (ud : d ≤ 9223372036854775807) (R : AddF h1 l1 h2 l2 hi lo) (x1 : ((h1 : Int) == 0) = true) (x2 : ((l1 : Int) == 0) = true) :
    Calls Tryd.prog 71 #[.int .i64 a, .int .i64 b, .int .i64 c, .int .i64 d] w fun e w' => e = .returned (.agg #[.int .u64 hi, .int .u64 lo, .bool true]) ∧ Below w.heap.size w w' := by
  obtain ⟨cy, r1, r2⟩ := R
  have HX := Lib.hid X; have HY := Lib.hid Y; clear X Y
  go_enter Tryd.func71, Tryd.ntmps71
  go_wp2_with fail
  refine (product_w _ HX.out (by omega) (by omega) (by omega) (by omega)).mono ?_
  rintro e w1 ⟨rfl, hb1⟩
  have HB1 : Hid (Below w.heap.size w w1 ∧ Blk w1 w.heap.size 111 #[.int .u64 0, .int .u64 0, .bool false]) := ⟨bthen (bel1 _ _) hb1 (Nat.le_refl _), (Blk.new _ _ _).below hb1⟩
  have z1 := sz1 hb1
  clear hb1
  go_wp2_with fail
  refine (product_w _ HY.out (by omega) (by omega) (by omega) (by omega)).mono ?_
  rintro e w2 ⟨rfl, hb2⟩
  have HB2 : Hid (Below w.heap.size w w2 ∧ Blk w2 w.heap.size 111 #[.int .u64 0, .int .u64 0, .bool false]) := ⟨bthen HB1.out.1 hb2 (Nat.le_refl _), HB1.out.2.below hb2⟩
  have z2 : w.heap.size < w2.heap.size := by have := hb2.size; omega
  obtain ⟨d0, d1, d2⟩ := HB2.out.2.c3
  have df := HB2.out.2.frozen
  clear hb2
  have n1 : ¬ w.heap.size = w2.heap.size := by omega
  have n2 : ¬ w.heap.size = w2.heap.size + 1 := by omega
  have n3 : ¬ w2.heap.size = w.heap.size := by omega
  have n4 : ¬ w2.heap.size + 1 = w.heap.size := by omega
  go_wp2_with fail
  exact bodyPost_ret (v := .agg #[.int .u64 hi, .int .u64 lo, .bool true]) (by simp [results, Tryd.results71, go_sem, d0, d1, d2, df, z2, n1, n2, n3, n4]) rfl ⟨rfl, ((bset3 HB2.out.1 (Nat.le_refl _) _ _ _).alloc (by simp [World.setCell]; omega) _).alloc (by simp [World.setCell]; omega) _⟩
set_option maxHeartbeats 1000000 in
theorem sum_t0 (a b c d : Int) (w : World) {h1 l1 h2 l2 hi lo : Nat} (X : W2 (a * b) h1 l1 true) (Y : W2 (c * d) h2 l2 false) (la : -9223372036854775807 ≤ a) (ua : a ≤ 9223372036854775807) (lb : -9223372036854775807 ≤ b) (ub : b ≤ 9223372036854775807) (lc : -9223372036854775807 ≤ c) (uc : c ≤ 9223372036854775807) (ld : -9223372036854775807 ≤ d) (ud : d ≤ 9223372036854775807) (R : AddF h1 l1 h2 l2 hi lo) (x1 : ((h2 : Int) == 0) = true) (x2 : ((l2 : Int) == 0) = true) :
    Calls Tryd.prog 71 #[.int .i64 a, .int .i64 b, .int .i64 c, .int .i64 d] w fun e w' => e = .returned (.agg #[.int .u64 hi, .int .u64 lo, .bool true]) ∧ Below w.heap.size w w' := by
  obtain ⟨cy, r1, r2⟩ := R
  have HX := Lib.hid X; have HY := Lib.hid Y; clear X Y
  go_enter Tryd.func71, Tryd.ntmps71
  go_wp2_with fail
  refine (product_w _ HX.out (by omega) (by omega) (by omega) (by omega)).mono ?_
  rintro e w1 ⟨rfl, hb1⟩
  have HB1 : Hid (Below w.heap.size w w1 ∧ Blk w1 w.heap.size 111 #[.int .u64 0, .int .u64 0, .bool false]) := ⟨bthen (bel1 _ _) hb1 (Nat.le_refl _), (Blk.new _ _ _).below hb1⟩
  have z1 := sz1 hb1
  clear hb1
  go_wp2_with fail
  refine (product_w _ HY.out (by omega) (by omega) (by omega) (by omega)).mono ?_
  rintro e w2 ⟨rfl, hb2⟩
  have HB2 : Hid (Below w.heap.size w w2 ∧ Blk w2 w.heap.size 111 #[.int .u64 0, .int .u64 0, .bool false]) := ⟨bthen HB1.out.1 hb2 (Nat.le_refl _), HB1.out.2.below hb2⟩
  have z2 : w.heap.size < w2.heap.size := by have := hb2.size; omega
  obtain ⟨d0, d1, d2⟩ := HB2.out.2.c3
  have df := HB2.out.2.frozen
  clear hb2
  have n1 : ¬ w.heap.size = w2.heap.size := by omega
  have n2 : ¬ w.heap.size = w2.heap.size + 1 := by omega
  have n3 : ¬ w2.heap.size = w.heap.size := by omega
  have n4 : ¬ w2.heap.size + 1 = w.heap.size := by omega
  go_wp2_with fail
  exact bodyPost_ret (v := .agg #[.int .u64 hi, .int .u64 lo, .bool true]) (by simp [results, Tryd.results71, go_sem, d0, d1, d2, df, z2, n1, n2, n3, n4]) rfl ⟨rfl, ((bset3 HB2.out.1 (Nat.le_refl _) _ _ _).alloc (by simp [World.setCell]; omega) _).alloc (by simp [World.setCell]; omega) _⟩
end
end Go.Proofs.YthoibeajhdhdhaaDoor
