/- lowest of the reference. -/
import Derived.Test.YtlplligfnbkofaaDoorNh
import Derived.Test.YtlplligfnbkofaaDoorGf
import Derived.Test.YtlplligfnbkofaaDoorNe
set_option linter.unusedVariables false
set_option linter.unusedSimpArgs false
namespace Go.Proofs.YtlplligfnbkofaaDoor
open Go.RowKit FracM DigM

/-- the memory of lowest -/
structure Lm (w W : World) (p q : Nat) : Prop where
  below : Below w.heap.size w W
  A : D8 W w.heap.size (dg p)
  B : D8 W (w.heap.size + 1) (dg q)
  R : Blk W (w.heap.size + 1 + 1) 23 #[.int .i64 0, .int .i64 0]
theorem Lm.next {w W W' : World} {p q : Nat} (h : Lm w W p q) (hb : Below W.heap.size W W') : Lm w W' p q :=
  ⟨bthen h.below hb (Nat.le_refl _), h.A.below hb, h.B.below hb, h.R.below hb⟩
/-- with a sign -/
def sg (ng : Bool) (p : Nat) : Int := if ng then -(p : Int) else p
theorem sg_abs (ng : Bool) (p : Nat) : (sg ng p).natAbs = p := by cases ng <;> simp [sg]
theorem sg_div (ng : Bool) (p g : Nat) : (sg ng p).sign * ((p / g : Nat) : Int) = sg ng (p / g) := by
  rcases Nat.eq_zero_or_pos p with rfl | h
  · cases ng <;> simp [sg]
  · cases ng
    · simp only [sg, Bool.false_eq_true, if_false]
      rw [Int.sign_eq_one_of_pos (by omega)]; omega
    · simp only [sg, if_true]
      rw [Int.sign_eq_neg_one_of_neg (by omega)]; omega
theorem low_sg (ng : Bool) (p q : Nat) : low (sg ng p) q = if p / Nat.gcd p q ≤ 4611686018427387904 ∧ q / Nat.gcd p q ≤ 4611686018427387904 then (sg ng (p / Nat.gcd p q), ((q / Nat.gcd p q : Nat) : Int), 0) else (0, 0, 5) := by
  unfold low; rw [sg_abs, sg_div]; rfl
theorem over_yes {a b n : Nat} (h : a / b = n) (hn : n < 18446744073709551616) : overN a b = (n, true) := by unfold overN; rw [if_pos (by omega), h]
theorem over_no {a b : Nat} (hn : 18446744073709551616 ≤ a / b) : overN a b = (0, false) := by unfold overN; rw [if_neg (by omega)]
theorem over_r {a b n : Nat} {f : Bool} (w : World) (h : overN a b = (n, f)) (ha : a < 4294967296 ^ 7) (hb : b < 4294967296 ^ 8) (h0 : 0 < b) : Calls Tryd.prog 75 #[nv a, nv b] w fun e w' => e = .returned (.tuple #[.int .u64 (n : Nat), .bool f]) ∧ Below w.heap.size w w' := by
  have := over_any a b w ha hb h0
  unfold RetO at this; rw [h] at this; exact this

set_option maxHeartbeats 4000000 in
set_option maxRecDepth 100000 in
theorem lowest_any (ng : Bool) (p q : Nat) (w : World) (hp : p < 4294967296 ^ 7) (hq : q < 4294967296 ^ 7) (h0 : 0 < q) : Calls Tryd.prog 52 #[.bool ng, nv p, nv q] w (RetF (low (sg ng p) q) w) := by
  have HP := Box.mk hp; have HQ := Box.mk hq; clear hp hq
  have HE := Box.mk (low_sg ng p q)
  have hg0 : 0 < Nat.gcd p q := Nat.gcd_pos_of_pos_right _ h0
  have HGL : Box (Nat.gcd p q < 4294967296 ^ 8) := ⟨by rw [Nat.gcd_comm]; exact gcd_lt h0 (seven8 HQ.out)⟩
  obtain ⟨g, hg⟩ : ∃ g, g = Nat.gcd p q := ⟨_, rfl⟩
  obtain ⟨N, hN⟩ : ∃ N, N = p / g := ⟨_, rfl⟩
  obtain ⟨D, hD⟩ : ∃ D, D = q / g := ⟨_, rfl⟩
  rw [← hg] at HE HGL hg0
  rw [← hN, ← hD] at HE
  have HG := Box.mk hg; clear hg
  obtain ⟨n, f, hnf⟩ : ∃ n f, overN p g = (n, f) := ⟨_, _, rfl⟩
  obtain ⟨d, f', hdf⟩ : ∃ d f', overN q g = (d, f') := ⟨_, _, rfl⟩
  have c1 : (f = true ∧ n = N ∧ N < 18446744073709551616) ∨ (f = false ∧ n = 0 ∧ 18446744073709551616 ≤ N) := by
    rcases Nat.lt_or_ge N 18446744073709551616 with h | h
    · rw [over_yes hN.symm h] at hnf; simp at hnf; exact .inl ⟨by simp [hnf], by omega, h⟩
    · rw [over_no (by omega)] at hnf; simp at hnf; exact .inr ⟨by simp [hnf], by omega, h⟩
  have c2 : (f' = true ∧ d = D ∧ D < 18446744073709551616) ∨ (f' = false ∧ d = 0 ∧ 18446744073709551616 ≤ D) := by
    rcases Nat.lt_or_ge D 18446744073709551616 with h | h
    · rw [over_yes hD.symm h] at hdf; simp at hdf; exact .inl ⟨by simp [hdf], by omega, h⟩
    · rw [over_no (by omega)] at hdf; simp at hdf; exact .inr ⟨by simp [hdf], by omega, h⟩
  have HNF := Box.mk hnf; have HDF := Box.mk hdf
  clear hnf hdf hN hD
  go_enter Tryd.func52, Tryd.ntmps52
  go_wp2_with fail
  refine (rgcd_any p q _ (seven8 HP.out) (seven8 HQ.out) h0).mono ?_
  rintro e w1 ⟨rfl, hb⟩
  rw [← HG.out]
  have s1 := hb.size; simp only [heap_size_alloc'] at s1
  have HM : Hid (Lm w (w1.alloc (.cells (d8 (dg g)) 67)) p q) := ⟨(bthen (bel3 _ _ _ _) hb (Nat.le_refl _)).alloc (by omega) _, (Blk.below (((Blk.new _ _ _).alloc _).alloc _) hb).alloc _, (Blk.below ((Blk.newAt _ _ (by simp)).alloc _) hb).alloc _, (Blk.below (Blk.newAt _ _ (by simp)) hb).alloc _⟩
  have HD : Hid (D8 (w1.alloc (.cells (d8 (dg g)) 67)) w1.heap.size (dg g)) := Blk.new _ _ _
  clear hb
  go_upto_region 2 with (fail)
  have s2 : w.heap.size + 1 + 1 < w1.heap.size := by omega
  generalize w1.alloc (.cells (d8 (dg g)) 67) = W1 at *
  generalize w1.heap.size = G at *
  clear s1
  obtain ⟨a0, a1, a2, a3, a4, a5, a6, a7⟩ := HM.out.A.cells
  obtain ⟨g0, g1, g2, g3, g4, g5, g6, g7⟩ := HD.out.cells
  go_wp2_with fail
  refine (over_r _ HNF.out HP.out HGL.out hg0).mono ?_
  rintro e w2 ⟨rfl, hb⟩
  clear a0 a1 a2 a3 a4 a5 a6 a7 g0 g1 g2 g3 g4 g5 g6 g7
  replace HM := Lib.hid (HM.out.next hb)
  replace HD := Lib.hid (HD.out.below hb)
  clear hb
  obtain ⟨b0, b1, b2, b3, b4, b5, b6, b7⟩ := HM.out.B.cells
  obtain ⟨g0, g1, g2, g3, g4, g5, g6, g7⟩ := HD.out.cells
  go_wp2_with fail
  refine (over_r _ HDF.out HQ.out HGL.out hg0).mono ?_
  rintro e w3 ⟨rfl, hb⟩
  clear b0 b1 b2 b3 b4 b5 b6 b7 g0 g1 g2 g3 g4 g5 g6 g7 HD
  replace HM := Lib.hid (HM.out.next hb)
  clear hb
  obtain ⟨r0, r1⟩ := HM.out.R.c2
  have rf := HM.out.R.frozen
  have hz := HM.out.R.lt
  go_upto_region 4 with (fail)
  rcases c1 with ⟨rfl, rfl, hN1⟩ | ⟨rfl, rfl, hN1⟩
  case inr =>
    have HE2 : Box (low (sg ng p) q = (0, 0, 5)) := ⟨by rw [HE.out, if_neg (by omega)]⟩
    go_wp2_with fail
    exact bodyPost_ret (v := .tuple #[.agg #[.int .i64 0, .int .i64 0], .int .i64 5]) (by simp [results, Tryd.results52, go_sem, r0, r1, rf, hz]) rfl (retF HE2.out rfl (bset2 HM.out.below (by omega) _ _))
  rcases c2 with ⟨rfl, rfl, hD1⟩ | ⟨rfl, rfl, hD1⟩
  case inr =>
    have HE2 : Box (low (sg ng p) q = (0, 0, 5)) := ⟨by rw [HE.out, if_neg (by omega)]⟩
    go_wp2_with fail
    exact bodyPost_ret (v := .tuple #[.agg #[.int .i64 0, .int .i64 0], .int .i64 5]) (by simp [results, Tryd.results52, go_sem, r0, r1, rf, hz]) rfl (retF HE2.out rfl (bset2 HM.out.below (by omega) _ _))
  by_cases hn : n ≤ 4611686018427387904
  case neg =>
    have hn2 : (4611686018427387904 : Int) < (n : Int) := by omega
    have HE2 : Box (low (sg ng p) q = (0, 0, 5)) := ⟨by rw [HE.out, if_neg (by omega)]⟩
    go_wp2_with fail
    exact bodyPost_ret (v := .tuple #[.agg #[.int .i64 0, .int .i64 0], .int .i64 5]) (by simp [results, Tryd.results52, go_sem, r0, r1, rf, hz]) rfl (retF HE2.out rfl (bset2 HM.out.below (by omega) _ _))
  by_cases hd : d ≤ 4611686018427387904
  case neg =>
    have hd2 : (4611686018427387904 : Int) < (d : Int) := by omega
    have hn2 : ¬ (4611686018427387904 : Int) < (n : Int) := by omega
    have HE2 : Box (low (sg ng p) q = (0, 0, 5)) := ⟨by rw [HE.out, if_neg (by omega)]⟩
    go_wp2_with fail
    exact bodyPost_ret (v := .tuple #[.agg #[.int .i64 0, .int .i64 0], .int .i64 5]) (by simp [results, Tryd.results52, go_sem, r0, r1, rf, hz]) rfl (retF HE2.out rfl (bset2 HM.out.below (by omega) _ _))
  have HE2 : Box (low (sg ng p) q = (sg ng n, (d : Int), 0)) := ⟨by rw [HE.out, if_pos ⟨hn, hd⟩]⟩
  have hd2 : ¬ (4611686018427387904 : Int) < (d : Int) := by omega
  have hn2 : ¬ (4611686018427387904 : Int) < (n : Int) := by omega
  have k1 := fin_i64 (n : Int) (by omega) (by omega)
  have k2 := fin_i64 (d : Int) (by omega) (by omega)
  have k3 := fin_i64 (-(n : Int)) (by omega) (by omega)
  cases ng
  · go_wp2_with fail
    exact bodyPost_ret (v := .tuple #[.agg #[.int .i64 (n : Nat), .int .i64 (d : Nat)], .int .i64 0]) (by simp [results, Tryd.results52, go_sem, r0, r1, rf, hz]) rfl (retF HE2.out rfl (bset2 HM.out.below (by omega) _ _))
  · go_wp2_with fail
    exact bodyPost_ret (v := .tuple #[.agg #[.int .i64 (-(n : Int)), .int .i64 (d : Nat)], .int .i64 0]) (by simp [results, Tryd.results52, go_sem, r0, r1, rf, hz]) rfl (retF HE2.out rfl (bset2 HM.out.below (by omega) _ _))
end Go.Proofs.YtlplligfnbkofaaDoor
