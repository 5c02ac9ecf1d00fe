/- Middle; FracBetween: the walk. -/
import Derived.Test.YtlplligfnbkofaaDoorFl
set_option linter.unusedVariables false
set_option linter.unusedSimpArgs false
namespace Go.Proofs.YtlplligfnbkofaaDoor
open Go.RowKit FracM

theorem sm_of {p q : Int} (h1 : -500 ≤ p) (h2 : p ≤ 500) (h3 : 1 ≤ q) (h4 : q ≤ 500) : ∃ a b, newF p q = (a, b, 0) ∧ Sm a b := by
  rw [newF_pos (by omega) (by omega) (by omega)]
  obtain ⟨a, b, hl⟩ := low_small (p := p) (q := q.natAbs) (by unfold M; omega) (by unfold M; omega)
  refine ⟨a, b, hl, low_valid (by omega) hl, ?_⟩
  unfold low at hl
  split at hl
  · obtain ⟨ha, hb⟩ := Prod.mk.inj hl
    obtain ⟨hb, _⟩ := Prod.mk.inj hb
    have e1 : a.natAbs ≤ p.natAbs := by
      rw [← ha, natAbs_sign_mul (fun h => by simp [h])]; exact Nat.div_le_self _ _
    have e2 : q.natAbs / Nat.gcd p.natAbs q.natAbs ≤ q.natAbs := Nat.div_le_self _ _
    have e3 : 0 < q.natAbs / Nat.gcd p.natAbs q.natAbs := Nat.div_pos (Nat.le_of_dvd (by omega) (Nat.gcd_dvd_right _ _)) (Nat.gcd_pos_of_pos_right _ (by omega))
    omega
  · simp at hl
def RetM (w : World) (e : Ending) (w' : World) : Prop := ∃ a b, e = .returned (.agg #[.int .i64 a, .int .i64 b]) ∧ Sm a b ∧ Below w.heap.size w w'
set_option maxHeartbeats 400000 in
theorem middle_any (n : Int) (w : World) (l1 : -9223372036854775808 ≤ n) (u1 : n ≤ 9223372036854775807) : Calls Tryd.prog 29 #[.int .i64 n] w (RetM w) := by
  obtain ⟨k0, k1⟩ := around_bd n 1000000007 (by omega)
  generalize hk : around n 1000000007 = k at *
  have HK := Box.mk hk; clear hk
  obtain ⟨a, b, hr, hs⟩ := sm_of (p := k % 1001 - 500) (q := 1 + k / 1001 % 500) (by omega) (by omega) (by omega) (by omega)
  have HR := Box.mk hr; have HS := Box.mk hs; clear hr hs
  go_enter Tryd.func29, Tryd.ntmps29
  go_wp2_with fail
  refine (around_any n 1000000007 _ l1 u1 (by omega) (by omega)).mono ?_
  rintro e w1 ⟨rfl, rfl⟩
  rw [HK.out]
  go_wp2_with fail
  refine (rnew_any _ _ _ (by omega) (by omega) (by omega) (by omega)).mono ?_
  rintro e w2 ⟨rfl, hb2⟩
  rw [HR.out]
  have HB2 : Hid (Below w.heap.size w w2 ∧ Blk w2 w.heap.size 23 #[.int .i64 0, .int .i64 0]) := ⟨bthen (bel1 _ _) hb2 (Nat.le_refl _), (Blk.new _ _ _).below hb2⟩
  obtain ⟨r0, r1⟩ := HB2.out.2.c2
  have rf := HB2.out.2.frozen
  have hz := HB2.out.2.lt
  have n1 : ¬ w.heap.size = w2.heap.size := by omega
  have n2 : ¬ w2.heap.size = w.heap.size := by omega
  clear hb2
  go_wp2_with fail
  exact bodyPost_ret (v := .agg #[.int .i64 a, .int .i64 b]) (by simp [results, Tryd.results29, go_sem, r0, r1, rf, hz, n1, n2]) rfl ⟨a, b, rfl, HS.out, (bset2 HB2.out.1 (Nat.le_refl _) _ _).alloc (by simp [World.setCell]; omega) _⟩

/-- three fractions of the call's own -/
structure Bt (w W : World) (g1 g2 g3 : Nat) (a1 b1 a2 b2 a3 b3 : Int) : Prop where
  below : Below w.heap.size w W
  k1 : Blk W g1 23 #[.int .i64 a1, .int .i64 b1]
  k2 : Blk W g2 23 #[.int .i64 a2, .int .i64 b2]
  k3 : Blk W g3 23 #[.int .i64 a3, .int .i64 b3]
theorem Bt.next {w W W' : World} {g1 g2 g3 : Nat} {a1 b1 a2 b2 a3 b3 : Int} (h : Bt w W g1 g2 g3 a1 b1 a2 b2 a3 b3) (hb : Below W.heap.size W W') : Bt w W' g1 g2 g3 a1 b1 a2 b2 a3 b3 :=
  ⟨bthen h.below hb (Nat.le_refl _), h.k1.below hb, h.k2.below hb, h.k3.below hb⟩
theorem Bt.cells {w W : World} {g1 g2 g3 : Nat} {a1 b1 a2 b2 a3 b3 : Int} (h : Bt w W g1 g2 g3 a1 b1 a2 b2 a3 b3) : W.cell? ⟨g1, 0, none⟩ = some (.int .i64 a1) ∧ W.cell? ⟨g1, 1, none⟩ = some (.int .i64 b1) ∧ W.cell? ⟨g2, 0, none⟩ = some (.int .i64 a2) ∧ W.cell? ⟨g2, 1, none⟩ = some (.int .i64 b2) ∧ W.cell? ⟨g3, 0, none⟩ = some (.int .i64 a3) ∧ W.cell? ⟨g3, 1, none⟩ = some (.int .i64 b3) :=
  ⟨h.k1.c2.1, h.k1.c2.2, h.k2.c2.1, h.k2.c2.2, h.k3.c2.1, h.k3.c2.2⟩
/-- a fraction whose numbers are ints -/
def Fit2 (n d : Int) : Prop := -9223372036854775808 ≤ n ∧ n ≤ 9223372036854775807 ∧ -9223372036854775808 ≤ d ∧ d ≤ 9223372036854775807
theorem cmp_c {n1 d1 n2 d2 c : Int} (w : World) (h : cmpF n1 d1 n2 d2 = c) (f1 : Fit2 n1 d1) (f2 : Fit2 n2 d2) :
    Calls Tryd.prog 27 #[.agg #[.int .i64 n1, .int .i64 d1], .agg #[.int .i64 n2, .int .i64 d2]] w fun e w' => e = .returned (.int .i64 c) ∧ Below w.heap.size w w' := by
  subst h; exact compare_any n1 d1 n2 d2 w f1.1 f1.2.1 f1.2.2.1 f1.2.2.2 f2.1 f2.2.1 f2.2.2.1 f2.2.2.2

set_option maxHeartbeats 4000000 in
theorem fracBetween_walk (p q : Int) (w : World) (hl : LibW w) (l1 : -9223372036854775808 ≤ p) (u1 : p ≤ 9223372036854775807) (l2 : -9223372036854775808 ≤ q) (u2 : q ≤ 9223372036854775807) :
    Calls Tryd.prog 8 #[.int .i64 p, .int .i64 q] w fun e w' => e = .returned (.bool true) ∧ Below w.heap.size w w' := by
  have HL := Box.mk hl; clear hl
  go_enter Tryd.func8, Tryd.ntmps8
  go_wp2_with fail
  refine (middle_any p _ l1 u1).mono ?_
  rintro e w1 ⟨a1, b1, rfl, s1, hb1⟩
  have HB1 := Lib.hid hb1; clear hb1
  go_wp2_with fail
  refine (middle_any q _ l2 u2).mono ?_
  rintro e w2 ⟨a2, b2, rfl, s2, hb2⟩
  have HB2 : Hid (Below w.heap.size w w2 ∧ Blk w2 w1.heap.size 23 #[.int .i64 a1, .int .i64 b1]) := ⟨bthen (HB1.out.alloc HB1.out.size _) hb2 (Nat.le_refl _), (Blk.new _ _ _).below hb2⟩
  have hs2 := sz1 hb2
  clear hb2
  obtain ⟨v1, i1, i2, i3, i4⟩ := s1
  obtain ⟨v2, i5, i6, i7, i8⟩ := s2
  obtain ⟨c0, c1⟩ := HB2.out.2.c2
  have x1 : ¬ w1.heap.size = w2.heap.size := by omega
  obtain ⟨x, y, hm⟩ := low_small (p := a1 + a2) (q := (b1 + b2).natAbs) (by unfold M; omega) (by unfold M; omega)
  have hN : newF (a1 + a2) (b1 + b2) = (x, y, 0) := by rw [newF_pos (by omega) (by omega) (by omega)]; exact hm
  obtain ⟨q1, q2⟩ := cmp_between v1 v2 hm
  have vm := newF_ok hN
  obtain ⟨bm1, bm2, bm3⟩ := valid_bd vm
  generalize hc : cmpF a1 b1 a2 b2 = c at *
  have HC1 := Box.mk q1; have HC2 := Box.mk q2; have HC3 := Box.mk hc; have HN := Box.mk hN
  have F1 : Box (Fit2 a1 b1) := ⟨by unfold Fit2; omega⟩
  have F2 : Box (Fit2 a2 b2) := ⟨by unfold Fit2; omega⟩
  have F3 : Box (Fit2 x y) := ⟨by unfold Fit2; omega⟩
  clear q1 q2 hc hN hm v1 v2 vm
  go_wp2_with fail
  refine (new_any _ _ _ (by omega) (by omega) (by omega) (by omega)).mono ?_
  rintro e w3 ⟨rfl, hb3⟩
  rw [HN.out]
  have hs3 := sz1 hb3
  have HB : Hid (Bt w (w3.alloc (.cells #[.int .i64 x, .int .i64 y] 23)) w1.heap.size w2.heap.size w3.heap.size a1 b1 a2 b2 x y) := ⟨(bthen (HB2.out.1.alloc HB2.out.1.size _) hb3 (Nat.le_refl _)).alloc (by have := HB2.out.1.size; omega) _, ((HB2.out.2.alloc _).below hb3).alloc _, ((Blk.new _ _ _).below hb3).alloc _, Blk.new _ _ _⟩
  clear hb3 c0 c1
  go_wp2_with fail
  generalize w3.alloc (.cells #[.int .i64 x, .int .i64 y] 23) = W at *
  have hcc : (c == c) = true := by simp
  go_region_held3 (fun w' => w'.cell? ⟨w1.heap.size, 0, none⟩ = some (.int .i64 a1) ∧ w'.cell? ⟨w1.heap.size, 1, none⟩ = some (.int .i64 b1) ∧ w'.cell? ⟨w2.heap.size, 0, none⟩ = some (.int .i64 a2) ∧ w'.cell? ⟨w2.heap.size, 1, none⟩ = some (.int .i64 b2) ∧ w'.cell? ⟨w3.heap.size, 0, none⟩ = some (.int .i64 x) ∧ w'.cell? ⟨w3.heap.size, 1, none⟩ = some (.int .i64 y))
    (first | exact HB.out.cells | go_keep)
    (first
      | (go_at_call 27; (with_reducible refine (cmp_c _ HC1.out F1.out F3.out).mono ?_); rintro e w5 ⟨rfl, hb5⟩; have HB : Hid (Bt w w5 w1.heap.size w2.heap.size w3.heap.size a1 b1 a2 b2 x y) := (by first | exact HB.out.next hb5 | exact (HB.out.next (below_drewN _ _)).next hb5); clear hb5)
      | (go_at_call 27; (with_reducible refine (cmp_c _ HC3.out F1.out F2.out).mono ?_); rintro e w5 ⟨rfl, hb5⟩; have HB : Hid (Bt w w5 w1.heap.size w2.heap.size w3.heap.size a1 b1 a2 b2 x y) := (by first | exact HB.out.next hb5 | exact (HB.out.next (below_drewN _ _)).next hb5); clear hb5)
      | (go_at_call 27; (with_reducible refine (cmp_c _ HC2.out F3.out F2.out).mono ?_); rintro e w5 ⟨rfl, hb5⟩; have HB : Hid (Bt w w5 w1.heap.size w2.heap.size w3.heap.size a1 b1 a2 b2 x y) := (by first | exact HB.out.next hb5 | exact (HB.out.next (below_drewN _ _)).next hb5); clear hb5)
      | (go_at_call 16; refine (lives_true _ (HL.out.below HB.out.below)).mono ?_; rintro e w5 ⟨rfl, hb5⟩; have HB : Hid (Bt w w5 w1.heap.size w2.heap.size w3.heap.size a1 b1 a2 b2 x y) := (by first | exact HB.out.next hb5 | exact (HB.out.next (below_drewN _ _)).next hb5); clear hb5))
  all_goals
    go_wp2_with fail
    go_ret
    exact ⟨rfl, HB.out.below⟩
end Go.Proofs.YtlplligfnbkofaaDoor
