/- Contracts, packed: Fr Mb. -/
import Derived.Test.YthoibeajhdhdhaaDoorPn51
set_option linter.unusedVariables false
set_option linter.unusedSimpArgs false
namespace Go.Proofs.YthoibeajhdhdhaaDoor
section
open Go.RowKit FracM

theorem div_no {n1 d1 n2 d2 : Int} (h : validB n1 d1 = false ∨ validB n2 d2 = false) : divF n1 d1 n2 d2 = (0, 0, 1) := by
  unfold divF; rcases h with h | h <;> simp [h]
theorem div_0 {n1 d1 n2 d2 : Int} (h1 : validB n1 d1 = true) (h2 : validB n2 d2 = true) (h : n2 = 0) : divF n1 d1 n2 d2 = (0, 0, 6) := by
  unfold divF; rw [if_pos (by simp [h1, h2]), if_pos h]
theorem div_n {n1 d1 n2 d2 : Int} (h1 : validB n1 d1 = true) (h2 : validB n2 d2 = true) (h : n2 < 0) : divF n1 d1 n2 d2 = mulF n1 d1 (-d2) (-n2) := by
  unfold divF; rw [if_pos (by simp [h1, h2]), if_neg (by omega), if_pos h]
theorem div_p {n1 d1 n2 d2 : Int} (h1 : validB n1 d1 = true) (h2 : validB n2 d2 = true) (h : 0 < n2) : divF n1 d1 n2 d2 = mulF n1 d1 d2 n2 := by
  unfold divF; rw [if_pos (by simp [h1, h2]), if_neg (by omega), if_neg (by omega)]

set_option maxHeartbeats 1000000 in
theorem div_any (n1 d1 n2 d2 : Int) (w : World) (l1 : -9223372036854775808 ≤ n1) (u1 : n1 ≤ 9223372036854775807) (l2 : -9223372036854775808 ≤ d1) (u2 : d1 ≤ 9223372036854775807) (l3 : -9223372036854775808 ≤ n2) (u3 : n2 ≤ 9223372036854775807) (l4 : -9223372036854775808 ≤ d2) (u4 : d2 ≤ 9223372036854775807) :
    Calls Tryd.prog 33 #[.agg #[.int .i64 n1, .int .i64 d1], .agg #[.int .i64 n2, .int .i64 d2]] w (RetF (divF n1 d1 n2 d2) w) := by
  by_cases v1 : validB n1 d1 = true
  case neg =>
    replace v1 : validB n1 d1 = false := by simpa using v1
    have E := Lib.hid (div_no (d2 := d2) (n2 := n2) (.inl v1))
    go_enter Tryd.func33, Tryd.ntmps33
    go_wp2_with fail
    refine (valid_any n1 d1 _ (by omega) (by omega) (by omega) (by omega)).mono ?_
    rintro e w1 ⟨rfl, hb1⟩
    rw [v1]
    have HB1 : Hid (Bx3 w w1 n1 d1 n2 d2) := (Bx3.start w n1 d1 n2 d2).next hb1
    clear hb1
    obtain ⟨p0, p1⟩ := HB1.out.b0.c2
    obtain ⟨q0, q1⟩ := HB1.out.b1.c2
    obtain ⟨r0, r1⟩ := HB1.out.b2.c2
    have rf := HB1.out.b2.frozen
    have hz := HB1.out.b2.lt
    go_wp2_with fail
    exact bodyPost_ret (v := .tuple #[.agg #[.int .i64 0, .int .i64 0], .int .i64 1]) (by simp [results, Tryd.results33, go_sem, r0, r1]) rfl (retF E.out rfl (bset2 HB1.out.below (by omega) _ _))
  by_cases v2 : validB n2 d2 = true
  case neg =>
    replace v2 : validB n2 d2 = false := by simpa using v2
    have E := Lib.hid (div_no (d1 := d1) (n1 := n1) (.inr v2))
    go_enter Tryd.func33, Tryd.ntmps33
    go_wp2_with fail
    refine (valid_any n1 d1 _ (by omega) (by omega) (by omega) (by omega)).mono ?_
    rintro e w1 ⟨rfl, hb1⟩
    rw [v1]
    have HB1 : Hid (Bx3 w w1 n1 d1 n2 d2) := (Bx3.start w n1 d1 n2 d2).next hb1
    clear hb1
    obtain ⟨p0, p1⟩ := HB1.out.b0.c2
    obtain ⟨q0, q1⟩ := HB1.out.b1.c2
    obtain ⟨r0, r1⟩ := HB1.out.b2.c2
    have rf := HB1.out.b2.frozen
    go_wp2_with fail
    refine (valid_any n2 d2 _ (by omega) (by omega) (by omega) (by omega)).mono ?_
    rintro e w2 ⟨rfl, hb2⟩
    rw [v2]
    have HB2 : Hid (Bx3 w w2 n1 d1 n2 d2) := HB1.out.next hb2
    clear hb2 p0 p1 q0 q1 r0 r1 rf HB1
    obtain ⟨p0, p1⟩ := HB2.out.b0.c2
    obtain ⟨q0, q1⟩ := HB2.out.b1.c2
    obtain ⟨r0, r1⟩ := HB2.out.b2.c2
    have rf := HB2.out.b2.frozen
    have hz := HB2.out.b2.lt
    go_wp2_with fail
    exact bodyPost_ret (v := .tuple #[.agg #[.int .i64 0, .int .i64 0], .int .i64 1]) (by simp [results, Tryd.results33, go_sem, r0, r1]) rfl (retF E.out rfl (bset2 HB2.out.below (by omega) _ _))
  obtain ⟨x1, x2, x3⟩ := valid_bd v1
  obtain ⟨y1, y2, y3⟩ := valid_bd v2
  rcases Int.lt_trichotomy n2 0 with t | t | t
  · have E := Lib.hid (div_n v1 v2 t)
    generalize hr : divF n1 d1 n2 d2 = r at E ⊢
    obtain ⟨ra, rb, rc⟩ := r
    clear hr
    have tz : (n2 == 0) = false := by simp; omega
    go_enter Tryd.func33, Tryd.ntmps33
    go_wp2_with fail
    refine (valid_any n1 d1 _ (by omega) (by omega) (by omega) (by omega)).mono ?_
    rintro e w1 ⟨rfl, hb1⟩
    rw [v1]
    have HB1 : Hid (Bx3 w w1 n1 d1 n2 d2) := (Bx3.start w n1 d1 n2 d2).next hb1
    clear hb1
    obtain ⟨p0, p1⟩ := HB1.out.b0.c2
    obtain ⟨q0, q1⟩ := HB1.out.b1.c2
    obtain ⟨r0, r1⟩ := HB1.out.b2.c2
    have rf := HB1.out.b2.frozen
    go_wp2_with fail
    refine (valid_any n2 d2 _ (by omega) (by omega) (by omega) (by omega)).mono ?_
    rintro e w2 ⟨rfl, hb2⟩
    rw [v2]
    have HB2 : Hid (Bx3 w w2 n1 d1 n2 d2) := HB1.out.next hb2
    clear hb2 p0 p1 q0 q1 r0 r1 rf HB1
    obtain ⟨p0, p1⟩ := HB2.out.b0.c2
    obtain ⟨q0, q1⟩ := HB2.out.b1.c2
    obtain ⟨r0, r1⟩ := HB2.out.b2.c2
    have rf := HB2.out.b2.frozen
    have hz := HB2.out.b2.lt
    go_wp2_with fail
    refine (mul_any n1 d1 (-d2) (-n2) _ (by omega) (by omega) (by omega) (by omega) (by omega) (by omega) (by omega) (by omega)).mono ?_
    rintro e w3 ⟨rfl, hb3⟩
    rw [← E.out]
    have HB3 : Hid (Bx3 w w3 n1 d1 n2 d2) := HB2.out.next hb3
    clear hb3 r0 r1 rf
    obtain ⟨r0, r1⟩ := HB3.out.b2.c2
    have rf := HB3.out.b2.frozen
    go_wp2_with fail
    exact bodyPost_ret (v := .tuple #[.agg #[.int .i64 ra, .int .i64 rb], .int .i64 rc]) (by simp [results, Tryd.results33, go_sem, r0, r1]) rfl (retF rfl rfl (bset2 HB3.out.below (by omega) _ _))
  · have E := Lib.hid (div_0 v1 v2 t)
    have tz : (n2 == 0) = true := by simp [t]
    clear t
    go_enter Tryd.func33, Tryd.ntmps33
    go_wp2_with fail
    refine (valid_any n1 d1 _ (by omega) (by omega) (by omega) (by omega)).mono ?_
    rintro e w1 ⟨rfl, hb1⟩
    rw [v1]
    have HB1 : Hid (Bx3 w w1 n1 d1 n2 d2) := (Bx3.start w n1 d1 n2 d2).next hb1
    clear hb1
    obtain ⟨p0, p1⟩ := HB1.out.b0.c2
    obtain ⟨q0, q1⟩ := HB1.out.b1.c2
    obtain ⟨r0, r1⟩ := HB1.out.b2.c2
    have rf := HB1.out.b2.frozen
    go_wp2_with fail
    refine (valid_any n2 d2 _ (by omega) (by omega) (by omega) (by omega)).mono ?_
    rintro e w2 ⟨rfl, hb2⟩
    rw [v2]
    have HB2 : Hid (Bx3 w w2 n1 d1 n2 d2) := HB1.out.next hb2
    clear hb2 p0 p1 q0 q1 r0 r1 rf HB1
    obtain ⟨p0, p1⟩ := HB2.out.b0.c2
    obtain ⟨q0, q1⟩ := HB2.out.b1.c2
    obtain ⟨r0, r1⟩ := HB2.out.b2.c2
    have rf := HB2.out.b2.frozen
    have hz := HB2.out.b2.lt
    go_wp2_with fail
    exact bodyPost_ret (v := .tuple #[.agg #[.int .i64 0, .int .i64 0], .int .i64 6]) (by simp [results, Tryd.results33, go_sem, r0, r1]) rfl (retF E.out rfl (bset2 HB2.out.below (by omega) _ _))
  · have E := Lib.hid (div_p v1 v2 t)
    generalize hr : divF n1 d1 n2 d2 = r at E ⊢
    obtain ⟨ra, rb, rc⟩ := r
    clear hr
    have tz : (n2 == 0) = false := by simp; omega
    have tl : ¬ n2 < 0 := by omega
    go_enter Tryd.func33, Tryd.ntmps33
    go_wp2_with fail
    refine (valid_any n1 d1 _ (by omega) (by omega) (by omega) (by omega)).mono ?_
    rintro e w1 ⟨rfl, hb1⟩
    rw [v1]
    have HB1 : Hid (Bx3 w w1 n1 d1 n2 d2) := (Bx3.start w n1 d1 n2 d2).next hb1
    clear hb1
    obtain ⟨p0, p1⟩ := HB1.out.b0.c2
    obtain ⟨q0, q1⟩ := HB1.out.b1.c2
    obtain ⟨r0, r1⟩ := HB1.out.b2.c2
    have rf := HB1.out.b2.frozen
    go_wp2_with fail
    refine (valid_any n2 d2 _ (by omega) (by omega) (by omega) (by omega)).mono ?_
    rintro e w2 ⟨rfl, hb2⟩
    rw [v2]
    have HB2 : Hid (Bx3 w w2 n1 d1 n2 d2) := HB1.out.next hb2
    clear hb2 p0 p1 q0 q1 r0 r1 rf HB1
    obtain ⟨p0, p1⟩ := HB2.out.b0.c2
    obtain ⟨q0, q1⟩ := HB2.out.b1.c2
    obtain ⟨r0, r1⟩ := HB2.out.b2.c2
    have rf := HB2.out.b2.frozen
    have hz := HB2.out.b2.lt
    go_wp2_with fail
    refine (mul_any n1 d1 d2 n2 _ (by omega) (by omega) (by omega) (by omega) (by omega) (by omega) (by omega) (by omega)).mono ?_
    rintro e w3 ⟨rfl, hb3⟩
    rw [← E.out]
    have HB3 : Hid (Bx3 w w3 n1 d1 n2 d2) := HB2.out.next hb3
    clear hb3 r0 r1 rf
    obtain ⟨r0, r1⟩ := HB3.out.b2.c2
    have rf := HB3.out.b2.frozen
    go_wp2_with fail
    exact bodyPost_ret (v := .tuple #[.agg #[.int .i64 ra, .int .i64 rb], .int .i64 rc]) (by simp [results, Tryd.results33, go_sem, r0, r1]) rfl (retF rfl rfl (bset2 HB3.out.below (by omega) _ _))
end
section
open Go.RowKit FracM

def ValC (t : Tree) (n d : Int) : Prop := ∀ (W : World) (s : Sl), TreeAt W AnyP t s → Calls Tryd.prog 15 #[.agg (ndC t.d s.1 s.2.1 s.2.2)] W fun e w' => e = .returned (.tuple #[.agg #[.int .i64 n, .int .i64 d], .bool true]) ∧ Below W.heap.size W w'
set_option maxHeartbeats 1000000 in
set_option maxRecDepth 100000 in
theorem val_num (n : Int) : ValC (numT n) n 1 := by
  intro w ⟨mv, bv, kv⟩ hT
  obtain ⟨A1, n1, rfl, l1⟩ := hT.nod.ms.form
  obtain ⟨A2, n2, rfl, l2⟩ := hT.nod.bys.form
  obtain ⟨A3, n3, rfl, l3⟩ := hT.nod.kform
  clear hT
  unfold numT
  simp only [Tree.d]
  go_enter Tryd.func15, Tryd.ntmps15
  go_wp2_with fail
  exact bodyPost_ret (v := .tuple #[.agg #[.int .i64 n, .int .i64 1], .bool true]) (by simp [results, Tryd.results15, go_sem]) rfl ⟨rfl, bel2 w _ _⟩
/-- the memory of value: the node's copy, the result's variable, variables of fractions -/
structure Vs (w W : World) (d0 : Nd) (ks : List Tree) (mv bv kv : Value) (l : List (Nat × Int × Int)) : Prop where
  n : N1 w W AnyP d0 ks mv bv kv
  r : Blk W (w.heap.size + 1) 24 #[.int .i64 0, .int .i64 0]
  bx : ∀ x ∈ l, Blk W x.1 24 #[.int .i64 x.2.1, .int .i64 x.2.2]
theorem Vs.cons {w W W1 : World} {d0 : Nd} {ks : List Tree} {mv bv kv : Value} {l : List (Nat × Int × Int)} {n d : Int} (h : Vs w W d0 ks mv bv kv l) (hb : Below W.heap.size W W1) : Vs w (W1.alloc (.cells #[.int .i64 n, .int .i64 d] 24)) d0 ks mv bv kv ((W1.heap.size, n, d) :: l) := by
  have hb2 := bthen hb (bel1 W1 (.cells #[.int .i64 n, .int .i64 d] 24)) (Nat.le_refl _)
  refine ⟨h.n.next hb2, h.r.below hb2, fun x hx => ?_⟩
  rcases List.mem_cons.1 hx with rfl | hx
  · exact Blk.new _ _ _
  · exact (h.bx x hx).below hb2
set_option maxHeartbeats 4000000 in
set_option maxRecDepth 100000 in
theorem val_bin (fn : Nat) (a b : Tree) (n1 d1 n2 d2 n d : Int) (ha : ValC a n1 d1) (hb : ValC b n2 d2) (hf : (fn = 1 ∧ subF n1 d1 n2 d2 = (n, d, 0)) ∨ (fn = 3 ∧ divF n1 d1 n2 d2 = (n, d, 0)))
    (i1 : I64 n1) (i2 : I64 d1) (i3 : I64 n2) (i4 : I64 d2) : ValC (binT fn a b) n d := by
  intro w ⟨mv, bv, kv⟩ hT
  obtain ⟨ea, sa⟩ := a
  obtain ⟨eb, sb⟩ := b
  unfold binT at hT ⊢
  obtain ⟨A1, m1, rfl, l1⟩ := hT.nod.ms.form
  obtain ⟨A2, m2, rfl, l2⟩ := hT.nod.bys.form
  obtain ⟨A3, m3, rfl, l3⟩ := hT.nod.kform
  have H0 : Box (Vs w ((w.alloc (.cells (ndC ⟨3, (fn : Int), 0, 0, 0, 0, 0, ⟨#[]⟩, [], []⟩ (.slice A1 0 m1) (.slice A2 0 m2) (.slice A3 2 m3)) 29)).alloc (.cells #[.int .i64 0, .int .i64 0] 24)) ⟨3, (fn : Int), 0, 0, 0, 0, 0, ⟨#[]⟩, [], []⟩ [.node ea sa, .node eb sb] (.slice A1 0 m1) (.slice A2 0 m2) (.slice A3 2 m3) []) := ⟨(N1.start hT).next (bel1 _ _), Blk.newAt _ _ (by simp), fun x hx => by cases hx⟩
  have HA := Box.mk ha
  have HB := Box.mk hb
  clear hT ha hb
  have HF := Box.mk hf
  have HI : Box ((-9223372036854775808 ≤ n1 ∧ n1 ≤ 9223372036854775807) ∧ (-9223372036854775808 ≤ d1 ∧ d1 ≤ 9223372036854775807) ∧ (-9223372036854775808 ≤ n2 ∧ n2 ≤ 9223372036854775807) ∧ (-9223372036854775808 ≤ d2 ∧ d2 ≤ 9223372036854775807)) := ⟨i1, i2, i3, i4⟩
  clear hf i1 i2 i3 i4
  simp only [Tree.d]
  go_enter Tryd.func15, Tryd.ntmps15
  go_upto_region 1 with (fail)
  generalize (w.alloc (.cells (ndC _ _ _ _) 29)).alloc (.cells #[.int .i64 0, .int .i64 0] 24) = W0 at H0 ⊢
  obtain ⟨c0, c1, c2, c3, c4, c5, c6, c7, c8, c9, c10⟩ := H0.out.n.c
  simp only [Nat.zero_add, List.length_nil, List.length_cons, Nat.reduceAdd] at c0 c10
  clear c1 c2 c3 c4 c5 c6 c7 c8 c9
  go_upto_region 5 with (fail)
  clear c0 c10
  obtain ⟨b, off, x1, x2, x3, hA, hb0, -, hk, hTk⟩ := H0.out.n.nod.kid 0 ea sa rfl
  obtain ⟨k0, k1, k2, k3, k4, k5, k6, k7, k8, k9, k10⟩ := hk
  simp only [Nat.zero_mul, Nat.add_zero, Nat.one_mul, Nat.add_assoc, Nat.reduceAdd] at k0 k1 k2 k3 k4 k5 k6 k7 k8 k9 k10
  cases hA
  have HTK := Box.mk hTk
  clear hTk
  obtain ⟨c0, c1, c2, c3, c4, c5, c6, c7, c8, c9, c10⟩ := H0.out.n.c
  simp only [Nat.zero_add] at c10
  clear c0 c1 c2 c3 c4 c5 c6 c7 c8 c9
  go_wp2_with fail
  refine (HA.out _ (x1, x2, x3) HTK.out).mono ?_
  rintro e0 w1 ⟨rfl, hb⟩
  have H1 := Box.mk (H0.out.cons (n := n1) (d := d1) hb)
  clear hb k0 k1 k2 k3 k4 k5 k6 k7 k8 k9 k10 c10 H0 HTK hb0
  go_upto_region 6 with (fail)
  generalize w1.alloc (.cells #[.int .i64 n1, .int .i64 d1] 24) = W1 at H1 ⊢
  generalize w1.heap.size = g1 at *
  obtain ⟨b, off, x1, x2, x3, hA, hb0, -, hk, hTk⟩ := H1.out.n.nod.kid 1 eb sb rfl
  obtain ⟨k0, k1, k2, k3, k4, k5, k6, k7, k8, k9, k10⟩ := hk
  simp only [Nat.zero_mul, Nat.add_zero, Nat.one_mul, Nat.add_assoc, Nat.reduceAdd] at k0 k1 k2 k3 k4 k5 k6 k7 k8 k9 k10
  cases hA
  have HTK := Box.mk hTk
  clear hTk
  obtain ⟨c0, c1, c2, c3, c4, c5, c6, c7, c8, c9, c10⟩ := H1.out.n.c
  simp only [Nat.zero_add] at c10
  clear c0 c1 c2 c3 c4 c5 c6 c7 c8 c9
  go_wp2_with fail
  refine (HB.out _ (x1, x2, x3) HTK.out).mono ?_
  rintro e0 w1 ⟨rfl, hb⟩
  have H2 := Box.mk (H1.out.cons (n := n2) (d := d2) hb)
  clear hb k0 k1 k2 k3 k4 k5 k6 k7 k8 k9 k10 c10 H1 HTK hb0
  go_upto_region 7 with (fail)
  generalize w1.alloc (.cells #[.int .i64 n2, .int .i64 d2] 24) = W2 at H2 ⊢
  generalize w1.heap.size = g2 at *
  rcases HF.out with ⟨rfl, he⟩ | ⟨rfl, he⟩
  · skip
    obtain ⟨c0, c1, c2, c3, c4, c5, c6, c7, c8, c9, c10⟩ := H2.out.n.c
    simp only [Nat.zero_add] at c1
    clear c0 c2 c3 c4 c5 c6 c7 c8 c9 c10
    obtain ⟨p0, p1⟩ := (H2.out.bx _ (List.mem_cons_of_mem _ (List.mem_cons_self ..))).c2
    obtain ⟨q0, q1⟩ := (H2.out.bx _ (List.mem_cons_self ..)).c2
    have HE := Box.mk he
    clear he
    go_wp2_with fail
    refine (sub_any n1 d1 n2 d2 _ HI.out.1.1 HI.out.1.2 HI.out.2.1.1 HI.out.2.1.2 HI.out.2.2.1.1 HI.out.2.2.1.2 HI.out.2.2.2.1 HI.out.2.2.2.2).mono ?_
    rintro e0 w1 ⟨rfl, hb⟩
    rw [HE.out]
    have H3 := Box.mk (H2.out.cons (n := n) (d := d) hb)
    clear hb p0 p1 q0 q1 c1 H2
    go_upto_region 12 with (fail)
    generalize w1.alloc (.cells #[.int .i64 n, .int .i64 d] 24) = W3 at H3 ⊢
    generalize w1.heap.size = g3 at *
    obtain ⟨p0, p1⟩ := (H3.out.bx _ (List.mem_cons_self ..)).c2
    obtain ⟨r0, r1⟩ := H3.out.r.c2
    have rf := H3.out.r.frozen
    go_wp2_with fail
    exact bodyPost_ret (v := .tuple #[.agg #[.int .i64 n, .int .i64 d], .bool true]) (by simp [results, Tryd.results15, go_sem, r0, r1]) rfl ⟨rfl, bset2 H3.out.n.below (by omega) _ _⟩
  · skip
    obtain ⟨c0, c1, c2, c3, c4, c5, c6, c7, c8, c9, c10⟩ := H2.out.n.c
    simp only [Nat.zero_add] at c1
    clear c0 c2 c3 c4 c5 c6 c7 c8 c9 c10
    obtain ⟨p0, p1⟩ := (H2.out.bx _ (List.mem_cons_of_mem _ (List.mem_cons_self ..))).c2
    obtain ⟨q0, q1⟩ := (H2.out.bx _ (List.mem_cons_self ..)).c2
    have HE := Box.mk he
    clear he
    go_wp2_with fail
    refine (div_any n1 d1 n2 d2 _ HI.out.1.1 HI.out.1.2 HI.out.2.1.1 HI.out.2.1.2 HI.out.2.2.1.1 HI.out.2.2.1.2 HI.out.2.2.2.1 HI.out.2.2.2.2).mono ?_
    rintro e0 w1 ⟨rfl, hb⟩
    rw [HE.out]
    have H3 := Box.mk (H2.out.cons (n := n) (d := d) hb)
    clear hb p0 p1 q0 q1 c1 H2
    go_upto_region 15 with (fail)
    generalize w1.alloc (.cells #[.int .i64 n, .int .i64 d] 24) = W3 at H3 ⊢
    generalize w1.heap.size = g3 at *
    obtain ⟨p0, p1⟩ := (H3.out.bx _ (List.mem_cons_self ..)).c2
    obtain ⟨r0, r1⟩ := H3.out.r.c2
    have rf := H3.out.r.frozen
    go_wp2_with fail
    exact bodyPost_ret (v := .tuple #[.agg #[.int .i64 n, .int .i64 d], .bool true]) (by simp [results, Tryd.results15, go_sem, r0, r1]) rfl ⟨rfl, bset2 H3.out.n.below (by omega) _ _⟩
end
end Go.Proofs.YthoibeajhdhdhaaDoor
