/- FracField: the walk. -/
import Derived.Test.YtlplligfnbkofaaDoorGb
import Derived.Test.YtlplligfnbkofaaDoorFr
set_option linter.unusedVariables false
set_option linter.unusedSimpArgs false
namespace Go.Proofs.YtlplligfnbkofaaDoor
open Go.RowKit FracM

theorem op_any (n d : Int) (w : World) : Calls Tryd.prog 34 #[.agg #[.int .i64 n, .int .i64 d], .int .i64 0] w fun e w' => e = .returned (.tuple #[.agg #[.int .i64 n, .int .i64 d], .bool true]) ∧ Below w.heap.size w w' := by
  go_enter Tryd.func34, Tryd.ntmps34
  go_wp2
  exact bodyPost_ret (v := .tuple #[.agg #[.int .i64 n, .int .i64 d], .bool true]) (by simp [results, Tryd.results34, go_sem]) rfl ⟨rfl, by first | exact bel2 _ _ _ | exact bset2 (bel2 _ _ _) (by omega) _ _⟩
/-- fractions of the call's own, each in its block -/
structure MemF (w W : World) (L : List (Nat × Int × Int)) : Prop where
  below : Below w.heap.size w W
  blk : ∀ x ∈ L, Blk W x.1 23 #[.int .i64 x.2.1, .int .i64 x.2.2] ∧ w.heap.size ≤ x.1
theorem MemF.next {w W W' : World} {L : List (Nat × Int × Int)} (h : MemF w W L) (hb : Below W.heap.size W W') : MemF w W' L :=
  ⟨bthen h.below hb (Nat.le_refl _), fun x hx => ⟨(h.blk x hx).1.below hb, (h.blk x hx).2⟩⟩
theorem MemF.add {w W : World} {L : List (Nat × Int × Int)} (h : MemF w W L) (n d : Int) : MemF w (W.alloc (.cells #[.int .i64 n, .int .i64 d] 23)) ((W.heap.size, n, d) :: L) :=
  ⟨h.below.alloc h.below.size _, fun x hx => by
    rcases List.mem_cons.1 hx with rfl | hx
    · exact ⟨Blk.new _ _ _, h.below.size⟩
    · exact ⟨(h.blk x hx).1.alloc _, (h.blk x hx).2⟩⟩
theorem MemF.sub {w W : World} {L L' : List (Nat × Int × Int)} (h : MemF w W L) (hs : ∀ x ∈ L', x ∈ L) : MemF w W L' := ⟨h.below, fun x hx => h.blk x (hs x hx)⟩
theorem MemF.put {w W : World} {L : List (Nat × Int × Int)} {g : Nat} {a b : Int} (h : MemF w W L) (hg : (g, a, b) ∈ L) {L' : List (Nat × Int × Int)} (hL : ∀ x ∈ L', x ∈ L ∧ x.1 ≠ g) (n d : Int) :
    MemF w ((W.setCell ⟨g, 0, none⟩ (.int .i64 n)).setCell ⟨g, 1, none⟩ (.int .i64 d)) ((g, n, d) :: L') := by
  have hb := (h.blk _ hg)
  refine ⟨bset2 h.below hb.2 _ _, fun x hx => ?_⟩
  rcases List.mem_cons.1 hx with rfl | hx
  · have := (hb.1.set 0 (.int .i64 n)).set 1 (.int .i64 d)
    exact ⟨by simpa using this, hb.2⟩
  · obtain ⟨h1, h2⟩ := hL x hx
    have := h.blk x h1
    exact ⟨(this.1.far (p := ⟨g, 0, none⟩) h2 _).far (p := ⟨g, 1, none⟩) h2 _, this.2⟩
theorem MemF.at_ {w W : World} {L : List (Nat × Int × Int)} {g : Nat} {a b : Int} (h : MemF w W L) (hg : (g, a, b) ∈ L) : W.cell? ⟨g, 0, none⟩ = some (.int .i64 a) ∧ W.cell? ⟨g, 1, none⟩ = some (.int .i64 b) := (h.blk _ hg).1.c2
theorem MemF.fr {w W : World} {L : List (Nat × Int × Int)} {g : Nat} {a b : Int} (h : MemF w W L) (hg : (g, a, b) ∈ L) : ∀ o, W.frozen? ⟨g, o, none⟩ = false := (h.blk _ hg).1.frozen
def RetE (n d c : Int) (w : World) (e : Ending) (w' : World) : Prop := e = .returned (.tuple #[.agg #[.int .i64 n, .int .i64 d], .int .i64 c]) ∧ Below w.heap.size w w'
theorem add_e {n1 d1 n2 d2 a b c : Int} (w : World) (h : addF n1 d1 n2 d2 = (a, b, c)) (f1 : Fit2 n1 d1) (f2 : Fit2 n2 d2) : Calls Tryd.prog 28 #[.agg #[.int .i64 n1, .int .i64 d1], .agg #[.int .i64 n2, .int .i64 d2]] w (RetE a b c w) := by
  have := add_any n1 d1 n2 d2 w f1.1 f1.2.1 f1.2.2.1 f1.2.2.2 f2.1 f2.2.1 f2.2.2.1 f2.2.2.2
  unfold RetF at this; rw [h] at this; exact this
theorem sub_e {n1 d1 n2 d2 a b c : Int} (w : World) (h : addF n1 d1 (-n2) d2 = (a, b, c)) (f1 : Fit2 n1 d1) (f2 : Fit2 n2 d2) : Calls Tryd.prog 30 #[.agg #[.int .i64 n1, .int .i64 d1], .agg #[.int .i64 n2, .int .i64 d2]] w (RetE a b c w) := by
  have := sub_any n1 d1 n2 d2 w f1.1 f1.2.1 f1.2.2.1 f1.2.2.2 f2.1 f2.2.1 f2.2.2.1 f2.2.2.2
  unfold RetF subF at this; rw [h] at this; exact this
theorem mul_e {n1 d1 n2 d2 a b c : Int} (w : World) (h : mulF n1 d1 n2 d2 = (a, b, c)) (f1 : Fit2 n1 d1) (f2 : Fit2 n2 d2) : Calls Tryd.prog 17 #[.agg #[.int .i64 n1, .int .i64 d1], .agg #[.int .i64 n2, .int .i64 d2]] w (RetE a b c w) := by
  have := mul_any n1 d1 n2 d2 w f1.1 f1.2.1 f1.2.2.1 f1.2.2.2 f2.1 f2.2.1 f2.2.2.1 f2.2.2.2
  unfold RetF at this; rw [h] at this; exact this
theorem div_e {n1 d1 n2 d2 a b c : Int} (w : World) (h : divF n1 d1 n2 d2 = (a, b, c)) (f1 : Fit2 n1 d1) (f2 : Fit2 n2 d2) : Calls Tryd.prog 18 #[.agg #[.int .i64 n1, .int .i64 d1], .agg #[.int .i64 n2, .int .i64 d2]] w (RetE a b c w) := by
  have := div_any n1 d1 n2 d2 w f1.1 f1.2.1 f1.2.2.1 f1.2.2.2 f2.1 f2.2.1 f2.2.2.1 f2.2.2.2
  unfold RetF at this; rw [h] at this; exact this
theorem fit_v {n d : Int} (h : validB n d = true) : Fit2 n d := by
  obtain ⟨h1, h2, h3⟩ := valid_bd h; unfold Fit2; omega
theorem fit_a {n1 d1 n2 d2 a b : Int} (h : addF n1 d1 n2 d2 = (a, b, 0)) : Fit2 a b := by
  have := add_bd n1 d1 n2 d2; rw [h] at this; unfold Fit2; simp only at this; omega
theorem fit_m {n1 d1 n2 d2 a b : Int} (h : mulF n1 d1 n2 d2 = (a, b, 0)) : Fit2 a b := by
  unfold mulF at h; split at h
  · have := low_bd (n1 * n2) (d1 * d2).natAbs; rw [h] at this; unfold Fit2; simp only at this; omega
  · simp at h
theorem heap_size_alloc' (w : World) (o : Obj) : (w.alloc o).heap.size = w.heap.size + 1 := by simp
set_option maxHeartbeats 4000000 in
set_option maxRecDepth 100000 in
theorem fracField_walk (p q r : Int) (w : World) (hl : LibW w) (l1 : -9223372036854775808 ≤ p) (u1 : p ≤ 9223372036854775807) (l2 : -9223372036854775808 ≤ q) (u2 : q ≤ 9223372036854775807) (l3 : -9223372036854775808 ≤ r) (u3 : r ≤ 9223372036854775807) :
    Calls Tryd.prog 11 #[.int .i64 p, .int .i64 q, .int .i64 r] w fun e w' => e = .returned (.bool true) ∧ Below w.heap.size w w' := by
  have HL := Box.mk hl; clear hl
  go_enter Tryd.func11, Tryd.ntmps11
  have HM : Hid (MemF w w []) := ⟨Below.refl _ _, fun x hx => by cases hx⟩
  go_wp2_with fail
  refine (middle_any p _ l1 u1).mono ?_
  rintro e w1 ⟨a, b, rfl, s1, hb⟩
  have sz1 := hb.size
  replace HM : Hid (MemF w (w1.alloc (.cells #[.int .i64 a, .int .i64 b] 23)) [(w1.heap.size, a, b)]) := (HM.out.next hb).add _ _
  clear hb
  go_wp2_with fail
  refine (middle_any q _ l2 u2).mono ?_
  rintro e w2 ⟨a', b', rfl, s2, hb⟩
  have sz2 := hb.size
  replace HM : Hid (MemF w (w2.alloc (.cells #[.int .i64 a', .int .i64 b'] 23)) [(w2.heap.size, a', b'), (w1.heap.size, a, b)]) := (HM.out.next hb).add _ _
  clear hb
  go_wp2_with fail
  refine (middle_any r _ l3 u3).mono ?_
  rintro e w3 ⟨a'', b'', rfl, s3, hb⟩
  have sz3 := hb.size
  replace HM : Hid (MemF w (w3.alloc (.cells #[.int .i64 a'', .int .i64 b''] 23)) [(w3.heap.size, a'', b''), (w2.heap.size, a', b'), (w1.heap.size, a, b)]) := (HM.out.next hb).add _ _
  clear hb
  simp only [heap_size_alloc'] at sz2 sz3
  obtain ⟨abn, abd, bcn, bcd, xn, xd, q1, q2, q3, q4, mn, md, nn, nd, zn, zd, q5, q6, q7, q8, un, ud, q9, q10, q11, q12⟩ := (field_sm s1 s2 s3).all
  have F1 := Box.mk (fit_v s1.1); have F2 := Box.mk (fit_v s2.1); have F3 := Box.mk (fit_v s3.1)
  have Fab := Box.mk (fit_a q1)
  have Fbc := Box.mk (fit_a q2)
  have Fx := Box.mk (fit_a q3)
  have Fm := Box.mk (fit_m q5)
  have Fn := Box.mk (fit_m q6)
  have Fz := Box.mk (fit_m q7)
  have Fu := Box.mk (fit_m q9)
  have Q1 := Box.mk q1; have Q2 := Box.mk q2; have Q3 := Box.mk q3; have Q4 := Box.mk q4; have Q5 := Box.mk q5; have Q6 := Box.mk q6; have Q7 := Box.mk q7; have Q8 := Box.mk q8; have Q9 := Box.mk q9; have Q10 := Box.mk q10; have Q11 := Box.mk q11; have Q12 := Box.mk q12
  clear q1 q2 q3 q4 q5 q6 q7 q8 q9 q10 q11 q12 s1 s2 s3
  obtain ⟨c90, c91⟩ := HM.out.at_ (g := w3.heap.size) (a := a'') (b := b'') (by simp)
  have f9 := HM.out.fr (g := w3.heap.size) (a := a'') (b := b'') (by simp)
  obtain ⟨c80, c81⟩ := HM.out.at_ (g := w2.heap.size) (a := a') (b := b') (by simp)
  have f8 := HM.out.fr (g := w2.heap.size) (a := a') (b := b') (by simp)
  obtain ⟨c70, c71⟩ := HM.out.at_ (g := w1.heap.size) (a := a) (b := b) (by simp)
  have f7 := HM.out.fr (g := w1.heap.size) (a := a) (b := b) (by simp)
  go_wp2_with fail
  refine (add_e _ Q1.out F1.out F2.out).mono ?_
  rintro e w4 ⟨rfl, hb⟩
  have sz4 := hb.size; (try simp only [heap_size_alloc'] at sz4)
  replace HM : Hid (MemF w w4 [(w3.heap.size, a'', b''), (w2.heap.size, a', b'), (w1.heap.size, a, b)]) := HM.out.next hb
  clear hb
  clear c90 c91 f9 c80 c81 f8 c70 c71 f7
  go_wp2_with fail
  refine (op_any _ _ _).mono ?_
  rintro e w5 ⟨rfl, hb⟩
  have sz5 := hb.size; (try simp only [heap_size_alloc'] at sz5)
  replace HM : Hid (MemF w w5 [(w3.heap.size, a'', b''), (w2.heap.size, a', b'), (w1.heap.size, a, b)]) := HM.out.next hb
  clear hb
  have HM2 : Hid (MemF w (w5.alloc (.cells #[.int .i64 abn, .int .i64 abd] 23)) [(w5.heap.size, abn, abd), (w3.heap.size, a'', b''), (w2.heap.size, a', b'), (w1.heap.size, a, b)]) := HM.out.add _ _
  clear HM; have HM := Lib.hid HM2.out; clear HM2
  obtain ⟨c100, c101⟩ := HM.out.at_ (g := w5.heap.size) (a := abn) (b := abd) (by simp)
  have f10 := HM.out.fr (g := w5.heap.size) (a := abn) (b := abd) (by simp)
  obtain ⟨c90, c91⟩ := HM.out.at_ (g := w3.heap.size) (a := a'') (b := b'') (by simp)
  have f9 := HM.out.fr (g := w3.heap.size) (a := a'') (b := b'') (by simp)
  obtain ⟨c80, c81⟩ := HM.out.at_ (g := w2.heap.size) (a := a') (b := b') (by simp)
  have f8 := HM.out.fr (g := w2.heap.size) (a := a') (b := b') (by simp)
  obtain ⟨c70, c71⟩ := HM.out.at_ (g := w1.heap.size) (a := a) (b := b) (by simp)
  have f7 := HM.out.fr (g := w1.heap.size) (a := a) (b := b) (by simp)
  go_wp2_with fail
  refine (add_e _ Q2.out F2.out F3.out).mono ?_
  rintro e w6 ⟨rfl, hb⟩
  have sz6 := hb.size; (try simp only [heap_size_alloc'] at sz6)
  replace HM : Hid (MemF w w6 [(w5.heap.size, abn, abd), (w3.heap.size, a'', b''), (w2.heap.size, a', b'), (w1.heap.size, a, b)]) := HM.out.next hb
  clear hb
  clear c100 c101 f10 c90 c91 f9 c80 c81 f8 c70 c71 f7
  go_wp2_with fail
  refine (op_any _ _ _).mono ?_
  rintro e w7 ⟨rfl, hb⟩
  have sz7 := hb.size; (try simp only [heap_size_alloc'] at sz7)
  replace HM : Hid (MemF w w7 [(w5.heap.size, abn, abd), (w3.heap.size, a'', b''), (w2.heap.size, a', b'), (w1.heap.size, a, b)]) := HM.out.next hb
  clear hb
  have HM2 : Hid (MemF w (w7.alloc (.cells #[.int .i64 bcn, .int .i64 bcd] 23)) [(w7.heap.size, bcn, bcd), (w5.heap.size, abn, abd), (w3.heap.size, a'', b''), (w2.heap.size, a', b'), (w1.heap.size, a, b)]) := HM.out.add _ _
  clear HM; have HM := Lib.hid HM2.out; clear HM2
  obtain ⟨c120, c121⟩ := HM.out.at_ (g := w7.heap.size) (a := bcn) (b := bcd) (by simp)
  have f12 := HM.out.fr (g := w7.heap.size) (a := bcn) (b := bcd) (by simp)
  obtain ⟨c100, c101⟩ := HM.out.at_ (g := w5.heap.size) (a := abn) (b := abd) (by simp)
  have f10 := HM.out.fr (g := w5.heap.size) (a := abn) (b := abd) (by simp)
  obtain ⟨c90, c91⟩ := HM.out.at_ (g := w3.heap.size) (a := a'') (b := b'') (by simp)
  have f9 := HM.out.fr (g := w3.heap.size) (a := a'') (b := b'') (by simp)
  obtain ⟨c80, c81⟩ := HM.out.at_ (g := w2.heap.size) (a := a') (b := b') (by simp)
  have f8 := HM.out.fr (g := w2.heap.size) (a := a') (b := b') (by simp)
  obtain ⟨c70, c71⟩ := HM.out.at_ (g := w1.heap.size) (a := a) (b := b) (by simp)
  have f7 := HM.out.fr (g := w1.heap.size) (a := a) (b := b) (by simp)
  go_wp2_with fail
  refine (add_e _ Q3.out Fab.out F3.out).mono ?_
  rintro e w8 ⟨rfl, hb⟩
  have sz8 := hb.size; (try simp only [heap_size_alloc'] at sz8)
  replace HM : Hid (MemF w w8 [(w7.heap.size, bcn, bcd), (w5.heap.size, abn, abd), (w3.heap.size, a'', b''), (w2.heap.size, a', b'), (w1.heap.size, a, b)]) := HM.out.next hb
  clear hb
  clear c120 c121 f12 c100 c101 f10 c90 c91 f9 c80 c81 f8 c70 c71 f7
  go_wp2_with fail
  refine (op_any _ _ _).mono ?_
  rintro e w9 ⟨rfl, hb⟩
  have sz9 := hb.size; (try simp only [heap_size_alloc'] at sz9)
  replace HM : Hid (MemF w w9 [(w7.heap.size, bcn, bcd), (w5.heap.size, abn, abd), (w3.heap.size, a'', b''), (w2.heap.size, a', b'), (w1.heap.size, a, b)]) := HM.out.next hb
  clear hb
  have HM2 : Hid (MemF w (w9.alloc (.cells #[.int .i64 xn, .int .i64 xd] 23)) [(w9.heap.size, xn, xd), (w7.heap.size, bcn, bcd), (w5.heap.size, abn, abd), (w3.heap.size, a'', b''), (w2.heap.size, a', b'), (w1.heap.size, a, b)]) := HM.out.add _ _
  clear HM; have HM := Lib.hid HM2.out; clear HM2
  obtain ⟨c140, c141⟩ := HM.out.at_ (g := w9.heap.size) (a := xn) (b := xd) (by simp)
  have f14 := HM.out.fr (g := w9.heap.size) (a := xn) (b := xd) (by simp)
  obtain ⟨c120, c121⟩ := HM.out.at_ (g := w7.heap.size) (a := bcn) (b := bcd) (by simp)
  have f12 := HM.out.fr (g := w7.heap.size) (a := bcn) (b := bcd) (by simp)
  obtain ⟨c100, c101⟩ := HM.out.at_ (g := w5.heap.size) (a := abn) (b := abd) (by simp)
  have f10 := HM.out.fr (g := w5.heap.size) (a := abn) (b := abd) (by simp)
  obtain ⟨c90, c91⟩ := HM.out.at_ (g := w3.heap.size) (a := a'') (b := b'') (by simp)
  have f9 := HM.out.fr (g := w3.heap.size) (a := a'') (b := b'') (by simp)
  obtain ⟨c80, c81⟩ := HM.out.at_ (g := w2.heap.size) (a := a') (b := b') (by simp)
  have f8 := HM.out.fr (g := w2.heap.size) (a := a') (b := b') (by simp)
  obtain ⟨c70, c71⟩ := HM.out.at_ (g := w1.heap.size) (a := a) (b := b) (by simp)
  have f7 := HM.out.fr (g := w1.heap.size) (a := a) (b := b) (by simp)
  go_wp2_with fail
  refine (add_e _ Q4.out F1.out Fbc.out).mono ?_
  rintro e w10 ⟨rfl, hb⟩
  have sz10 := hb.size; (try simp only [heap_size_alloc'] at sz10)
  replace HM : Hid (MemF w w10 [(w9.heap.size, xn, xd), (w7.heap.size, bcn, bcd), (w5.heap.size, abn, abd), (w3.heap.size, a'', b''), (w2.heap.size, a', b'), (w1.heap.size, a, b)]) := HM.out.next hb
  clear hb
  clear c140 c141 f14 c120 c121 f12 c100 c101 f10 c90 c91 f9 c80 c81 f8 c70 c71 f7
  go_wp2_with fail
  refine (op_any _ _ _).mono ?_
  rintro e w11 ⟨rfl, hb⟩
  have sz11 := hb.size; (try simp only [heap_size_alloc'] at sz11)
  replace HM : Hid (MemF w w11 [(w9.heap.size, xn, xd), (w7.heap.size, bcn, bcd), (w5.heap.size, abn, abd), (w3.heap.size, a'', b''), (w2.heap.size, a', b'), (w1.heap.size, a, b)]) := HM.out.next hb
  clear hb
  have HM2 : Hid (MemF w (w11.alloc (.cells #[.int .i64 xn, .int .i64 xd] 23)) [(w11.heap.size, xn, xd), (w9.heap.size, xn, xd), (w7.heap.size, bcn, bcd), (w5.heap.size, abn, abd), (w3.heap.size, a'', b''), (w2.heap.size, a', b'), (w1.heap.size, a, b)]) := HM.out.add _ _
  clear HM; have HM := Lib.hid HM2.out; clear HM2
  obtain ⟨c160, c161⟩ := HM.out.at_ (g := w11.heap.size) (a := xn) (b := xd) (by simp)
  have f16 := HM.out.fr (g := w11.heap.size) (a := xn) (b := xd) (by simp)
  obtain ⟨c140, c141⟩ := HM.out.at_ (g := w9.heap.size) (a := xn) (b := xd) (by simp)
  have f14 := HM.out.fr (g := w9.heap.size) (a := xn) (b := xd) (by simp)
  obtain ⟨c120, c121⟩ := HM.out.at_ (g := w7.heap.size) (a := bcn) (b := bcd) (by simp)
  have f12 := HM.out.fr (g := w7.heap.size) (a := bcn) (b := bcd) (by simp)
  obtain ⟨c100, c101⟩ := HM.out.at_ (g := w5.heap.size) (a := abn) (b := abd) (by simp)
  have f10 := HM.out.fr (g := w5.heap.size) (a := abn) (b := abd) (by simp)
  obtain ⟨c90, c91⟩ := HM.out.at_ (g := w3.heap.size) (a := a'') (b := b'') (by simp)
  have f9 := HM.out.fr (g := w3.heap.size) (a := a'') (b := b'') (by simp)
  obtain ⟨c80, c81⟩ := HM.out.at_ (g := w2.heap.size) (a := a') (b := b') (by simp)
  have f8 := HM.out.fr (g := w2.heap.size) (a := a') (b := b') (by simp)
  obtain ⟨c70, c71⟩ := HM.out.at_ (g := w1.heap.size) (a := a) (b := b) (by simp)
  have f7 := HM.out.fr (g := w1.heap.size) (a := a) (b := b) (by simp)
  go_wp2_with fail
  refine (mul_e _ Q5.out F1.out F2.out).mono ?_
  rintro e w12 ⟨rfl, hb⟩
  have sz12 := hb.size; (try simp only [heap_size_alloc'] at sz12)
  replace HM : Hid (MemF w w12 [(w11.heap.size, xn, xd), (w9.heap.size, xn, xd), (w7.heap.size, bcn, bcd), (w5.heap.size, abn, abd), (w3.heap.size, a'', b''), (w2.heap.size, a', b'), (w1.heap.size, a, b)]) := HM.out.next hb
  clear hb
  clear c160 c161 f16 c140 c141 f14 c120 c121 f12 c100 c101 f10 c90 c91 f9 c80 c81 f8 c70 c71 f7
  go_wp2_with fail
  refine (op_any _ _ _).mono ?_
  rintro e w13 ⟨rfl, hb⟩
  have sz13 := hb.size; (try simp only [heap_size_alloc'] at sz13)
  replace HM : Hid (MemF w w13 [(w11.heap.size, xn, xd), (w9.heap.size, xn, xd), (w7.heap.size, bcn, bcd), (w5.heap.size, abn, abd), (w3.heap.size, a'', b''), (w2.heap.size, a', b'), (w1.heap.size, a, b)]) := HM.out.next hb
  clear hb
  have HM2 : Hid (MemF w (w13.alloc (.cells #[.int .i64 mn, .int .i64 md] 23)) [(w13.heap.size, mn, md), (w11.heap.size, xn, xd), (w9.heap.size, xn, xd), (w7.heap.size, bcn, bcd), (w5.heap.size, abn, abd), (w3.heap.size, a'', b''), (w2.heap.size, a', b'), (w1.heap.size, a, b)]) := HM.out.add _ _
  clear HM; have HM := Lib.hid HM2.out; clear HM2
  obtain ⟨c180, c181⟩ := HM.out.at_ (g := w13.heap.size) (a := mn) (b := md) (by simp)
  have f18 := HM.out.fr (g := w13.heap.size) (a := mn) (b := md) (by simp)
  obtain ⟨c160, c161⟩ := HM.out.at_ (g := w11.heap.size) (a := xn) (b := xd) (by simp)
  have f16 := HM.out.fr (g := w11.heap.size) (a := xn) (b := xd) (by simp)
  obtain ⟨c140, c141⟩ := HM.out.at_ (g := w9.heap.size) (a := xn) (b := xd) (by simp)
  have f14 := HM.out.fr (g := w9.heap.size) (a := xn) (b := xd) (by simp)
  obtain ⟨c120, c121⟩ := HM.out.at_ (g := w7.heap.size) (a := bcn) (b := bcd) (by simp)
  have f12 := HM.out.fr (g := w7.heap.size) (a := bcn) (b := bcd) (by simp)
  obtain ⟨c100, c101⟩ := HM.out.at_ (g := w5.heap.size) (a := abn) (b := abd) (by simp)
  have f10 := HM.out.fr (g := w5.heap.size) (a := abn) (b := abd) (by simp)
  obtain ⟨c90, c91⟩ := HM.out.at_ (g := w3.heap.size) (a := a'') (b := b'') (by simp)
  have f9 := HM.out.fr (g := w3.heap.size) (a := a'') (b := b'') (by simp)
  obtain ⟨c80, c81⟩ := HM.out.at_ (g := w2.heap.size) (a := a') (b := b') (by simp)
  have f8 := HM.out.fr (g := w2.heap.size) (a := a') (b := b') (by simp)
  obtain ⟨c70, c71⟩ := HM.out.at_ (g := w1.heap.size) (a := a) (b := b) (by simp)
  have f7 := HM.out.fr (g := w1.heap.size) (a := a) (b := b) (by simp)
  go_wp2_with fail
  refine (mul_e _ Q6.out F1.out F3.out).mono ?_
  rintro e w14 ⟨rfl, hb⟩
  have sz14 := hb.size; (try simp only [heap_size_alloc'] at sz14)
  replace HM : Hid (MemF w w14 [(w13.heap.size, mn, md), (w11.heap.size, xn, xd), (w9.heap.size, xn, xd), (w7.heap.size, bcn, bcd), (w5.heap.size, abn, abd), (w3.heap.size, a'', b''), (w2.heap.size, a', b'), (w1.heap.size, a, b)]) := HM.out.next hb
  clear hb
  clear c180 c181 f18 c160 c161 f16 c140 c141 f14 c120 c121 f12 c100 c101 f10 c90 c91 f9 c80 c81 f8 c70 c71 f7
  go_wp2_with fail
  refine (op_any _ _ _).mono ?_
  rintro e w15 ⟨rfl, hb⟩
  have sz15 := hb.size; (try simp only [heap_size_alloc'] at sz15)
  replace HM : Hid (MemF w w15 [(w13.heap.size, mn, md), (w11.heap.size, xn, xd), (w9.heap.size, xn, xd), (w7.heap.size, bcn, bcd), (w5.heap.size, abn, abd), (w3.heap.size, a'', b''), (w2.heap.size, a', b'), (w1.heap.size, a, b)]) := HM.out.next hb
  clear hb
  have HM2 : Hid (MemF w (w15.alloc (.cells #[.int .i64 nn, .int .i64 nd] 23)) [(w15.heap.size, nn, nd), (w13.heap.size, mn, md), (w11.heap.size, xn, xd), (w9.heap.size, xn, xd), (w7.heap.size, bcn, bcd), (w5.heap.size, abn, abd), (w3.heap.size, a'', b''), (w2.heap.size, a', b'), (w1.heap.size, a, b)]) := HM.out.add _ _
  clear HM; have HM := Lib.hid HM2.out; clear HM2
  obtain ⟨c190, c191⟩ := HM.out.at_ (g := w15.heap.size) (a := nn) (b := nd) (by simp)
  have f19 := HM.out.fr (g := w15.heap.size) (a := nn) (b := nd) (by simp)
  obtain ⟨c180, c181⟩ := HM.out.at_ (g := w13.heap.size) (a := mn) (b := md) (by simp)
  have f18 := HM.out.fr (g := w13.heap.size) (a := mn) (b := md) (by simp)
  obtain ⟨c160, c161⟩ := HM.out.at_ (g := w11.heap.size) (a := xn) (b := xd) (by simp)
  have f16 := HM.out.fr (g := w11.heap.size) (a := xn) (b := xd) (by simp)
  obtain ⟨c140, c141⟩ := HM.out.at_ (g := w9.heap.size) (a := xn) (b := xd) (by simp)
  have f14 := HM.out.fr (g := w9.heap.size) (a := xn) (b := xd) (by simp)
  obtain ⟨c120, c121⟩ := HM.out.at_ (g := w7.heap.size) (a := bcn) (b := bcd) (by simp)
  have f12 := HM.out.fr (g := w7.heap.size) (a := bcn) (b := bcd) (by simp)
  obtain ⟨c100, c101⟩ := HM.out.at_ (g := w5.heap.size) (a := abn) (b := abd) (by simp)
  have f10 := HM.out.fr (g := w5.heap.size) (a := abn) (b := abd) (by simp)
  obtain ⟨c90, c91⟩ := HM.out.at_ (g := w3.heap.size) (a := a'') (b := b'') (by simp)
  have f9 := HM.out.fr (g := w3.heap.size) (a := a'') (b := b'') (by simp)
  obtain ⟨c80, c81⟩ := HM.out.at_ (g := w2.heap.size) (a := a') (b := b') (by simp)
  have f8 := HM.out.fr (g := w2.heap.size) (a := a') (b := b') (by simp)
  obtain ⟨c70, c71⟩ := HM.out.at_ (g := w1.heap.size) (a := a) (b := b) (by simp)
  have f7 := HM.out.fr (g := w1.heap.size) (a := a) (b := b) (by simp)
  go_wp2_with fail
  refine (mul_e _ Q7.out F1.out Fbc.out).mono ?_
  rintro e w16 ⟨rfl, hb⟩
  have sz16 := hb.size; (try simp only [heap_size_alloc'] at sz16)
  replace HM : Hid (MemF w w16 [(w15.heap.size, nn, nd), (w13.heap.size, mn, md), (w11.heap.size, xn, xd), (w9.heap.size, xn, xd), (w7.heap.size, bcn, bcd), (w5.heap.size, abn, abd), (w3.heap.size, a'', b''), (w2.heap.size, a', b'), (w1.heap.size, a, b)]) := HM.out.next hb
  clear hb
  clear c190 c191 f19 c180 c181 f18 c160 c161 f16 c140 c141 f14 c120 c121 f12 c100 c101 f10 c90 c91 f9 c80 c81 f8 c70 c71 f7
  go_wp2_with fail
  refine (op_any _ _ _).mono ?_
  rintro e w17 ⟨rfl, hb⟩
  have sz17 := hb.size; (try simp only [heap_size_alloc'] at sz17)
  replace HM : Hid (MemF w w17 [(w15.heap.size, nn, nd), (w13.heap.size, mn, md), (w11.heap.size, xn, xd), (w9.heap.size, xn, xd), (w7.heap.size, bcn, bcd), (w5.heap.size, abn, abd), (w3.heap.size, a'', b''), (w2.heap.size, a', b'), (w1.heap.size, a, b)]) := HM.out.next hb
  clear hb
  obtain ⟨c190, c191⟩ := HM.out.at_ (g := w15.heap.size) (a := nn) (b := nd) (by simp)
  have f19 := HM.out.fr (g := w15.heap.size) (a := nn) (b := nd) (by simp)
  obtain ⟨c180, c181⟩ := HM.out.at_ (g := w13.heap.size) (a := mn) (b := md) (by simp)
  have f18 := HM.out.fr (g := w13.heap.size) (a := mn) (b := md) (by simp)
  obtain ⟨c160, c161⟩ := HM.out.at_ (g := w11.heap.size) (a := xn) (b := xd) (by simp)
  have f16 := HM.out.fr (g := w11.heap.size) (a := xn) (b := xd) (by simp)
  obtain ⟨c140, c141⟩ := HM.out.at_ (g := w9.heap.size) (a := xn) (b := xd) (by simp)
  have f14 := HM.out.fr (g := w9.heap.size) (a := xn) (b := xd) (by simp)
  obtain ⟨c120, c121⟩ := HM.out.at_ (g := w7.heap.size) (a := bcn) (b := bcd) (by simp)
  have f12 := HM.out.fr (g := w7.heap.size) (a := bcn) (b := bcd) (by simp)
  obtain ⟨c100, c101⟩ := HM.out.at_ (g := w5.heap.size) (a := abn) (b := abd) (by simp)
  have f10 := HM.out.fr (g := w5.heap.size) (a := abn) (b := abd) (by simp)
  obtain ⟨c90, c91⟩ := HM.out.at_ (g := w3.heap.size) (a := a'') (b := b'') (by simp)
  have f9 := HM.out.fr (g := w3.heap.size) (a := a'') (b := b'') (by simp)
  obtain ⟨c80, c81⟩ := HM.out.at_ (g := w2.heap.size) (a := a') (b := b') (by simp)
  have f8 := HM.out.fr (g := w2.heap.size) (a := a') (b := b') (by simp)
  obtain ⟨c70, c71⟩ := HM.out.at_ (g := w1.heap.size) (a := a) (b := b) (by simp)
  have f7 := HM.out.fr (g := w1.heap.size) (a := a) (b := b) (by simp)
  go_upto_region 13 with (fail)
  clear c190 c191 f19 c180 c181 f18 c160 c161 f16 c140 c141 f14 c120 c121 f12 c100 c101 f10 c90 c91 f9 c80 c81 f8 c70 c71 f7
  have HM2 : Hid (MemF w ((w17.setCell ⟨w9.heap.size, 0, none⟩ (.int .i64 zn)).setCell ⟨w9.heap.size, 1, none⟩ (.int .i64 zd)) [(w9.heap.size, zn, zd), (w15.heap.size, nn, nd), (w13.heap.size, mn, md), (w11.heap.size, xn, xd), (w7.heap.size, bcn, bcd), (w5.heap.size, abn, abd), (w3.heap.size, a'', b''), (w2.heap.size, a', b'), (w1.heap.size, a, b)]) := HM.out.put (g := w9.heap.size) (a := xn) (b := xd) (by simp) (L' := [(w15.heap.size, nn, nd), (w13.heap.size, mn, md), (w11.heap.size, xn, xd), (w7.heap.size, bcn, bcd), (w5.heap.size, abn, abd), (w3.heap.size, a'', b''), (w2.heap.size, a', b'), (w1.heap.size, a, b)]) (by intro x hx; simp only [List.mem_cons, List.not_mem_nil, or_false] at hx; rcases hx with rfl | rfl | rfl | rfl | rfl | rfl | rfl | rfl <;> exact ⟨by simp, by simp only; omega⟩) _ _
  clear HM
  have sz18 : ((w17.setCell ⟨w9.heap.size, 0, none⟩ (.int .i64 zn)).setCell ⟨w9.heap.size, 1, none⟩ (.int .i64 zd)).heap.size = w17.heap.size := by simp [World.setCell]
  generalize ((w17.setCell ⟨w9.heap.size, 0, none⟩ (.int .i64 zn)).setCell ⟨w9.heap.size, 1, none⟩ (.int .i64 zd)) = w18 at HM2 sz18 ⊢
  have HS18 := Box.mk sz18; have sz18' : w17.heap.size ≤ w18.heap.size := by omega
  clear sz18
  have HM := Lib.hid HM2.out; clear HM2
  obtain ⟨c140, c141⟩ := HM.out.at_ (g := w9.heap.size) (a := zn) (b := zd) (by simp)
  have f14 := HM.out.fr (g := w9.heap.size) (a := zn) (b := zd) (by simp)
  obtain ⟨c190, c191⟩ := HM.out.at_ (g := w15.heap.size) (a := nn) (b := nd) (by simp)
  have f19 := HM.out.fr (g := w15.heap.size) (a := nn) (b := nd) (by simp)
  obtain ⟨c180, c181⟩ := HM.out.at_ (g := w13.heap.size) (a := mn) (b := md) (by simp)
  have f18 := HM.out.fr (g := w13.heap.size) (a := mn) (b := md) (by simp)
  obtain ⟨c160, c161⟩ := HM.out.at_ (g := w11.heap.size) (a := xn) (b := xd) (by simp)
  have f16 := HM.out.fr (g := w11.heap.size) (a := xn) (b := xd) (by simp)
  obtain ⟨c120, c121⟩ := HM.out.at_ (g := w7.heap.size) (a := bcn) (b := bcd) (by simp)
  have f12 := HM.out.fr (g := w7.heap.size) (a := bcn) (b := bcd) (by simp)
  obtain ⟨c100, c101⟩ := HM.out.at_ (g := w5.heap.size) (a := abn) (b := abd) (by simp)
  have f10 := HM.out.fr (g := w5.heap.size) (a := abn) (b := abd) (by simp)
  obtain ⟨c90, c91⟩ := HM.out.at_ (g := w3.heap.size) (a := a'') (b := b'') (by simp)
  have f9 := HM.out.fr (g := w3.heap.size) (a := a'') (b := b'') (by simp)
  obtain ⟨c80, c81⟩ := HM.out.at_ (g := w2.heap.size) (a := a') (b := b') (by simp)
  have f8 := HM.out.fr (g := w2.heap.size) (a := a') (b := b') (by simp)
  obtain ⟨c70, c71⟩ := HM.out.at_ (g := w1.heap.size) (a := a) (b := b) (by simp)
  have f7 := HM.out.fr (g := w1.heap.size) (a := a) (b := b) (by simp)
  go_wp2_with fail
  refine (add_e _ Q8.out Fm.out Fn.out).mono ?_
  rintro e w19 ⟨rfl, hb⟩
  have sz19 := hb.size; (try simp only [heap_size_alloc'] at sz19)
  replace HM : Hid (MemF w w19 [(w9.heap.size, zn, zd), (w15.heap.size, nn, nd), (w13.heap.size, mn, md), (w11.heap.size, xn, xd), (w7.heap.size, bcn, bcd), (w5.heap.size, abn, abd), (w3.heap.size, a'', b''), (w2.heap.size, a', b'), (w1.heap.size, a, b)]) := HM.out.next hb
  clear hb
  clear c140 c141 f14 c190 c191 f19 c180 c181 f18 c160 c161 f16 c120 c121 f12 c100 c101 f10 c90 c91 f9 c80 c81 f8 c70 c71 f7
  go_wp2_with fail
  refine (op_any _ _ _).mono ?_
  rintro e w20 ⟨rfl, hb⟩
  have sz20 := hb.size; (try simp only [heap_size_alloc'] at sz20)
  replace HM : Hid (MemF w w20 [(w9.heap.size, zn, zd), (w15.heap.size, nn, nd), (w13.heap.size, mn, md), (w11.heap.size, xn, xd), (w7.heap.size, bcn, bcd), (w5.heap.size, abn, abd), (w3.heap.size, a'', b''), (w2.heap.size, a', b'), (w1.heap.size, a, b)]) := HM.out.next hb
  clear hb
  obtain ⟨c140, c141⟩ := HM.out.at_ (g := w9.heap.size) (a := zn) (b := zd) (by simp)
  have f14 := HM.out.fr (g := w9.heap.size) (a := zn) (b := zd) (by simp)
  obtain ⟨c190, c191⟩ := HM.out.at_ (g := w15.heap.size) (a := nn) (b := nd) (by simp)
  have f19 := HM.out.fr (g := w15.heap.size) (a := nn) (b := nd) (by simp)
  obtain ⟨c180, c181⟩ := HM.out.at_ (g := w13.heap.size) (a := mn) (b := md) (by simp)
  have f18 := HM.out.fr (g := w13.heap.size) (a := mn) (b := md) (by simp)
  obtain ⟨c160, c161⟩ := HM.out.at_ (g := w11.heap.size) (a := xn) (b := xd) (by simp)
  have f16 := HM.out.fr (g := w11.heap.size) (a := xn) (b := xd) (by simp)
  obtain ⟨c120, c121⟩ := HM.out.at_ (g := w7.heap.size) (a := bcn) (b := bcd) (by simp)
  have f12 := HM.out.fr (g := w7.heap.size) (a := bcn) (b := bcd) (by simp)
  obtain ⟨c100, c101⟩ := HM.out.at_ (g := w5.heap.size) (a := abn) (b := abd) (by simp)
  have f10 := HM.out.fr (g := w5.heap.size) (a := abn) (b := abd) (by simp)
  obtain ⟨c90, c91⟩ := HM.out.at_ (g := w3.heap.size) (a := a'') (b := b'') (by simp)
  have f9 := HM.out.fr (g := w3.heap.size) (a := a'') (b := b'') (by simp)
  obtain ⟨c80, c81⟩ := HM.out.at_ (g := w2.heap.size) (a := a') (b := b') (by simp)
  have f8 := HM.out.fr (g := w2.heap.size) (a := a') (b := b') (by simp)
  obtain ⟨c70, c71⟩ := HM.out.at_ (g := w1.heap.size) (a := a) (b := b) (by simp)
  have f7 := HM.out.fr (g := w1.heap.size) (a := a) (b := b) (by simp)
  go_upto_region 14 with (fail)
  clear c140 c141 f14 c190 c191 f19 c180 c181 f18 c160 c161 f16 c120 c121 f12 c100 c101 f10 c90 c91 f9 c80 c81 f8 c70 c71 f7
  have HM2 : Hid (MemF w ((w20.setCell ⟨w11.heap.size, 0, none⟩ (.int .i64 zn)).setCell ⟨w11.heap.size, 1, none⟩ (.int .i64 zd)) [(w11.heap.size, zn, zd), (w9.heap.size, zn, zd), (w15.heap.size, nn, nd), (w13.heap.size, mn, md), (w7.heap.size, bcn, bcd), (w5.heap.size, abn, abd), (w3.heap.size, a'', b''), (w2.heap.size, a', b'), (w1.heap.size, a, b)]) := HM.out.put (g := w11.heap.size) (a := xn) (b := xd) (by simp) (L' := [(w9.heap.size, zn, zd), (w15.heap.size, nn, nd), (w13.heap.size, mn, md), (w7.heap.size, bcn, bcd), (w5.heap.size, abn, abd), (w3.heap.size, a'', b''), (w2.heap.size, a', b'), (w1.heap.size, a, b)]) (by intro x hx; simp only [List.mem_cons, List.not_mem_nil, or_false] at hx; rcases hx with rfl | rfl | rfl | rfl | rfl | rfl | rfl | rfl <;> exact ⟨by simp, by simp only; omega⟩) _ _
  clear HM
  have sz21 : ((w20.setCell ⟨w11.heap.size, 0, none⟩ (.int .i64 zn)).setCell ⟨w11.heap.size, 1, none⟩ (.int .i64 zd)).heap.size = w20.heap.size := by simp [World.setCell]
  generalize ((w20.setCell ⟨w11.heap.size, 0, none⟩ (.int .i64 zn)).setCell ⟨w11.heap.size, 1, none⟩ (.int .i64 zd)) = w21 at HM2 sz21 ⊢
  have HS21 := Box.mk sz21; have sz21' : w20.heap.size ≤ w21.heap.size := by omega
  clear sz21
  have HM := Lib.hid HM2.out; clear HM2
  obtain ⟨c160, c161⟩ := HM.out.at_ (g := w11.heap.size) (a := zn) (b := zd) (by simp)
  have f16 := HM.out.fr (g := w11.heap.size) (a := zn) (b := zd) (by simp)
  obtain ⟨c140, c141⟩ := HM.out.at_ (g := w9.heap.size) (a := zn) (b := zd) (by simp)
  have f14 := HM.out.fr (g := w9.heap.size) (a := zn) (b := zd) (by simp)
  obtain ⟨c190, c191⟩ := HM.out.at_ (g := w15.heap.size) (a := nn) (b := nd) (by simp)
  have f19 := HM.out.fr (g := w15.heap.size) (a := nn) (b := nd) (by simp)
  obtain ⟨c180, c181⟩ := HM.out.at_ (g := w13.heap.size) (a := mn) (b := md) (by simp)
  have f18 := HM.out.fr (g := w13.heap.size) (a := mn) (b := md) (by simp)
  obtain ⟨c120, c121⟩ := HM.out.at_ (g := w7.heap.size) (a := bcn) (b := bcd) (by simp)
  have f12 := HM.out.fr (g := w7.heap.size) (a := bcn) (b := bcd) (by simp)
  obtain ⟨c100, c101⟩ := HM.out.at_ (g := w5.heap.size) (a := abn) (b := abd) (by simp)
  have f10 := HM.out.fr (g := w5.heap.size) (a := abn) (b := abd) (by simp)
  obtain ⟨c90, c91⟩ := HM.out.at_ (g := w3.heap.size) (a := a'') (b := b'') (by simp)
  have f9 := HM.out.fr (g := w3.heap.size) (a := a'') (b := b'') (by simp)
  obtain ⟨c80, c81⟩ := HM.out.at_ (g := w2.heap.size) (a := a') (b := b') (by simp)
  have f8 := HM.out.fr (g := w2.heap.size) (a := a') (b := b') (by simp)
  obtain ⟨c70, c71⟩ := HM.out.at_ (g := w1.heap.size) (a := a) (b := b) (by simp)
  have f7 := HM.out.fr (g := w1.heap.size) (a := a) (b := b) (by simp)
  go_wp2_with fail
  refine (mul_e _ Q9.out Fm.out F3.out).mono ?_
  rintro e w22 ⟨rfl, hb⟩
  have sz22 := hb.size; (try simp only [heap_size_alloc'] at sz22)
  replace HM : Hid (MemF w w22 [(w11.heap.size, zn, zd), (w9.heap.size, zn, zd), (w15.heap.size, nn, nd), (w13.heap.size, mn, md), (w7.heap.size, bcn, bcd), (w5.heap.size, abn, abd), (w3.heap.size, a'', b''), (w2.heap.size, a', b'), (w1.heap.size, a, b)]) := HM.out.next hb
  clear hb
  clear c160 c161 f16 c140 c141 f14 c190 c191 f19 c180 c181 f18 c120 c121 f12 c100 c101 f10 c90 c91 f9 c80 c81 f8 c70 c71 f7
  go_wp2_with fail
  refine (op_any _ _ _).mono ?_
  rintro e w23 ⟨rfl, hb⟩
  have sz23 := hb.size; (try simp only [heap_size_alloc'] at sz23)
  replace HM : Hid (MemF w w23 [(w11.heap.size, zn, zd), (w9.heap.size, zn, zd), (w15.heap.size, nn, nd), (w13.heap.size, mn, md), (w7.heap.size, bcn, bcd), (w5.heap.size, abn, abd), (w3.heap.size, a'', b''), (w2.heap.size, a', b'), (w1.heap.size, a, b)]) := HM.out.next hb
  clear hb
  have HM2 : Hid (MemF w (w23.alloc (.cells #[.int .i64 un, .int .i64 ud] 23)) [(w23.heap.size, un, ud), (w11.heap.size, zn, zd), (w9.heap.size, zn, zd), (w15.heap.size, nn, nd), (w13.heap.size, mn, md), (w7.heap.size, bcn, bcd), (w5.heap.size, abn, abd), (w3.heap.size, a'', b''), (w2.heap.size, a', b'), (w1.heap.size, a, b)]) := HM.out.add _ _
  clear HM; have HM := Lib.hid HM2.out; clear HM2
  obtain ⟨c200, c201⟩ := HM.out.at_ (g := w23.heap.size) (a := un) (b := ud) (by simp)
  have f20 := HM.out.fr (g := w23.heap.size) (a := un) (b := ud) (by simp)
  obtain ⟨c160, c161⟩ := HM.out.at_ (g := w11.heap.size) (a := zn) (b := zd) (by simp)
  have f16 := HM.out.fr (g := w11.heap.size) (a := zn) (b := zd) (by simp)
  obtain ⟨c140, c141⟩ := HM.out.at_ (g := w9.heap.size) (a := zn) (b := zd) (by simp)
  have f14 := HM.out.fr (g := w9.heap.size) (a := zn) (b := zd) (by simp)
  obtain ⟨c190, c191⟩ := HM.out.at_ (g := w15.heap.size) (a := nn) (b := nd) (by simp)
  have f19 := HM.out.fr (g := w15.heap.size) (a := nn) (b := nd) (by simp)
  obtain ⟨c180, c181⟩ := HM.out.at_ (g := w13.heap.size) (a := mn) (b := md) (by simp)
  have f18 := HM.out.fr (g := w13.heap.size) (a := mn) (b := md) (by simp)
  obtain ⟨c120, c121⟩ := HM.out.at_ (g := w7.heap.size) (a := bcn) (b := bcd) (by simp)
  have f12 := HM.out.fr (g := w7.heap.size) (a := bcn) (b := bcd) (by simp)
  obtain ⟨c100, c101⟩ := HM.out.at_ (g := w5.heap.size) (a := abn) (b := abd) (by simp)
  have f10 := HM.out.fr (g := w5.heap.size) (a := abn) (b := abd) (by simp)
  obtain ⟨c90, c91⟩ := HM.out.at_ (g := w3.heap.size) (a := a'') (b := b'') (by simp)
  have f9 := HM.out.fr (g := w3.heap.size) (a := a'') (b := b'') (by simp)
  obtain ⟨c80, c81⟩ := HM.out.at_ (g := w2.heap.size) (a := a') (b := b') (by simp)
  have f8 := HM.out.fr (g := w2.heap.size) (a := a') (b := b') (by simp)
  obtain ⟨c70, c71⟩ := HM.out.at_ (g := w1.heap.size) (a := a) (b := b) (by simp)
  have f7 := HM.out.fr (g := w1.heap.size) (a := a) (b := b) (by simp)
  go_wp2_with fail
  refine (mul_e _ Q10.out Fn.out F2.out).mono ?_
  rintro e w24 ⟨rfl, hb⟩
  have sz24 := hb.size; (try simp only [heap_size_alloc'] at sz24)
  replace HM : Hid (MemF w w24 [(w23.heap.size, un, ud), (w11.heap.size, zn, zd), (w9.heap.size, zn, zd), (w15.heap.size, nn, nd), (w13.heap.size, mn, md), (w7.heap.size, bcn, bcd), (w5.heap.size, abn, abd), (w3.heap.size, a'', b''), (w2.heap.size, a', b'), (w1.heap.size, a, b)]) := HM.out.next hb
  clear hb
  clear c200 c201 f20 c160 c161 f16 c140 c141 f14 c190 c191 f19 c180 c181 f18 c120 c121 f12 c100 c101 f10 c90 c91 f9 c80 c81 f8 c70 c71 f7
  go_wp2_with fail
  refine (op_any _ _ _).mono ?_
  rintro e w25 ⟨rfl, hb⟩
  have sz25 := hb.size; (try simp only [heap_size_alloc'] at sz25)
  replace HM : Hid (MemF w w25 [(w23.heap.size, un, ud), (w11.heap.size, zn, zd), (w9.heap.size, zn, zd), (w15.heap.size, nn, nd), (w13.heap.size, mn, md), (w7.heap.size, bcn, bcd), (w5.heap.size, abn, abd), (w3.heap.size, a'', b''), (w2.heap.size, a', b'), (w1.heap.size, a, b)]) := HM.out.next hb
  clear hb
  have HM2 : Hid (MemF w (w25.alloc (.cells #[.int .i64 un, .int .i64 ud] 23)) [(w25.heap.size, un, ud), (w23.heap.size, un, ud), (w11.heap.size, zn, zd), (w9.heap.size, zn, zd), (w15.heap.size, nn, nd), (w13.heap.size, mn, md), (w7.heap.size, bcn, bcd), (w5.heap.size, abn, abd), (w3.heap.size, a'', b''), (w2.heap.size, a', b'), (w1.heap.size, a, b)]) := HM.out.add _ _
  clear HM; have HM := Lib.hid HM2.out; clear HM2
  obtain ⟨c210, c211⟩ := HM.out.at_ (g := w25.heap.size) (a := un) (b := ud) (by simp)
  have f21 := HM.out.fr (g := w25.heap.size) (a := un) (b := ud) (by simp)
  obtain ⟨c200, c201⟩ := HM.out.at_ (g := w23.heap.size) (a := un) (b := ud) (by simp)
  have f20 := HM.out.fr (g := w23.heap.size) (a := un) (b := ud) (by simp)
  obtain ⟨c160, c161⟩ := HM.out.at_ (g := w11.heap.size) (a := zn) (b := zd) (by simp)
  have f16 := HM.out.fr (g := w11.heap.size) (a := zn) (b := zd) (by simp)
  obtain ⟨c140, c141⟩ := HM.out.at_ (g := w9.heap.size) (a := zn) (b := zd) (by simp)
  have f14 := HM.out.fr (g := w9.heap.size) (a := zn) (b := zd) (by simp)
  obtain ⟨c190, c191⟩ := HM.out.at_ (g := w15.heap.size) (a := nn) (b := nd) (by simp)
  have f19 := HM.out.fr (g := w15.heap.size) (a := nn) (b := nd) (by simp)
  obtain ⟨c180, c181⟩ := HM.out.at_ (g := w13.heap.size) (a := mn) (b := md) (by simp)
  have f18 := HM.out.fr (g := w13.heap.size) (a := mn) (b := md) (by simp)
  obtain ⟨c120, c121⟩ := HM.out.at_ (g := w7.heap.size) (a := bcn) (b := bcd) (by simp)
  have f12 := HM.out.fr (g := w7.heap.size) (a := bcn) (b := bcd) (by simp)
  obtain ⟨c100, c101⟩ := HM.out.at_ (g := w5.heap.size) (a := abn) (b := abd) (by simp)
  have f10 := HM.out.fr (g := w5.heap.size) (a := abn) (b := abd) (by simp)
  obtain ⟨c90, c91⟩ := HM.out.at_ (g := w3.heap.size) (a := a'') (b := b'') (by simp)
  have f9 := HM.out.fr (g := w3.heap.size) (a := a'') (b := b'') (by simp)
  obtain ⟨c80, c81⟩ := HM.out.at_ (g := w2.heap.size) (a := a') (b := b') (by simp)
  have f8 := HM.out.fr (g := w2.heap.size) (a := a') (b := b') (by simp)
  obtain ⟨c70, c71⟩ := HM.out.at_ (g := w1.heap.size) (a := a) (b := b) (by simp)
  have f7 := HM.out.fr (g := w1.heap.size) (a := a) (b := b) (by simp)
  go_wp2_with fail
  refine (sub_e _ Q11.out Fab.out F2.out).mono ?_
  rintro e w26 ⟨rfl, hb⟩
  have sz26 := hb.size; (try simp only [heap_size_alloc'] at sz26)
  replace HM : Hid (MemF w w26 [(w25.heap.size, un, ud), (w23.heap.size, un, ud), (w11.heap.size, zn, zd), (w9.heap.size, zn, zd), (w15.heap.size, nn, nd), (w13.heap.size, mn, md), (w7.heap.size, bcn, bcd), (w5.heap.size, abn, abd), (w3.heap.size, a'', b''), (w2.heap.size, a', b'), (w1.heap.size, a, b)]) := HM.out.next hb
  clear hb
  clear c210 c211 f21 c200 c201 f20 c160 c161 f16 c140 c141 f14 c190 c191 f19 c180 c181 f18 c120 c121 f12 c100 c101 f10 c90 c91 f9 c80 c81 f8 c70 c71 f7
  go_wp2_with fail
  refine (op_any _ _ _).mono ?_
  rintro e w27 ⟨rfl, hb⟩
  have sz27 := hb.size; (try simp only [heap_size_alloc'] at sz27)
  replace HM : Hid (MemF w w27 [(w25.heap.size, un, ud), (w23.heap.size, un, ud), (w11.heap.size, zn, zd), (w9.heap.size, zn, zd), (w15.heap.size, nn, nd), (w13.heap.size, mn, md), (w7.heap.size, bcn, bcd), (w5.heap.size, abn, abd), (w3.heap.size, a'', b''), (w2.heap.size, a', b'), (w1.heap.size, a, b)]) := HM.out.next hb
  clear hb
  have HM2 : Hid (MemF w (w27.alloc (.cells #[.int .i64 a, .int .i64 b] 23)) [(w27.heap.size, a, b), (w25.heap.size, un, ud), (w23.heap.size, un, ud), (w11.heap.size, zn, zd), (w9.heap.size, zn, zd), (w15.heap.size, nn, nd), (w13.heap.size, mn, md), (w7.heap.size, bcn, bcd), (w5.heap.size, abn, abd), (w3.heap.size, a'', b''), (w2.heap.size, a', b'), (w1.heap.size, a, b)]) := HM.out.add _ _
  clear HM; have HM := Lib.hid HM2.out; clear HM2
  rcases Q12.out with ⟨z0, q12⟩ | ⟨z0, q12⟩
  · have Q13 := Box.mk q12; clear q12
    have tz : (a' == 0) = true := by simp [z0]
    clear z0
    obtain ⟨c220, c221⟩ := HM.out.at_ (g := w27.heap.size) (a := a) (b := b) (by simp)
    have f22 := HM.out.fr (g := w27.heap.size) (a := a) (b := b) (by simp)
    obtain ⟨c210, c211⟩ := HM.out.at_ (g := w25.heap.size) (a := un) (b := ud) (by simp)
    have f21 := HM.out.fr (g := w25.heap.size) (a := un) (b := ud) (by simp)
    obtain ⟨c200, c201⟩ := HM.out.at_ (g := w23.heap.size) (a := un) (b := ud) (by simp)
    have f20 := HM.out.fr (g := w23.heap.size) (a := un) (b := ud) (by simp)
    obtain ⟨c160, c161⟩ := HM.out.at_ (g := w11.heap.size) (a := zn) (b := zd) (by simp)
    have f16 := HM.out.fr (g := w11.heap.size) (a := zn) (b := zd) (by simp)
    obtain ⟨c140, c141⟩ := HM.out.at_ (g := w9.heap.size) (a := zn) (b := zd) (by simp)
    have f14 := HM.out.fr (g := w9.heap.size) (a := zn) (b := zd) (by simp)
    obtain ⟨c190, c191⟩ := HM.out.at_ (g := w15.heap.size) (a := nn) (b := nd) (by simp)
    have f19 := HM.out.fr (g := w15.heap.size) (a := nn) (b := nd) (by simp)
    obtain ⟨c180, c181⟩ := HM.out.at_ (g := w13.heap.size) (a := mn) (b := md) (by simp)
    have f18 := HM.out.fr (g := w13.heap.size) (a := mn) (b := md) (by simp)
    obtain ⟨c120, c121⟩ := HM.out.at_ (g := w7.heap.size) (a := bcn) (b := bcd) (by simp)
    have f12 := HM.out.fr (g := w7.heap.size) (a := bcn) (b := bcd) (by simp)
    obtain ⟨c100, c101⟩ := HM.out.at_ (g := w5.heap.size) (a := abn) (b := abd) (by simp)
    have f10 := HM.out.fr (g := w5.heap.size) (a := abn) (b := abd) (by simp)
    obtain ⟨c90, c91⟩ := HM.out.at_ (g := w3.heap.size) (a := a'') (b := b'') (by simp)
    have f9 := HM.out.fr (g := w3.heap.size) (a := a'') (b := b'') (by simp)
    obtain ⟨c80, c81⟩ := HM.out.at_ (g := w2.heap.size) (a := a') (b := b') (by simp)
    have f8 := HM.out.fr (g := w2.heap.size) (a := a') (b := b') (by simp)
    obtain ⟨c70, c71⟩ := HM.out.at_ (g := w1.heap.size) (a := a) (b := b) (by simp)
    have f7 := HM.out.fr (g := w1.heap.size) (a := a) (b := b) (by simp)
    go_wp2_with fail
    refine (div_e _ Q13.out Fm.out F2.out).mono ?_
    rintro e x1 ⟨rfl, hb⟩
    have szx := hb.size; (try simp only [heap_size_alloc'] at szx)
    have HM3 : Hid (MemF w x1 [(w27.heap.size, a, b), (w25.heap.size, un, ud), (w23.heap.size, un, ud), (w11.heap.size, zn, zd), (w9.heap.size, zn, zd), (w15.heap.size, nn, nd), (w13.heap.size, mn, md), (w7.heap.size, bcn, bcd), (w5.heap.size, abn, abd), (w3.heap.size, a'', b''), (w2.heap.size, a', b'), (w1.heap.size, a, b)]) := HM.out.next hb
    have HM4 : Hid (MemF w (x1.alloc (.cells #[.int .i64 0, .int .i64 0] 23)) [(x1.heap.size, 0, 0), (w27.heap.size, a, b), (w25.heap.size, un, ud), (w23.heap.size, un, ud), (w11.heap.size, zn, zd), (w9.heap.size, zn, zd), (w15.heap.size, nn, nd), (w13.heap.size, mn, md), (w7.heap.size, bcn, bcd), (w5.heap.size, abn, abd), (w3.heap.size, a'', b''), (w2.heap.size, a', b'), (w1.heap.size, a, b)]) := HM3.out.add _ _
    clear hb HM HM3
    clear c220 c221 f22 c210 c211 f21 c200 c201 f20 c160 c161 f16 c140 c141 f14 c190 c191 f19 c180 c181 f18 c120 c121 f12 c100 c101 f10 c90 c91 f9 c80 c81 f8 c70 c71 f7
    have HM := Lib.hid HM4.out; clear HM4
    obtain ⟨c230, c231⟩ := HM.out.at_ (g := x1.heap.size) (a := 0) (b := 0) (by simp)
    have f23 := HM.out.fr (g := x1.heap.size) (a := 0) (b := 0) (by simp)
    obtain ⟨c220, c221⟩ := HM.out.at_ (g := w27.heap.size) (a := a) (b := b) (by simp)
    have f22 := HM.out.fr (g := w27.heap.size) (a := a) (b := b) (by simp)
    obtain ⟨c210, c211⟩ := HM.out.at_ (g := w25.heap.size) (a := un) (b := ud) (by simp)
    have f21 := HM.out.fr (g := w25.heap.size) (a := un) (b := ud) (by simp)
    obtain ⟨c200, c201⟩ := HM.out.at_ (g := w23.heap.size) (a := un) (b := ud) (by simp)
    have f20 := HM.out.fr (g := w23.heap.size) (a := un) (b := ud) (by simp)
    obtain ⟨c160, c161⟩ := HM.out.at_ (g := w11.heap.size) (a := zn) (b := zd) (by simp)
    have f16 := HM.out.fr (g := w11.heap.size) (a := zn) (b := zd) (by simp)
    obtain ⟨c140, c141⟩ := HM.out.at_ (g := w9.heap.size) (a := zn) (b := zd) (by simp)
    have f14 := HM.out.fr (g := w9.heap.size) (a := zn) (b := zd) (by simp)
    obtain ⟨c190, c191⟩ := HM.out.at_ (g := w15.heap.size) (a := nn) (b := nd) (by simp)
    have f19 := HM.out.fr (g := w15.heap.size) (a := nn) (b := nd) (by simp)
    obtain ⟨c180, c181⟩ := HM.out.at_ (g := w13.heap.size) (a := mn) (b := md) (by simp)
    have f18 := HM.out.fr (g := w13.heap.size) (a := mn) (b := md) (by simp)
    obtain ⟨c120, c121⟩ := HM.out.at_ (g := w7.heap.size) (a := bcn) (b := bcd) (by simp)
    have f12 := HM.out.fr (g := w7.heap.size) (a := bcn) (b := bcd) (by simp)
    obtain ⟨c100, c101⟩ := HM.out.at_ (g := w5.heap.size) (a := abn) (b := abd) (by simp)
    have f10 := HM.out.fr (g := w5.heap.size) (a := abn) (b := abd) (by simp)
    obtain ⟨c90, c91⟩ := HM.out.at_ (g := w3.heap.size) (a := a'') (b := b'') (by simp)
    have f9 := HM.out.fr (g := w3.heap.size) (a := a'') (b := b'') (by simp)
    obtain ⟨c80, c81⟩ := HM.out.at_ (g := w2.heap.size) (a := a') (b := b') (by simp)
    have f8 := HM.out.fr (g := w2.heap.size) (a := a') (b := b') (by simp)
    obtain ⟨c70, c71⟩ := HM.out.at_ (g := w1.heap.size) (a := a) (b := b) (by simp)
    have f7 := HM.out.fr (g := w1.heap.size) (a := a) (b := b) (by simp)
    go_wp2_with fail
    refine (lives_true _ (HL.out.below HM.out.below)).mono ?_
    rintro e x2 ⟨rfl, hb⟩
    have HM5 : Hid (Below w.heap.size w x2) := (HM.out.next hb).below
    clear hb
    go_wp2_with fail
    go_ret
    exact ⟨rfl, HM5.out⟩
  · have Q13 := Box.mk q12; clear q12
    have tz : (a' == 0) = false := by simp [z0]
    clear z0
    obtain ⟨c220, c221⟩ := HM.out.at_ (g := w27.heap.size) (a := a) (b := b) (by simp)
    have f22 := HM.out.fr (g := w27.heap.size) (a := a) (b := b) (by simp)
    obtain ⟨c210, c211⟩ := HM.out.at_ (g := w25.heap.size) (a := un) (b := ud) (by simp)
    have f21 := HM.out.fr (g := w25.heap.size) (a := un) (b := ud) (by simp)
    obtain ⟨c200, c201⟩ := HM.out.at_ (g := w23.heap.size) (a := un) (b := ud) (by simp)
    have f20 := HM.out.fr (g := w23.heap.size) (a := un) (b := ud) (by simp)
    obtain ⟨c160, c161⟩ := HM.out.at_ (g := w11.heap.size) (a := zn) (b := zd) (by simp)
    have f16 := HM.out.fr (g := w11.heap.size) (a := zn) (b := zd) (by simp)
    obtain ⟨c140, c141⟩ := HM.out.at_ (g := w9.heap.size) (a := zn) (b := zd) (by simp)
    have f14 := HM.out.fr (g := w9.heap.size) (a := zn) (b := zd) (by simp)
    obtain ⟨c190, c191⟩ := HM.out.at_ (g := w15.heap.size) (a := nn) (b := nd) (by simp)
    have f19 := HM.out.fr (g := w15.heap.size) (a := nn) (b := nd) (by simp)
    obtain ⟨c180, c181⟩ := HM.out.at_ (g := w13.heap.size) (a := mn) (b := md) (by simp)
    have f18 := HM.out.fr (g := w13.heap.size) (a := mn) (b := md) (by simp)
    obtain ⟨c120, c121⟩ := HM.out.at_ (g := w7.heap.size) (a := bcn) (b := bcd) (by simp)
    have f12 := HM.out.fr (g := w7.heap.size) (a := bcn) (b := bcd) (by simp)
    obtain ⟨c100, c101⟩ := HM.out.at_ (g := w5.heap.size) (a := abn) (b := abd) (by simp)
    have f10 := HM.out.fr (g := w5.heap.size) (a := abn) (b := abd) (by simp)
    obtain ⟨c90, c91⟩ := HM.out.at_ (g := w3.heap.size) (a := a'') (b := b'') (by simp)
    have f9 := HM.out.fr (g := w3.heap.size) (a := a'') (b := b'') (by simp)
    obtain ⟨c80, c81⟩ := HM.out.at_ (g := w2.heap.size) (a := a') (b := b') (by simp)
    have f8 := HM.out.fr (g := w2.heap.size) (a := a') (b := b') (by simp)
    obtain ⟨c70, c71⟩ := HM.out.at_ (g := w1.heap.size) (a := a) (b := b) (by simp)
    have f7 := HM.out.fr (g := w1.heap.size) (a := a) (b := b) (by simp)
    go_wp2_with fail
    refine (div_e _ Q13.out Fm.out F2.out).mono ?_
    rintro e x1 ⟨rfl, hb⟩
    have szx := hb.size; (try simp only [heap_size_alloc'] at szx)
    have HM3 : Hid (MemF w x1 [(w27.heap.size, a, b), (w25.heap.size, un, ud), (w23.heap.size, un, ud), (w11.heap.size, zn, zd), (w9.heap.size, zn, zd), (w15.heap.size, nn, nd), (w13.heap.size, mn, md), (w7.heap.size, bcn, bcd), (w5.heap.size, abn, abd), (w3.heap.size, a'', b''), (w2.heap.size, a', b'), (w1.heap.size, a, b)]) := HM.out.next hb
    have HM4 : Hid (MemF w (x1.alloc (.cells #[.int .i64 a, .int .i64 b] 23)) [(x1.heap.size, a, b), (w27.heap.size, a, b), (w25.heap.size, un, ud), (w23.heap.size, un, ud), (w11.heap.size, zn, zd), (w9.heap.size, zn, zd), (w15.heap.size, nn, nd), (w13.heap.size, mn, md), (w7.heap.size, bcn, bcd), (w5.heap.size, abn, abd), (w3.heap.size, a'', b''), (w2.heap.size, a', b'), (w1.heap.size, a, b)]) := HM3.out.add _ _
    clear hb HM HM3
    clear c220 c221 f22 c210 c211 f21 c200 c201 f20 c160 c161 f16 c140 c141 f14 c190 c191 f19 c180 c181 f18 c120 c121 f12 c100 c101 f10 c90 c91 f9 c80 c81 f8 c70 c71 f7
    have HM := Lib.hid HM4.out; clear HM4
    obtain ⟨c230, c231⟩ := HM.out.at_ (g := x1.heap.size) (a := a) (b := b) (by simp)
    have f23 := HM.out.fr (g := x1.heap.size) (a := a) (b := b) (by simp)
    obtain ⟨c220, c221⟩ := HM.out.at_ (g := w27.heap.size) (a := a) (b := b) (by simp)
    have f22 := HM.out.fr (g := w27.heap.size) (a := a) (b := b) (by simp)
    obtain ⟨c210, c211⟩ := HM.out.at_ (g := w25.heap.size) (a := un) (b := ud) (by simp)
    have f21 := HM.out.fr (g := w25.heap.size) (a := un) (b := ud) (by simp)
    obtain ⟨c200, c201⟩ := HM.out.at_ (g := w23.heap.size) (a := un) (b := ud) (by simp)
    have f20 := HM.out.fr (g := w23.heap.size) (a := un) (b := ud) (by simp)
    obtain ⟨c160, c161⟩ := HM.out.at_ (g := w11.heap.size) (a := zn) (b := zd) (by simp)
    have f16 := HM.out.fr (g := w11.heap.size) (a := zn) (b := zd) (by simp)
    obtain ⟨c140, c141⟩ := HM.out.at_ (g := w9.heap.size) (a := zn) (b := zd) (by simp)
    have f14 := HM.out.fr (g := w9.heap.size) (a := zn) (b := zd) (by simp)
    obtain ⟨c190, c191⟩ := HM.out.at_ (g := w15.heap.size) (a := nn) (b := nd) (by simp)
    have f19 := HM.out.fr (g := w15.heap.size) (a := nn) (b := nd) (by simp)
    obtain ⟨c180, c181⟩ := HM.out.at_ (g := w13.heap.size) (a := mn) (b := md) (by simp)
    have f18 := HM.out.fr (g := w13.heap.size) (a := mn) (b := md) (by simp)
    obtain ⟨c120, c121⟩ := HM.out.at_ (g := w7.heap.size) (a := bcn) (b := bcd) (by simp)
    have f12 := HM.out.fr (g := w7.heap.size) (a := bcn) (b := bcd) (by simp)
    obtain ⟨c100, c101⟩ := HM.out.at_ (g := w5.heap.size) (a := abn) (b := abd) (by simp)
    have f10 := HM.out.fr (g := w5.heap.size) (a := abn) (b := abd) (by simp)
    obtain ⟨c90, c91⟩ := HM.out.at_ (g := w3.heap.size) (a := a'') (b := b'') (by simp)
    have f9 := HM.out.fr (g := w3.heap.size) (a := a'') (b := b'') (by simp)
    obtain ⟨c80, c81⟩ := HM.out.at_ (g := w2.heap.size) (a := a') (b := b') (by simp)
    have f8 := HM.out.fr (g := w2.heap.size) (a := a') (b := b') (by simp)
    obtain ⟨c70, c71⟩ := HM.out.at_ (g := w1.heap.size) (a := a) (b := b) (by simp)
    have f7 := HM.out.fr (g := w1.heap.size) (a := a) (b := b) (by simp)
    go_wp2_with fail
    refine (lives_true _ (HL.out.below HM.out.below)).mono ?_
    rintro e x2 ⟨rfl, hb⟩
    have HM5 : Hid (Below w.heap.size w x2) := (HM.out.next hb).below
    clear hb
    go_wp2_with fail
    go_ret
    exact ⟨rfl, HM5.out⟩
end Go.Proofs.YtlplligfnbkofaaDoor
