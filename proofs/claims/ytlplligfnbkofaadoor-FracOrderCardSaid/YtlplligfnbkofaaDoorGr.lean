/- FracOrder: the walk. -/
import Derived.Test.YtlplligfnbkofaaDoorGf
import Derived.Test.YtlplligfnbkofaaDoorGo
set_option linter.unusedVariables false
set_option linter.unusedSimpArgs false
namespace Go.Proofs.YtlplligfnbkofaaDoor
open Go.RowKit FracM
theorem Blk.c6 {w : World} {b : Nat} {t : TypeId} {v0 v1 v2 v3 v4 v5 : Value} (h : Blk w b t #[v0, v1, v2, v3, v4, v5]) : w.cell? ⟨b, 0, none⟩ = some v0 ∧ w.cell? ⟨b, 1, none⟩ = some v1 ∧ w.cell? ⟨b, 2, none⟩ = some v2 ∧ w.cell? ⟨b, 3, none⟩ = some v3 ∧ w.cell? ⟨b, 4, none⟩ = some v4 ∧ w.cell? ⟨b, 5, none⟩ = some v5 := by
  unfold Blk at h; simp [World.cell?, h]

set_option maxHeartbeats 4000000 in
set_option maxRecDepth 100000 in
theorem fracOrder_walk (a0 a1 a2 a3 a4 a5 : Int) (w : World) (hl : LibW w) (l0 : -9223372036854775808 ≤ a0) (u0 : a0 ≤ 9223372036854775807) (l1 : -9223372036854775808 ≤ a1) (u1 : a1 ≤ 9223372036854775807) (l2 : -9223372036854775808 ≤ a2) (u2 : a2 ≤ 9223372036854775807) (l3 : -9223372036854775808 ≤ a3) (u3 : a3 ≤ 9223372036854775807) (l4 : -9223372036854775808 ≤ a4) (u4 : a4 ≤ 9223372036854775807) (l5 : -9223372036854775808 ≤ a5) (u5 : a5 ≤ 9223372036854775807) :
    Calls Tryd.prog 7 #[.agg #[.int .i64 a0, .int .i64 a1, .int .i64 a2, .int .i64 a3, .int .i64 a4, .int .i64 a5]] w fun e w' => e = .returned (.bool true) ∧ Below w.heap.size w w' := by
  have HL := Box.mk hl; clear hl
  go_enter Tryd.func7, Tryd.ntmps7
  have HM : Hid (MemF w (w.alloc (.cells #[.int .i64 a0, .int .i64 a1, .int .i64 a2, .int .i64 a3, .int .i64 a4, .int .i64 a5] 37)) []) := ⟨bel1 _ _, fun x hx => by cases hx⟩
  have HA : Hid (Blk (w.alloc (.cells #[.int .i64 a0, .int .i64 a1, .int .i64 a2, .int .i64 a3, .int .i64 a4, .int .i64 a5] 37)) w.heap.size 37 #[.int .i64 a0, .int .i64 a1, .int .i64 a2, .int .i64 a3, .int .i64 a4, .int .i64 a5]) := Blk.new _ _ _
  obtain ⟨x0, x1, x2, x3, x4, x5⟩ := HA.out.c6; have xf := HA.out.frozen
  go_wp2_with fail
  refine (of_any _ _ _ l0 u0 l1 u1).mono ?_
  rintro e w1 ⟨a, b, rfl, v1, hb⟩
  have sz1 := hb.size; simp only [heap_size_alloc'] at sz1
  replace HM : Hid (MemF w (w1.alloc (.cells #[.int .i64 a, .int .i64 b] 23)) [(w1.heap.size, a, b)]) := (HM.out.next hb).add _ _
  replace HA : Hid (Blk (w1.alloc (.cells #[.int .i64 a, .int .i64 b] 23)) w.heap.size 37 #[.int .i64 a0, .int .i64 a1, .int .i64 a2, .int .i64 a3, .int .i64 a4, .int .i64 a5]) := (HA.out.below hb).alloc _
  clear hb x0 x1 x2 x3 x4 x5 xf
  obtain ⟨x0, x1, x2, x3, x4, x5⟩ := HA.out.c6; have xf := HA.out.frozen
  go_wp2_with fail
  refine (of_any _ _ _ l2 u2 l3 u3).mono ?_
  rintro e w2 ⟨a', b', rfl, v2, hb⟩
  have sz2 := hb.size; simp only [heap_size_alloc'] at sz2
  replace HM : Hid (MemF w (w2.alloc (.cells #[.int .i64 a', .int .i64 b'] 23)) [(w2.heap.size, a', b'), (w1.heap.size, a, b)]) := (HM.out.next hb).add _ _
  replace HA : Hid (Blk (w2.alloc (.cells #[.int .i64 a', .int .i64 b'] 23)) w.heap.size 37 #[.int .i64 a0, .int .i64 a1, .int .i64 a2, .int .i64 a3, .int .i64 a4, .int .i64 a5]) := (HA.out.below hb).alloc _
  clear hb x0 x1 x2 x3 x4 x5 xf
  obtain ⟨x0, x1, x2, x3, x4, x5⟩ := HA.out.c6; have xf := HA.out.frozen
  go_wp2_with fail
  refine (of_any _ _ _ l4 u4 l5 u5).mono ?_
  rintro e w3 ⟨a'', b'', rfl, v3, hb⟩
  have sz3 := hb.size; simp only [heap_size_alloc'] at sz3
  replace HM : Hid (MemF w (w3.alloc (.cells #[.int .i64 a'', .int .i64 b''] 23)) [(w3.heap.size, a'', b''), (w2.heap.size, a', b'), (w1.heap.size, a, b)]) := (HM.out.next hb).add _ _
  replace HA : Hid (Blk (w3.alloc (.cells #[.int .i64 a'', .int .i64 b''] 23)) w.heap.size 37 #[.int .i64 a0, .int .i64 a1, .int .i64 a2, .int .i64 a3, .int .i64 a4, .int .i64 a5]) := (HA.out.below hb).alloc _
  clear hb x0 x1 x2 x3 x4 x5 xf
  clear HA l0 u0 l1 u1 l2 u2 l3 u3 l4 u4 l5 u5
  have F1 := Box.mk (fit_v v1); have F2 := Box.mk (fit_v v2); have F3 := Box.mk (fit_v v3)
  have V1 := Box.mk v1; have V2 := Box.mk v2; have V3 := Box.mk v3; clear v1 v2 v3
  obtain ⟨c00, c01⟩ := HM.out.at_ (g := w1.heap.size) (a := a) (b := b) (by simp); have f0 := HM.out.fr (g := w1.heap.size) (a := a) (b := b) (by simp)
  obtain ⟨c10, c11⟩ := HM.out.at_ (g := w2.heap.size) (a := a') (b := b') (by simp); have f1 := HM.out.fr (g := w2.heap.size) (a := a') (b := b') (by simp)
  obtain ⟨c20, c21⟩ := HM.out.at_ (g := w3.heap.size) (a := a'') (b := b'') (by simp); have f2 := HM.out.fr (g := w3.heap.size) (a := a'') (b := b'') (by simp)
  go_wp2_with fail
  refine (cmp_c _ rfl F1.out F2.out).mono ?_
  rintro e w4 ⟨rfl, hb⟩
  have sz4 := hb.size; simp only [heap_size_alloc'] at sz4
  clear c00 c01 f0 c10 c11 f1 c20 c21 f2
  replace HM : Hid (MemF w w4 [(w3.heap.size, a'', b''), (w2.heap.size, a', b'), (w1.heap.size, a, b)]) := HM.out.next hb
  clear hb
  obtain ⟨c00, c01⟩ := HM.out.at_ (g := w1.heap.size) (a := a) (b := b) (by simp); have f0 := HM.out.fr (g := w1.heap.size) (a := a) (b := b) (by simp)
  obtain ⟨c10, c11⟩ := HM.out.at_ (g := w2.heap.size) (a := a') (b := b') (by simp); have f1 := HM.out.fr (g := w2.heap.size) (a := a') (b := b') (by simp)
  obtain ⟨c20, c21⟩ := HM.out.at_ (g := w3.heap.size) (a := a'') (b := b'') (by simp); have f2 := HM.out.fr (g := w3.heap.size) (a := a'') (b := b'') (by simp)
  generalize hd : cmpF a b a' b' = d
  have HD := Box.mk hd; clear hd
  go_upto_region 5 with (fail)
  go_cut [50] (fun s wx => s = .bool false ∧ MemF w wx [(w3.heap.size, a'', b''), (w2.heap.size, a', b'), (w1.heap.size, a, b)])
  case first =>
    rcases Int.lt_trichotomy d 0 with td0 | td0 | td0
    · skip
      have hq : ¬ (a = a' ∧ b = b') := fun h => by have := (cmp_zero V1.out V2.out).2 h; rw [HD.out] at this; omega
      have tn : ¬ d = 0 := by omega
      have tnb : (d == 0) = false := by simp [tn]
      have td : d ≤ 0 := by omega
      clear td0
      by_cases ha : a = a'
      · have hbn : ¬ b = b' := fun h => hq ⟨ha, h⟩
        clear hq
        obtain rfl : a = a' := ha
        generalize hx : cmpF a b' a'' b'' = x
        generalize hy : cmpF a b a'' b'' = y
        have ht : d ≤ 0 → x ≤ 0 → y ≤ 0 := by subst hx; subst hy; exact fun h1 h2 => cmp_trans V1.out V2.out V3.out (by rw [HD.out]; exact h1) h2
        have HX := Box.mk hx; have HY := Box.mk hy; clear hx hy
        go_wp2_with fail
        refine (cmp_c _ HX.out F2.out F3.out).mono ?_
        rintro e w5 ⟨rfl, hb⟩
        clear c00 c01 f0 c10 c11 f1 c20 c21 f2
        replace HM : Hid (MemF w w5 [(w3.heap.size, a'', b''), (w2.heap.size, a, b'), (w1.heap.size, a, b)]) := HM.out.next hb
        clear hb
        obtain ⟨c00, c01⟩ := HM.out.at_ (g := w1.heap.size) (a := a) (b := b) (by simp); have f0 := HM.out.fr (g := w1.heap.size) (a := a) (b := b) (by simp)
        obtain ⟨c10, c11⟩ := HM.out.at_ (g := w2.heap.size) (a := a) (b := b') (by simp); have f1 := HM.out.fr (g := w2.heap.size) (a := a) (b := b') (by simp)
        obtain ⟨c20, c21⟩ := HM.out.at_ (g := w3.heap.size) (a := a'') (b := b'') (by simp); have f2 := HM.out.fr (g := w3.heap.size) (a := a'') (b := b'') (by simp)
        by_cases tx : x ≤ 0
        · have ty := ht td tx; clear ht
          have ty2 : ¬ 0 < y := by omega
          go_wp2_with fail
          refine (cmp_c _ HY.out F1.out F3.out).mono ?_
          rintro e w6 ⟨rfl, hb⟩
          clear c00 c01 f0 c10 c11 f1 c20 c21 f2
          replace HM : Hid (MemF w w6 [(w3.heap.size, a'', b''), (w2.heap.size, a, b'), (w1.heap.size, a, b)]) := HM.out.next hb
          clear hb
          go_wp2_with fail
          go_meet
          exact ⟨by first | rfl | (simp; omega), HM.out⟩
        · clear ht
          have tx2 : 0 < x := by omega
          go_wp2_with fail
          go_meet
          exact ⟨by first | rfl | (simp; omega), HM.out⟩
      · clear hq
        generalize hx : cmpF a' b' a'' b'' = x
        generalize hy : cmpF a b a'' b'' = y
        have ht : d ≤ 0 → x ≤ 0 → y ≤ 0 := by subst hx; subst hy; exact fun h1 h2 => cmp_trans V1.out V2.out V3.out (by rw [HD.out]; exact h1) h2
        have HX := Box.mk hx; have HY := Box.mk hy; clear hx hy
        go_wp2_with fail
        refine (cmp_c _ HX.out F2.out F3.out).mono ?_
        rintro e w5 ⟨rfl, hb⟩
        clear c00 c01 f0 c10 c11 f1 c20 c21 f2
        replace HM : Hid (MemF w w5 [(w3.heap.size, a'', b''), (w2.heap.size, a', b'), (w1.heap.size, a, b)]) := HM.out.next hb
        clear hb
        obtain ⟨c00, c01⟩ := HM.out.at_ (g := w1.heap.size) (a := a) (b := b) (by simp); have f0 := HM.out.fr (g := w1.heap.size) (a := a) (b := b) (by simp)
        obtain ⟨c10, c11⟩ := HM.out.at_ (g := w2.heap.size) (a := a') (b := b') (by simp); have f1 := HM.out.fr (g := w2.heap.size) (a := a') (b := b') (by simp)
        obtain ⟨c20, c21⟩ := HM.out.at_ (g := w3.heap.size) (a := a'') (b := b'') (by simp); have f2 := HM.out.fr (g := w3.heap.size) (a := a'') (b := b'') (by simp)
        by_cases tx : x ≤ 0
        · have ty := ht td tx; clear ht
          have ty2 : ¬ 0 < y := by omega
          go_wp2_with fail
          refine (cmp_c _ HY.out F1.out F3.out).mono ?_
          rintro e w6 ⟨rfl, hb⟩
          clear c00 c01 f0 c10 c11 f1 c20 c21 f2
          replace HM : Hid (MemF w w6 [(w3.heap.size, a'', b''), (w2.heap.size, a', b'), (w1.heap.size, a, b)]) := HM.out.next hb
          clear hb
          go_wp2_with fail
          go_meet
          exact ⟨by first | rfl | (simp; omega), HM.out⟩
        · clear ht
          have tx2 : 0 < x := by omega
          go_wp2_with fail
          go_meet
          exact ⟨by first | rfl | (simp; omega), HM.out⟩
    · obtain ⟨ha, hb⟩ := (cmp_zero V1.out V2.out).1 (HD.out.trans td0)
      have td : d ≤ 0 := by omega
      obtain rfl : a = a' := ha
      obtain rfl : b = b' := hb
      have HT := Box.mk td0; clear td0
      obtain rfl : 0 = d := HT.out.symm
      generalize hx : cmpF a b a'' b'' = x
      generalize hy : cmpF a b a'' b'' = y
      have ht : (0 : Int) ≤ 0 → x ≤ 0 → y ≤ 0 := by subst hx; subst hy; exact fun h1 h2 => cmp_trans V1.out V2.out V3.out (by rw [HD.out]; exact h1) h2
      have HX := Box.mk hx; have HY := Box.mk hy; clear hx hy
      go_wp2_with fail
      refine (cmp_c _ HX.out F2.out F3.out).mono ?_
      rintro e w5 ⟨rfl, hb⟩
      clear c00 c01 f0 c10 c11 f1 c20 c21 f2
      replace HM : Hid (MemF w w5 [(w3.heap.size, a'', b''), (w2.heap.size, a, b), (w1.heap.size, a, b)]) := HM.out.next hb
      clear hb
      obtain ⟨c00, c01⟩ := HM.out.at_ (g := w1.heap.size) (a := a) (b := b) (by simp); have f0 := HM.out.fr (g := w1.heap.size) (a := a) (b := b) (by simp)
      obtain ⟨c10, c11⟩ := HM.out.at_ (g := w2.heap.size) (a := a) (b := b) (by simp); have f1 := HM.out.fr (g := w2.heap.size) (a := a) (b := b) (by simp)
      obtain ⟨c20, c21⟩ := HM.out.at_ (g := w3.heap.size) (a := a'') (b := b'') (by simp); have f2 := HM.out.fr (g := w3.heap.size) (a := a'') (b := b'') (by simp)
      by_cases tx : x ≤ 0
      · have ty := ht td tx; clear ht
        have ty2 : ¬ 0 < y := by omega
        go_wp2_with fail
        refine (cmp_c _ HY.out F1.out F3.out).mono ?_
        rintro e w6 ⟨rfl, hb⟩
        clear c00 c01 f0 c10 c11 f1 c20 c21 f2
        replace HM : Hid (MemF w w6 [(w3.heap.size, a'', b''), (w2.heap.size, a, b), (w1.heap.size, a, b)]) := HM.out.next hb
        clear hb
        go_wp2_with fail
        go_meet
        exact ⟨by first | rfl | (simp; omega), HM.out⟩
      · clear ht
        have tx2 : 0 < x := by omega
        go_wp2_with fail
        go_meet
        exact ⟨by first | rfl | (simp; omega), HM.out⟩
    · skip
      have hq : ¬ (a = a' ∧ b = b') := fun h => by have := (cmp_zero V1.out V2.out).2 h; rw [HD.out] at this; omega
      have tn : ¬ d = 0 := by omega
      have tnb : (d == 0) = false := by simp [tn]
      have td : ¬ d ≤ 0 := by omega
      by_cases ha : a = a'
      · have hbn : ¬ b = b' := fun h => hq ⟨ha, h⟩
        clear hq
        obtain rfl : a = a' := ha
        go_wp2_with fail
        go_meet
        exact ⟨by first | rfl | (simp; omega), HM.out⟩
      · clear hq
        go_wp2_with fail
        go_meet
        exact ⟨by first | rfl | (simp; omega), HM.out⟩
  case rest =>
    obtain ⟨rfl, hm⟩ := hcut
    rename_i wc
    replace HM : Hid (MemF w wc [(w3.heap.size, a'', b''), (w2.heap.size, a', b'), (w1.heap.size, a, b)]) := hm; clear hm
    have szc : w3.heap.size < wc.heap.size := (HM.out.blk (w3.heap.size, a'', b'') (by simp)).1.lt
    clear c00 c01 f0 c10 c11 f1 c20 c21 f2
    obtain ⟨x1, y1, e1, q1⟩ : ∃ x y e, addF a b a'' b'' = (x, y, e) := ⟨_, _, _, rfl⟩
    obtain ⟨x2, y2, e2, q2⟩ : ∃ x y e, addF a' b' a'' b'' = (x, y, e) := ⟨_, _, _, rfl⟩
    obtain ⟨x3, y3, e3, q3⟩ : ∃ x y e, mulF a b a'' b'' = (x, y, e) := ⟨_, _, _, rfl⟩
    obtain ⟨x4, y4, e4, q4⟩ : ∃ x y e, mulF a' b' a'' b'' = (x, y, e) := ⟨_, _, _, rfl⟩
    have Q1 := Box.mk q1; clear q1
    have Q2 := Box.mk q2; clear q2
    have Q3 := Box.mk q3; clear q3
    have Q4 := Box.mk q4; clear q4
    obtain ⟨c00, c01⟩ := HM.out.at_ (g := w1.heap.size) (a := a) (b := b) (by simp); have f0 := HM.out.fr (g := w1.heap.size) (a := a) (b := b) (by simp)
    obtain ⟨c10, c11⟩ := HM.out.at_ (g := w2.heap.size) (a := a') (b := b') (by simp); have f1 := HM.out.fr (g := w2.heap.size) (a := a') (b := b') (by simp)
    obtain ⟨c20, c21⟩ := HM.out.at_ (g := w3.heap.size) (a := a'') (b := b'') (by simp); have f2 := HM.out.fr (g := w3.heap.size) (a := a'') (b := b'') (by simp)
    go_wp2_with fail
    refine (add_e _ Q1.out F1.out F3.out).mono ?_
    rintro e w5 ⟨rfl, hb⟩
    have szw5 := hb.size; (try simp only [heap_size_alloc'] at szw5)
    clear c00 c01 f0 c10 c11 f1 c20 c21 f2
    replace HM : Hid (MemF w (w5.alloc (.cells #[.int .i64 x1, .int .i64 y1] 23)) [(w5.heap.size, x1, y1), (w3.heap.size, a'', b''), (w2.heap.size, a', b'), (w1.heap.size, a, b)]) := (HM.out.next hb).add _ _
    clear hb
    obtain ⟨c00, c01⟩ := HM.out.at_ (g := w1.heap.size) (a := a) (b := b) (by simp); have f0 := HM.out.fr (g := w1.heap.size) (a := a) (b := b) (by simp)
    obtain ⟨c10, c11⟩ := HM.out.at_ (g := w2.heap.size) (a := a') (b := b') (by simp); have f1 := HM.out.fr (g := w2.heap.size) (a := a') (b := b') (by simp)
    obtain ⟨c20, c21⟩ := HM.out.at_ (g := w3.heap.size) (a := a'') (b := b'') (by simp); have f2 := HM.out.fr (g := w3.heap.size) (a := a'') (b := b'') (by simp)
    obtain ⟨c30, c31⟩ := HM.out.at_ (g := w5.heap.size) (a := x1) (b := y1) (by simp); have f3 := HM.out.fr (g := w5.heap.size) (a := x1) (b := y1) (by simp)
    go_wp2_with fail
    refine (add_e _ Q2.out F2.out F3.out).mono ?_
    rintro e w6 ⟨rfl, hb⟩
    have szw6 := hb.size; (try simp only [heap_size_alloc'] at szw6)
    clear c00 c01 f0 c10 c11 f1 c20 c21 f2 c30 c31 f3
    replace HM : Hid (MemF w (w6.alloc (.cells #[.int .i64 x2, .int .i64 y2] 23)) [(w6.heap.size, x2, y2), (w5.heap.size, x1, y1), (w3.heap.size, a'', b''), (w2.heap.size, a', b'), (w1.heap.size, a, b)]) := (HM.out.next hb).add _ _
    clear hb
    obtain ⟨c00, c01⟩ := HM.out.at_ (g := w1.heap.size) (a := a) (b := b) (by simp); have f0 := HM.out.fr (g := w1.heap.size) (a := a) (b := b) (by simp)
    obtain ⟨c10, c11⟩ := HM.out.at_ (g := w2.heap.size) (a := a') (b := b') (by simp); have f1 := HM.out.fr (g := w2.heap.size) (a := a') (b := b') (by simp)
    obtain ⟨c20, c21⟩ := HM.out.at_ (g := w3.heap.size) (a := a'') (b := b'') (by simp); have f2 := HM.out.fr (g := w3.heap.size) (a := a'') (b := b'') (by simp)
    obtain ⟨c30, c31⟩ := HM.out.at_ (g := w5.heap.size) (a := x1) (b := y1) (by simp); have f3 := HM.out.fr (g := w5.heap.size) (a := x1) (b := y1) (by simp)
    obtain ⟨c40, c41⟩ := HM.out.at_ (g := w6.heap.size) (a := x2) (b := y2) (by simp); have f4 := HM.out.fr (g := w6.heap.size) (a := x2) (b := y2) (by simp)
    go_upto_region 9 with (fail)
    go_cut [75] (fun s wx => s = .bool false ∧ MemF w wx [(w6.heap.size, x2, y2), (w5.heap.size, x1, y1), (w3.heap.size, a'', b''), (w2.heap.size, a', b'), (w1.heap.size, a, b)])
    case first =>
      by_cases t1 : e1 = 0
      · subst t1
        by_cases t2 : e2 = 0
        · subst t2
          have HC := Box.mk ((cmp_add V1.out V2.out V3.out Q1.out Q2.out).trans HD.out)
          have G1 := Box.mk (fit_a Q1.out); have G2 := Box.mk (fit_a Q2.out)
          go_wp2_with fail
          refine (cmp_c _ HC.out G1.out G2.out).mono ?_
          rintro e w7 ⟨rfl, hb⟩
          clear c00 c01 f0 c10 c11 f1 c20 c21 f2 c30 c31 f3 c40 c41 f4
          replace HM : Hid (MemF w w7 [(w6.heap.size, x2, y2), (w5.heap.size, x1, y1), (w3.heap.size, a'', b''), (w2.heap.size, a', b'), (w1.heap.size, a, b)]) := HM.out.next hb
          clear hb
          go_wp2_with fail
          go_meet
          exact ⟨by first | rfl | (simp; omega), HM.out⟩
        · have t3 : (e2 == 0) = false := by simp [t2]
          go_wp2_with fail
          go_meet
          exact ⟨by first | rfl | (simp; omega), HM.out⟩
      · have t3 : (e1 == 0) = false := by simp [t1]
        go_wp2_with fail
        go_meet
        exact ⟨by first | rfl | (simp; omega), HM.out⟩
    case rest =>
      obtain ⟨rfl, hm⟩ := hcut
      rename World => wd
      replace HM : Hid (MemF w wd [(w6.heap.size, x2, y2), (w5.heap.size, x1, y1), (w3.heap.size, a'', b''), (w2.heap.size, a', b'), (w1.heap.size, a, b)]) := hm; clear hm
      have szd : w6.heap.size < wd.heap.size := (HM.out.blk (w6.heap.size, x2, y2) (by simp)).1.lt
      clear c00 c01 f0 c10 c11 f1 c20 c21 f2 c30 c31 f3 c40 c41 f4
      obtain ⟨c00, c01⟩ := HM.out.at_ (g := w1.heap.size) (a := a) (b := b) (by simp); have f0 := HM.out.fr (g := w1.heap.size) (a := a) (b := b) (by simp)
      obtain ⟨c10, c11⟩ := HM.out.at_ (g := w2.heap.size) (a := a') (b := b') (by simp); have f1 := HM.out.fr (g := w2.heap.size) (a := a') (b := b') (by simp)
      obtain ⟨c20, c21⟩ := HM.out.at_ (g := w3.heap.size) (a := a'') (b := b'') (by simp); have f2 := HM.out.fr (g := w3.heap.size) (a := a'') (b := b'') (by simp)
      obtain ⟨c30, c31⟩ := HM.out.at_ (g := w5.heap.size) (a := x1) (b := y1) (by simp); have f3 := HM.out.fr (g := w5.heap.size) (a := x1) (b := y1) (by simp)
      obtain ⟨c40, c41⟩ := HM.out.at_ (g := w6.heap.size) (a := x2) (b := y2) (by simp); have f4 := HM.out.fr (g := w6.heap.size) (a := x2) (b := y2) (by simp)
      go_wp2_with fail
      refine (mul_e _ Q3.out F1.out F3.out).mono ?_
      rintro e w7 ⟨rfl, hb⟩
      have szw7 := hb.size
      clear c00 c01 f0 c10 c11 f1 c20 c21 f2 c30 c31 f3 c40 c41 f4
      replace HM : Hid (MemF w w7 [(w6.heap.size, x2, y2), (w5.heap.size, x1, y1), (w3.heap.size, a'', b''), (w2.heap.size, a', b'), (w1.heap.size, a, b)]) := HM.out.next hb
      clear hb
      obtain ⟨c00, c01⟩ := HM.out.at_ (g := w1.heap.size) (a := a) (b := b) (by simp); have f0 := HM.out.fr (g := w1.heap.size) (a := a) (b := b) (by simp)
      obtain ⟨c10, c11⟩ := HM.out.at_ (g := w2.heap.size) (a := a') (b := b') (by simp); have f1 := HM.out.fr (g := w2.heap.size) (a := a') (b := b') (by simp)
      obtain ⟨c20, c21⟩ := HM.out.at_ (g := w3.heap.size) (a := a'') (b := b'') (by simp); have f2 := HM.out.fr (g := w3.heap.size) (a := a'') (b := b'') (by simp)
      obtain ⟨c30, c31⟩ := HM.out.at_ (g := w5.heap.size) (a := x1) (b := y1) (by simp); have f3 := HM.out.fr (g := w5.heap.size) (a := x1) (b := y1) (by simp)
      obtain ⟨c40, c41⟩ := HM.out.at_ (g := w6.heap.size) (a := x2) (b := y2) (by simp); have f4 := HM.out.fr (g := w6.heap.size) (a := x2) (b := y2) (by simp)
      go_upto_region 12 with (fail)
      clear c00 c01 f0 c10 c11 f1 c20 c21 f2 c30 c31 f3 c40 c41 f4
      have HM2 : Hid (MemF w ((w7.setCell ⟨w5.heap.size, 0, none⟩ (.int .i64 x3)).setCell ⟨w5.heap.size, 1, none⟩ (.int .i64 y3)) [(w5.heap.size, x3, y3), (w6.heap.size, x2, y2), (w3.heap.size, a'', b''), (w2.heap.size, a', b'), (w1.heap.size, a, b)]) := HM.out.put (g := w5.heap.size) (a := x1) (b := y1) (by simp) (L' := [(w6.heap.size, x2, y2), (w3.heap.size, a'', b''), (w2.heap.size, a', b'), (w1.heap.size, a, b)]) (by intro x hx; simp only [List.mem_cons, List.not_mem_nil, or_false] at hx; rcases hx with rfl | rfl | rfl | rfl <;> exact ⟨by simp, by simp only; omega⟩) _ _
      clear HM
      have szw8 : w7.heap.size ≤ ((w7.setCell ⟨w5.heap.size, 0, none⟩ (.int .i64 x3)).setCell ⟨w5.heap.size, 1, none⟩ (.int .i64 y3)).heap.size := by simp [World.setCell]
      generalize ((w7.setCell ⟨w5.heap.size, 0, none⟩ (.int .i64 x3)).setCell ⟨w5.heap.size, 1, none⟩ (.int .i64 y3)) = w8 at HM2 szw8 ⊢
      have HM := Lib.hid HM2.out; clear HM2
      obtain ⟨c00, c01⟩ := HM.out.at_ (g := w1.heap.size) (a := a) (b := b) (by simp); have f0 := HM.out.fr (g := w1.heap.size) (a := a) (b := b) (by simp)
      obtain ⟨c10, c11⟩ := HM.out.at_ (g := w2.heap.size) (a := a') (b := b') (by simp); have f1 := HM.out.fr (g := w2.heap.size) (a := a') (b := b') (by simp)
      obtain ⟨c20, c21⟩ := HM.out.at_ (g := w3.heap.size) (a := a'') (b := b'') (by simp); have f2 := HM.out.fr (g := w3.heap.size) (a := a'') (b := b'') (by simp)
      obtain ⟨c30, c31⟩ := HM.out.at_ (g := w6.heap.size) (a := x2) (b := y2) (by simp); have f3 := HM.out.fr (g := w6.heap.size) (a := x2) (b := y2) (by simp)
      obtain ⟨c40, c41⟩ := HM.out.at_ (g := w5.heap.size) (a := x3) (b := y3) (by simp); have f4 := HM.out.fr (g := w5.heap.size) (a := x3) (b := y3) (by simp)
      go_wp2_with fail
      refine (mul_e _ Q4.out F2.out F3.out).mono ?_
      rintro e w9 ⟨rfl, hb⟩
      have szw9 := hb.size
      clear c00 c01 f0 c10 c11 f1 c20 c21 f2 c30 c31 f3 c40 c41 f4
      replace HM : Hid (MemF w w9 [(w5.heap.size, x3, y3), (w6.heap.size, x2, y2), (w3.heap.size, a'', b''), (w2.heap.size, a', b'), (w1.heap.size, a, b)]) := HM.out.next hb
      clear hb
      obtain ⟨c00, c01⟩ := HM.out.at_ (g := w1.heap.size) (a := a) (b := b) (by simp); have f0 := HM.out.fr (g := w1.heap.size) (a := a) (b := b) (by simp)
      obtain ⟨c10, c11⟩ := HM.out.at_ (g := w2.heap.size) (a := a') (b := b') (by simp); have f1 := HM.out.fr (g := w2.heap.size) (a := a') (b := b') (by simp)
      obtain ⟨c20, c21⟩ := HM.out.at_ (g := w3.heap.size) (a := a'') (b := b'') (by simp); have f2 := HM.out.fr (g := w3.heap.size) (a := a'') (b := b'') (by simp)
      obtain ⟨c30, c31⟩ := HM.out.at_ (g := w6.heap.size) (a := x2) (b := y2) (by simp); have f3 := HM.out.fr (g := w6.heap.size) (a := x2) (b := y2) (by simp)
      obtain ⟨c40, c41⟩ := HM.out.at_ (g := w5.heap.size) (a := x3) (b := y3) (by simp); have f4 := HM.out.fr (g := w5.heap.size) (a := x3) (b := y3) (by simp)
      go_upto_region 13 with (fail)
      clear c00 c01 f0 c10 c11 f1 c20 c21 f2 c30 c31 f3 c40 c41 f4
      have HM2 : Hid (MemF w ((w9.setCell ⟨w6.heap.size, 0, none⟩ (.int .i64 x4)).setCell ⟨w6.heap.size, 1, none⟩ (.int .i64 y4)) [(w6.heap.size, x4, y4), (w5.heap.size, x3, y3), (w3.heap.size, a'', b''), (w2.heap.size, a', b'), (w1.heap.size, a, b)]) := HM.out.put (g := w6.heap.size) (a := x2) (b := y2) (by simp) (L' := [(w5.heap.size, x3, y3), (w3.heap.size, a'', b''), (w2.heap.size, a', b'), (w1.heap.size, a, b)]) (by intro x hx; simp only [List.mem_cons, List.not_mem_nil, or_false] at hx; rcases hx with rfl | rfl | rfl | rfl <;> exact ⟨by simp, by simp only; omega⟩) _ _
      clear HM
      have szw10 : w9.heap.size ≤ ((w9.setCell ⟨w6.heap.size, 0, none⟩ (.int .i64 x4)).setCell ⟨w6.heap.size, 1, none⟩ (.int .i64 y4)).heap.size := by simp [World.setCell]
      generalize ((w9.setCell ⟨w6.heap.size, 0, none⟩ (.int .i64 x4)).setCell ⟨w6.heap.size, 1, none⟩ (.int .i64 y4)) = w10 at HM2 szw10 ⊢
      have HM := Lib.hid HM2.out; clear HM2
      obtain ⟨c00, c01⟩ := HM.out.at_ (g := w1.heap.size) (a := a) (b := b) (by simp); have f0 := HM.out.fr (g := w1.heap.size) (a := a) (b := b) (by simp)
      obtain ⟨c10, c11⟩ := HM.out.at_ (g := w2.heap.size) (a := a') (b := b') (by simp); have f1 := HM.out.fr (g := w2.heap.size) (a := a') (b := b') (by simp)
      obtain ⟨c20, c21⟩ := HM.out.at_ (g := w3.heap.size) (a := a'') (b := b'') (by simp); have f2 := HM.out.fr (g := w3.heap.size) (a := a'') (b := b'') (by simp)
      obtain ⟨c30, c31⟩ := HM.out.at_ (g := w5.heap.size) (a := x3) (b := y3) (by simp); have f3 := HM.out.fr (g := w5.heap.size) (a := x3) (b := y3) (by simp)
      obtain ⟨c40, c41⟩ := HM.out.at_ (g := w6.heap.size) (a := x4) (b := y4) (by simp); have f4 := HM.out.fr (g := w6.heap.size) (a := x4) (b := y4) (by simp)
      by_cases t1 : e3 = 0
      case neg =>
        have t2 : (e3 == 0) = false := by simp [t1]
        have t3 : (e3 != 0) = true := by simp [t1]
        go_wp2_with fail
        refine (lives_true _ (HL.out.below HM.out.below)).mono ?_
        rintro e x2' ⟨rfl, hb⟩
        have HM5 : Hid (Below w.heap.size w x2') := (HM.out.next hb).below
        clear hb
        go_wp2_with fail
        go_ret
        exact ⟨rfl, HM5.out⟩
      subst t1
      by_cases t1 : e4 = 0
      case neg =>
        have t2 : (e4 == 0) = false := by simp [t1]
        have t3 : (e4 != 0) = true := by simp [t1]
        go_wp2_with fail
        refine (lives_true _ (HL.out.below HM.out.below)).mono ?_
        rintro e x2' ⟨rfl, hb⟩
        have HM5 : Hid (Below w.heap.size w x2') := (HM.out.next hb).below
        clear hb
        go_wp2_with fail
        go_ret
        exact ⟨rfl, HM5.out⟩
      subst t1
      by_cases t1 : a'' ≤ 0
      · skip
        go_wp2_with fail
        refine (lives_true _ (HL.out.below HM.out.below)).mono ?_
        rintro e x2' ⟨rfl, hb⟩
        have HM5 : Hid (Below w.heap.size w x2') := (HM.out.next hb).below
        clear hb
        go_wp2_with fail
        go_ret
        exact ⟨rfl, HM5.out⟩
      have HC := Box.mk ((cmp_mul V1.out V2.out V3.out (by omega) Q3.out Q4.out).trans HD.out)
      have G1 := Box.mk (fit_m Q3.out); have G2 := Box.mk (fit_m Q4.out)
      go_wp2_with fail
      refine (cmp_c _ HC.out G1.out G2.out).mono ?_
      rintro e w11 ⟨rfl, hb⟩
      clear c00 c01 f0 c10 c11 f1 c20 c21 f2 c30 c31 f3 c40 c41 f4
      replace HM : Hid (MemF w w11 [(w6.heap.size, x4, y4), (w5.heap.size, x3, y3), (w3.heap.size, a'', b''), (w2.heap.size, a', b'), (w1.heap.size, a, b)]) := HM.out.next hb
      clear hb
      obtain ⟨c00, c01⟩ := HM.out.at_ (g := w1.heap.size) (a := a) (b := b) (by simp); have f0 := HM.out.fr (g := w1.heap.size) (a := a) (b := b) (by simp)
      obtain ⟨c10, c11⟩ := HM.out.at_ (g := w2.heap.size) (a := a') (b := b') (by simp); have f1 := HM.out.fr (g := w2.heap.size) (a := a') (b := b') (by simp)
      obtain ⟨c20, c21⟩ := HM.out.at_ (g := w3.heap.size) (a := a'') (b := b'') (by simp); have f2 := HM.out.fr (g := w3.heap.size) (a := a'') (b := b'') (by simp)
      obtain ⟨c30, c31⟩ := HM.out.at_ (g := w5.heap.size) (a := x3) (b := y3) (by simp); have f3 := HM.out.fr (g := w5.heap.size) (a := x3) (b := y3) (by simp)
      obtain ⟨c40, c41⟩ := HM.out.at_ (g := w6.heap.size) (a := x4) (b := y4) (by simp); have f4 := HM.out.fr (g := w6.heap.size) (a := x4) (b := y4) (by simp)
      go_wp2_with fail
      refine (lives_true _ (HL.out.below HM.out.below)).mono ?_
      rintro e x2' ⟨rfl, hb⟩
      have HM5 : Hid (Below w.heap.size w x2') := (HM.out.next hb).below
      clear hb
      go_wp2_with fail
      go_ret
      exact ⟨rfl, HM5.out⟩
end Go.Proofs.YtlplligfnbkofaaDoor
