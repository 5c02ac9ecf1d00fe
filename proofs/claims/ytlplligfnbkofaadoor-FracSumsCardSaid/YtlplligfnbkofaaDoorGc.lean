/- FracCompares: the walk. -/
import Derived.Test.YtlplligfnbkofaaDoorGf
import Derived.Test.YtlplligfnbkofaaDoorNe
set_option linter.unusedVariables false
set_option linter.unusedSimpArgs false
namespace Go.Proofs.YtlplligfnbkofaaDoor
open Go.RowKit FracM
theorem MemF.two (w : World) (n1 d1 n2 d2 : Int) : MemF w ((w.alloc (.cells #[.int .i64 n1, .int .i64 d1] 23)).alloc (.cells #[.int .i64 n2, .int .i64 d2] 23)) [(w.heap.size, n1, d1), (w.heap.size + 1, n2, d2)] :=
  ⟨bel2 _ _ _, fun x hx => by
    simp only [List.mem_cons, List.not_mem_nil, or_false] at hx
    rcases hx with rfl | rfl
    · exact ⟨(Blk.new _ _ _).alloc _, Nat.le_refl _⟩
    · exact ⟨Blk.newAt _ _ (by simp), by simp⟩⟩
theorem rcmp_c {n1 d1 n2 d2 c : Int} (w : World) (h : cmpF n1 d1 n2 d2 = c) (f1 : Fit2 n1 d1) (f2 : Fit2 n2 d2) :
    Calls Tryd.prog 33 #[.agg #[.int .i64 n1, .int .i64 d1], .agg #[.int .i64 n2, .int .i64 d2]] w fun e w' => e = .returned (.int .i64 c) ∧ Below w.heap.size w w' := by
  subst h; exact rcompare_any n1 d1 n2 d2 w f1.1 f1.2.1 f1.2.2.1 f1.2.2.2 f2.1 f2.2.1 f2.2.2.1 f2.2.2.2
theorem cmp_three (n1 d1 n2 d2 : Int) : cmpF n1 d1 n2 d2 = -1 ∨ cmpF n1 d1 n2 d2 = 0 ∨ cmpF n1 d1 n2 d2 = 1 := by
  unfold cmpF; split
  · rcases Int.lt_trichotomy (n1 * d2 - n2 * d1) 0 with h | h | h
    · exact .inl (Int.sign_eq_neg_one_of_neg h)
    · exact .inr (.inl (by rw [h]; rfl))
    · exact .inr (.inr (Int.sign_eq_one_of_pos h))
  · exact .inr (.inl rfl)
set_option maxHeartbeats 4000000 in
set_option maxRecDepth 100000 in
theorem fracCompares_walk (n1 d1 n2 d2 : Int) (w : World) (hl : LibW w) (l1 : -9223372036854775808 ≤ n1) (u1 : n1 ≤ 9223372036854775807) (l2 : -9223372036854775808 ≤ d1) (u2 : d1 ≤ 9223372036854775807) (l3 : -9223372036854775808 ≤ n2) (u3 : n2 ≤ 9223372036854775807) (l4 : -9223372036854775808 ≤ d2) (u4 : d2 ≤ 9223372036854775807) :
    Calls Tryd.prog 10 #[.agg #[.int .i64 n1, .int .i64 d1], .agg #[.int .i64 n2, .int .i64 d2]] w fun e w' => e = .returned (.bool true) ∧ Below w.heap.size w w' := by
  have HL := Box.mk hl; clear hl
  have F1 : Box (Fit2 n1 d1) := ⟨⟨l1, u1, l2, u2⟩⟩
  have F2 : Box (Fit2 n2 d2) := ⟨⟨l3, u3, l4, u4⟩⟩
  clear l1 u1 l2 u2 l3 u3 l4 u4
  have hsw := cmp_swap n2 d2 n1 d1
  obtain ⟨x, y, ee, hs⟩ : ∃ x y ee, addF n1 d1 (-n2) d2 = (x, y, ee) := ⟨_, _, _, rfl⟩
  have HS := Box.mk hs
  have hxs : ee = 0 → cmpF n1 d1 n2 d2 = x.sign := fun h => by subst h; exact sub_sign hs
  clear hs
  by_cases he : ee = 0
  · have hx := hxs he
    subst he
    rcases cmp_three n1 d1 n2 d2 with hc | hc | hc
    · have HC : Box (cmpF n1 d1 n2 d2 = (-1)) := ⟨hc⟩
      have HC2 : Box (cmpF n2 d2 n1 d1 = 1) := ⟨by rw [hsw, hc] <;> rfl⟩
      have tx : x < 0 := Int.sign_eq_neg_one_iff_neg.1 (by rw [← hx, hc])
      have t1 : decide (x < 0) = true := by simp <;> omega
      have t2 : decide (0 < x) = false := by simp <;> omega
      clear hx
      clear hc hsw hxs
      go_enter Tryd.func10, Tryd.ntmps10
      have HM := Lib.hid (MemF.two w n1 d1 n2 d2)
      obtain ⟨c00, c01⟩ := HM.out.at_ (g := w.heap.size) (a := n1) (b := d1) (by simp); have f0 := HM.out.fr (g := w.heap.size) (a := n1) (b := d1) (by simp)
      obtain ⟨c10, c11⟩ := HM.out.at_ (g := w.heap.size + 1) (a := n2) (b := d2) (by simp); have f1 := HM.out.fr (g := w.heap.size + 1) (a := n2) (b := d2) (by simp)
      go_wp2_with fail
      refine (cmp_c _ HC.out F1.out F2.out).mono ?_
      rintro e w1 ⟨rfl, hb⟩
      clear c00 c01 f0 c10 c11 f1
      replace HM := Lib.hid (HM.out.next hb)
      have sz1 := hb.size; simp only [heap_size_alloc'] at sz1
      clear hb
      obtain ⟨c00, c01⟩ := HM.out.at_ (g := w.heap.size) (a := n1) (b := d1) (by simp); have f0 := HM.out.fr (g := w.heap.size) (a := n1) (b := d1) (by simp)
      obtain ⟨c10, c11⟩ := HM.out.at_ (g := w.heap.size + 1) (a := n2) (b := d2) (by simp); have f1 := HM.out.fr (g := w.heap.size + 1) (a := n2) (b := d2) (by simp)
      go_wp2_with fail
      refine (sub_e _ HS.out F1.out F2.out).mono ?_
      rintro e w2 ⟨rfl, hb⟩
      clear c00 c01 f0 c10 c11 f1
      have sz2 := hb.size
      have HM2 := Lib.hid ((HM.out.next hb).add x y)
      clear hb HM
      have HM := Lib.hid HM2.out; clear HM2
      obtain ⟨c00, c01⟩ := HM.out.at_ (g := w2.heap.size) (a := x) (b := y) (by simp); have f0 := HM.out.fr (g := w2.heap.size) (a := x) (b := y) (by simp)
      go_upto_region 5 with (fail)
      generalize w2.alloc (.cells #[.int .i64 x, .int .i64 y] 23) = W2 at *
      clear c00 c01 f0
      obtain ⟨c00, c01⟩ := HM.out.at_ (g := w.heap.size) (a := n1) (b := d1) (by simp); have f0 := HM.out.fr (g := w.heap.size) (a := n1) (b := d1) (by simp)
      obtain ⟨c10, c11⟩ := HM.out.at_ (g := w.heap.size + 1) (a := n2) (b := d2) (by simp); have f1 := HM.out.fr (g := w.heap.size + 1) (a := n2) (b := d2) (by simp)
      go_wp2_with fail
      refine (rcmp_c _ HC.out F1.out F2.out).mono ?_
      rintro e w3 ⟨rfl, hb⟩
      clear c00 c01 f0 c10 c11 f1
      replace HM := Lib.hid (HM.out.next hb); clear hb
      obtain ⟨c00, c01⟩ := HM.out.at_ (g := w.heap.size) (a := n1) (b := d1) (by simp); have f0 := HM.out.fr (g := w.heap.size) (a := n1) (b := d1) (by simp)
      obtain ⟨c10, c11⟩ := HM.out.at_ (g := w.heap.size + 1) (a := n2) (b := d2) (by simp); have f1 := HM.out.fr (g := w.heap.size + 1) (a := n2) (b := d2) (by simp)
      go_wp2_with fail
      refine (cmp_c _ HC2.out F2.out F1.out).mono ?_
      rintro e w4 ⟨rfl, hb⟩
      clear c00 c01 f0 c10 c11 f1
      replace HM := Lib.hid (HM.out.next hb); clear hb
      go_wp2_with fail
      refine (lives_true _ (HL.out.below HM.out.below)).mono ?_
      rintro e w5 ⟨rfl, hb⟩
      replace HM := Lib.hid (HM.out.next hb); clear hb
      go_wp2_with fail
      go_ret
      exact ⟨rfl, HM.out.below⟩
    · have HC : Box (cmpF n1 d1 n2 d2 = 0) := ⟨hc⟩
      have HC2 : Box (cmpF n2 d2 n1 d1 = 0) := ⟨by rw [hsw, hc] <;> rfl⟩
      obtain rfl : x = 0 := Int.sign_eq_zero_iff_zero.1 (by rw [← hx, hc])
      clear hx
      clear hc hsw hxs
      go_enter Tryd.func10, Tryd.ntmps10
      have HM := Lib.hid (MemF.two w n1 d1 n2 d2)
      obtain ⟨c00, c01⟩ := HM.out.at_ (g := w.heap.size) (a := n1) (b := d1) (by simp); have f0 := HM.out.fr (g := w.heap.size) (a := n1) (b := d1) (by simp)
      obtain ⟨c10, c11⟩ := HM.out.at_ (g := w.heap.size + 1) (a := n2) (b := d2) (by simp); have f1 := HM.out.fr (g := w.heap.size + 1) (a := n2) (b := d2) (by simp)
      go_wp2_with fail
      refine (cmp_c _ HC.out F1.out F2.out).mono ?_
      rintro e w1 ⟨rfl, hb⟩
      clear c00 c01 f0 c10 c11 f1
      replace HM := Lib.hid (HM.out.next hb)
      have sz1 := hb.size; simp only [heap_size_alloc'] at sz1
      clear hb
      obtain ⟨c00, c01⟩ := HM.out.at_ (g := w.heap.size) (a := n1) (b := d1) (by simp); have f0 := HM.out.fr (g := w.heap.size) (a := n1) (b := d1) (by simp)
      obtain ⟨c10, c11⟩ := HM.out.at_ (g := w.heap.size + 1) (a := n2) (b := d2) (by simp); have f1 := HM.out.fr (g := w.heap.size + 1) (a := n2) (b := d2) (by simp)
      go_wp2_with fail
      refine (sub_e _ HS.out F1.out F2.out).mono ?_
      rintro e w2 ⟨rfl, hb⟩
      clear c00 c01 f0 c10 c11 f1
      have sz2 := hb.size
      have HM2 := Lib.hid ((HM.out.next hb).add 0 y)
      clear hb HM
      have HM := Lib.hid HM2.out; clear HM2
      obtain ⟨c00, c01⟩ := HM.out.at_ (g := w2.heap.size) (a := 0) (b := y) (by simp); have f0 := HM.out.fr (g := w2.heap.size) (a := 0) (b := y) (by simp)
      go_upto_region 5 with (fail)
      generalize w2.alloc (.cells #[.int .i64 0, .int .i64 y] 23) = W2 at *
      clear c00 c01 f0
      obtain ⟨c00, c01⟩ := HM.out.at_ (g := w.heap.size) (a := n1) (b := d1) (by simp); have f0 := HM.out.fr (g := w.heap.size) (a := n1) (b := d1) (by simp)
      obtain ⟨c10, c11⟩ := HM.out.at_ (g := w.heap.size + 1) (a := n2) (b := d2) (by simp); have f1 := HM.out.fr (g := w.heap.size + 1) (a := n2) (b := d2) (by simp)
      go_wp2_with fail
      refine (rcmp_c _ HC.out F1.out F2.out).mono ?_
      rintro e w3 ⟨rfl, hb⟩
      clear c00 c01 f0 c10 c11 f1
      replace HM := Lib.hid (HM.out.next hb); clear hb
      obtain ⟨c00, c01⟩ := HM.out.at_ (g := w.heap.size) (a := n1) (b := d1) (by simp); have f0 := HM.out.fr (g := w.heap.size) (a := n1) (b := d1) (by simp)
      obtain ⟨c10, c11⟩ := HM.out.at_ (g := w.heap.size + 1) (a := n2) (b := d2) (by simp); have f1 := HM.out.fr (g := w.heap.size + 1) (a := n2) (b := d2) (by simp)
      go_wp2_with fail
      refine (cmp_c _ HC2.out F2.out F1.out).mono ?_
      rintro e w4 ⟨rfl, hb⟩
      clear c00 c01 f0 c10 c11 f1
      replace HM := Lib.hid (HM.out.next hb); clear hb
      go_wp2_with fail
      refine (lives_true _ (HL.out.below HM.out.below)).mono ?_
      rintro e w5 ⟨rfl, hb⟩
      replace HM := Lib.hid (HM.out.next hb); clear hb
      go_wp2_with fail
      go_ret
      exact ⟨rfl, HM.out.below⟩
    · have HC : Box (cmpF n1 d1 n2 d2 = 1) := ⟨hc⟩
      have HC2 : Box (cmpF n2 d2 n1 d1 = (-1)) := ⟨by rw [hsw, hc] <;> rfl⟩
      have tx : 0 < x := Int.sign_eq_one_iff_pos.1 (by rw [← hx, hc])
      have t1 : decide (x < 0) = false := by simp <;> omega
      have t2 : decide (0 < x) = true := by simp <;> omega
      clear hx
      clear hc hsw hxs
      go_enter Tryd.func10, Tryd.ntmps10
      have HM := Lib.hid (MemF.two w n1 d1 n2 d2)
      obtain ⟨c00, c01⟩ := HM.out.at_ (g := w.heap.size) (a := n1) (b := d1) (by simp); have f0 := HM.out.fr (g := w.heap.size) (a := n1) (b := d1) (by simp)
      obtain ⟨c10, c11⟩ := HM.out.at_ (g := w.heap.size + 1) (a := n2) (b := d2) (by simp); have f1 := HM.out.fr (g := w.heap.size + 1) (a := n2) (b := d2) (by simp)
      go_wp2_with fail
      refine (cmp_c _ HC.out F1.out F2.out).mono ?_
      rintro e w1 ⟨rfl, hb⟩
      clear c00 c01 f0 c10 c11 f1
      replace HM := Lib.hid (HM.out.next hb)
      have sz1 := hb.size; simp only [heap_size_alloc'] at sz1
      clear hb
      obtain ⟨c00, c01⟩ := HM.out.at_ (g := w.heap.size) (a := n1) (b := d1) (by simp); have f0 := HM.out.fr (g := w.heap.size) (a := n1) (b := d1) (by simp)
      obtain ⟨c10, c11⟩ := HM.out.at_ (g := w.heap.size + 1) (a := n2) (b := d2) (by simp); have f1 := HM.out.fr (g := w.heap.size + 1) (a := n2) (b := d2) (by simp)
      go_wp2_with fail
      refine (sub_e _ HS.out F1.out F2.out).mono ?_
      rintro e w2 ⟨rfl, hb⟩
      clear c00 c01 f0 c10 c11 f1
      have sz2 := hb.size
      have HM2 := Lib.hid ((HM.out.next hb).add x y)
      clear hb HM
      have HM := Lib.hid HM2.out; clear HM2
      obtain ⟨c00, c01⟩ := HM.out.at_ (g := w2.heap.size) (a := x) (b := y) (by simp); have f0 := HM.out.fr (g := w2.heap.size) (a := x) (b := y) (by simp)
      go_upto_region 5 with (fail)
      generalize w2.alloc (.cells #[.int .i64 x, .int .i64 y] 23) = W2 at *
      clear c00 c01 f0
      obtain ⟨c00, c01⟩ := HM.out.at_ (g := w.heap.size) (a := n1) (b := d1) (by simp); have f0 := HM.out.fr (g := w.heap.size) (a := n1) (b := d1) (by simp)
      obtain ⟨c10, c11⟩ := HM.out.at_ (g := w.heap.size + 1) (a := n2) (b := d2) (by simp); have f1 := HM.out.fr (g := w.heap.size + 1) (a := n2) (b := d2) (by simp)
      go_wp2_with fail
      refine (rcmp_c _ HC.out F1.out F2.out).mono ?_
      rintro e w3 ⟨rfl, hb⟩
      clear c00 c01 f0 c10 c11 f1
      replace HM := Lib.hid (HM.out.next hb); clear hb
      obtain ⟨c00, c01⟩ := HM.out.at_ (g := w.heap.size) (a := n1) (b := d1) (by simp); have f0 := HM.out.fr (g := w.heap.size) (a := n1) (b := d1) (by simp)
      obtain ⟨c10, c11⟩ := HM.out.at_ (g := w.heap.size + 1) (a := n2) (b := d2) (by simp); have f1 := HM.out.fr (g := w.heap.size + 1) (a := n2) (b := d2) (by simp)
      go_wp2_with fail
      refine (cmp_c _ HC2.out F2.out F1.out).mono ?_
      rintro e w4 ⟨rfl, hb⟩
      clear c00 c01 f0 c10 c11 f1
      replace HM := Lib.hid (HM.out.next hb); clear hb
      go_wp2_with fail
      refine (lives_true _ (HL.out.below HM.out.below)).mono ?_
      rintro e w5 ⟨rfl, hb⟩
      replace HM := Lib.hid (HM.out.next hb); clear hb
      go_wp2_with fail
      go_ret
      exact ⟨rfl, HM.out.below⟩
  · have t0 : (ee == 0) = false := by simp [he]
    rcases cmp_three n1 d1 n2 d2 with hc | hc | hc
    · have HC : Box (cmpF n1 d1 n2 d2 = (-1)) := ⟨hc⟩
      have HC2 : Box (cmpF n2 d2 n1 d1 = 1) := ⟨by rw [hsw, hc] <;> rfl⟩
      clear he
      clear hc hsw hxs
      go_enter Tryd.func10, Tryd.ntmps10
      have HM := Lib.hid (MemF.two w n1 d1 n2 d2)
      obtain ⟨c00, c01⟩ := HM.out.at_ (g := w.heap.size) (a := n1) (b := d1) (by simp); have f0 := HM.out.fr (g := w.heap.size) (a := n1) (b := d1) (by simp)
      obtain ⟨c10, c11⟩ := HM.out.at_ (g := w.heap.size + 1) (a := n2) (b := d2) (by simp); have f1 := HM.out.fr (g := w.heap.size + 1) (a := n2) (b := d2) (by simp)
      go_wp2_with fail
      refine (cmp_c _ HC.out F1.out F2.out).mono ?_
      rintro e w1 ⟨rfl, hb⟩
      clear c00 c01 f0 c10 c11 f1
      replace HM := Lib.hid (HM.out.next hb)
      have sz1 := hb.size; simp only [heap_size_alloc'] at sz1
      clear hb
      obtain ⟨c00, c01⟩ := HM.out.at_ (g := w.heap.size) (a := n1) (b := d1) (by simp); have f0 := HM.out.fr (g := w.heap.size) (a := n1) (b := d1) (by simp)
      obtain ⟨c10, c11⟩ := HM.out.at_ (g := w.heap.size + 1) (a := n2) (b := d2) (by simp); have f1 := HM.out.fr (g := w.heap.size + 1) (a := n2) (b := d2) (by simp)
      go_wp2_with fail
      refine (sub_e _ HS.out F1.out F2.out).mono ?_
      rintro e w2 ⟨rfl, hb⟩
      clear c00 c01 f0 c10 c11 f1
      have sz2 := hb.size
      have HM2 := Lib.hid ((HM.out.next hb).add x y)
      clear hb HM
      have HM := Lib.hid HM2.out; clear HM2
      obtain ⟨c00, c01⟩ := HM.out.at_ (g := w2.heap.size) (a := x) (b := y) (by simp); have f0 := HM.out.fr (g := w2.heap.size) (a := x) (b := y) (by simp)
      go_upto_region 5 with (fail)
      generalize w2.alloc (.cells #[.int .i64 x, .int .i64 y] 23) = W2 at *
      clear c00 c01 f0
      obtain ⟨c00, c01⟩ := HM.out.at_ (g := w.heap.size) (a := n1) (b := d1) (by simp); have f0 := HM.out.fr (g := w.heap.size) (a := n1) (b := d1) (by simp)
      obtain ⟨c10, c11⟩ := HM.out.at_ (g := w.heap.size + 1) (a := n2) (b := d2) (by simp); have f1 := HM.out.fr (g := w.heap.size + 1) (a := n2) (b := d2) (by simp)
      go_wp2_with fail
      refine (rcmp_c _ HC.out F1.out F2.out).mono ?_
      rintro e w3 ⟨rfl, hb⟩
      clear c00 c01 f0 c10 c11 f1
      replace HM := Lib.hid (HM.out.next hb); clear hb
      obtain ⟨c00, c01⟩ := HM.out.at_ (g := w.heap.size) (a := n1) (b := d1) (by simp); have f0 := HM.out.fr (g := w.heap.size) (a := n1) (b := d1) (by simp)
      obtain ⟨c10, c11⟩ := HM.out.at_ (g := w.heap.size + 1) (a := n2) (b := d2) (by simp); have f1 := HM.out.fr (g := w.heap.size + 1) (a := n2) (b := d2) (by simp)
      go_wp2_with fail
      refine (cmp_c _ HC2.out F2.out F1.out).mono ?_
      rintro e w4 ⟨rfl, hb⟩
      clear c00 c01 f0 c10 c11 f1
      replace HM := Lib.hid (HM.out.next hb); clear hb
      go_wp2_with fail
      refine (lives_true _ (HL.out.below HM.out.below)).mono ?_
      rintro e w5 ⟨rfl, hb⟩
      replace HM := Lib.hid (HM.out.next hb); clear hb
      go_wp2_with fail
      go_ret
      exact ⟨rfl, HM.out.below⟩
    · have HC : Box (cmpF n1 d1 n2 d2 = 0) := ⟨hc⟩
      have HC2 : Box (cmpF n2 d2 n1 d1 = 0) := ⟨by rw [hsw, hc] <;> rfl⟩
      clear he
      clear hc hsw hxs
      go_enter Tryd.func10, Tryd.ntmps10
      have HM := Lib.hid (MemF.two w n1 d1 n2 d2)
      obtain ⟨c00, c01⟩ := HM.out.at_ (g := w.heap.size) (a := n1) (b := d1) (by simp); have f0 := HM.out.fr (g := w.heap.size) (a := n1) (b := d1) (by simp)
      obtain ⟨c10, c11⟩ := HM.out.at_ (g := w.heap.size + 1) (a := n2) (b := d2) (by simp); have f1 := HM.out.fr (g := w.heap.size + 1) (a := n2) (b := d2) (by simp)
      go_wp2_with fail
      refine (cmp_c _ HC.out F1.out F2.out).mono ?_
      rintro e w1 ⟨rfl, hb⟩
      clear c00 c01 f0 c10 c11 f1
      replace HM := Lib.hid (HM.out.next hb)
      have sz1 := hb.size; simp only [heap_size_alloc'] at sz1
      clear hb
      obtain ⟨c00, c01⟩ := HM.out.at_ (g := w.heap.size) (a := n1) (b := d1) (by simp); have f0 := HM.out.fr (g := w.heap.size) (a := n1) (b := d1) (by simp)
      obtain ⟨c10, c11⟩ := HM.out.at_ (g := w.heap.size + 1) (a := n2) (b := d2) (by simp); have f1 := HM.out.fr (g := w.heap.size + 1) (a := n2) (b := d2) (by simp)
      go_wp2_with fail
      refine (sub_e _ HS.out F1.out F2.out).mono ?_
      rintro e w2 ⟨rfl, hb⟩
      clear c00 c01 f0 c10 c11 f1
      have sz2 := hb.size
      have HM2 := Lib.hid ((HM.out.next hb).add x y)
      clear hb HM
      have HM := Lib.hid HM2.out; clear HM2
      obtain ⟨c00, c01⟩ := HM.out.at_ (g := w2.heap.size) (a := x) (b := y) (by simp); have f0 := HM.out.fr (g := w2.heap.size) (a := x) (b := y) (by simp)
      go_upto_region 5 with (fail)
      generalize w2.alloc (.cells #[.int .i64 x, .int .i64 y] 23) = W2 at *
      clear c00 c01 f0
      obtain ⟨c00, c01⟩ := HM.out.at_ (g := w.heap.size) (a := n1) (b := d1) (by simp); have f0 := HM.out.fr (g := w.heap.size) (a := n1) (b := d1) (by simp)
      obtain ⟨c10, c11⟩ := HM.out.at_ (g := w.heap.size + 1) (a := n2) (b := d2) (by simp); have f1 := HM.out.fr (g := w.heap.size + 1) (a := n2) (b := d2) (by simp)
      go_wp2_with fail
      refine (rcmp_c _ HC.out F1.out F2.out).mono ?_
      rintro e w3 ⟨rfl, hb⟩
      clear c00 c01 f0 c10 c11 f1
      replace HM := Lib.hid (HM.out.next hb); clear hb
      obtain ⟨c00, c01⟩ := HM.out.at_ (g := w.heap.size) (a := n1) (b := d1) (by simp); have f0 := HM.out.fr (g := w.heap.size) (a := n1) (b := d1) (by simp)
      obtain ⟨c10, c11⟩ := HM.out.at_ (g := w.heap.size + 1) (a := n2) (b := d2) (by simp); have f1 := HM.out.fr (g := w.heap.size + 1) (a := n2) (b := d2) (by simp)
      go_wp2_with fail
      refine (cmp_c _ HC2.out F2.out F1.out).mono ?_
      rintro e w4 ⟨rfl, hb⟩
      clear c00 c01 f0 c10 c11 f1
      replace HM := Lib.hid (HM.out.next hb); clear hb
      go_wp2_with fail
      refine (lives_true _ (HL.out.below HM.out.below)).mono ?_
      rintro e w5 ⟨rfl, hb⟩
      replace HM := Lib.hid (HM.out.next hb); clear hb
      go_wp2_with fail
      go_ret
      exact ⟨rfl, HM.out.below⟩
    · have HC : Box (cmpF n1 d1 n2 d2 = 1) := ⟨hc⟩
      have HC2 : Box (cmpF n2 d2 n1 d1 = (-1)) := ⟨by rw [hsw, hc] <;> rfl⟩
      clear he
      clear hc hsw hxs
      go_enter Tryd.func10, Tryd.ntmps10
      have HM := Lib.hid (MemF.two w n1 d1 n2 d2)
      obtain ⟨c00, c01⟩ := HM.out.at_ (g := w.heap.size) (a := n1) (b := d1) (by simp); have f0 := HM.out.fr (g := w.heap.size) (a := n1) (b := d1) (by simp)
      obtain ⟨c10, c11⟩ := HM.out.at_ (g := w.heap.size + 1) (a := n2) (b := d2) (by simp); have f1 := HM.out.fr (g := w.heap.size + 1) (a := n2) (b := d2) (by simp)
      go_wp2_with fail
      refine (cmp_c _ HC.out F1.out F2.out).mono ?_
      rintro e w1 ⟨rfl, hb⟩
      clear c00 c01 f0 c10 c11 f1
      replace HM := Lib.hid (HM.out.next hb)
      have sz1 := hb.size; simp only [heap_size_alloc'] at sz1
      clear hb
      obtain ⟨c00, c01⟩ := HM.out.at_ (g := w.heap.size) (a := n1) (b := d1) (by simp); have f0 := HM.out.fr (g := w.heap.size) (a := n1) (b := d1) (by simp)
      obtain ⟨c10, c11⟩ := HM.out.at_ (g := w.heap.size + 1) (a := n2) (b := d2) (by simp); have f1 := HM.out.fr (g := w.heap.size + 1) (a := n2) (b := d2) (by simp)
      go_wp2_with fail
      refine (sub_e _ HS.out F1.out F2.out).mono ?_
      rintro e w2 ⟨rfl, hb⟩
      clear c00 c01 f0 c10 c11 f1
      have sz2 := hb.size
      have HM2 := Lib.hid ((HM.out.next hb).add x y)
      clear hb HM
      have HM := Lib.hid HM2.out; clear HM2
      obtain ⟨c00, c01⟩ := HM.out.at_ (g := w2.heap.size) (a := x) (b := y) (by simp); have f0 := HM.out.fr (g := w2.heap.size) (a := x) (b := y) (by simp)
      go_upto_region 5 with (fail)
      generalize w2.alloc (.cells #[.int .i64 x, .int .i64 y] 23) = W2 at *
      clear c00 c01 f0
      obtain ⟨c00, c01⟩ := HM.out.at_ (g := w.heap.size) (a := n1) (b := d1) (by simp); have f0 := HM.out.fr (g := w.heap.size) (a := n1) (b := d1) (by simp)
      obtain ⟨c10, c11⟩ := HM.out.at_ (g := w.heap.size + 1) (a := n2) (b := d2) (by simp); have f1 := HM.out.fr (g := w.heap.size + 1) (a := n2) (b := d2) (by simp)
      go_wp2_with fail
      refine (rcmp_c _ HC.out F1.out F2.out).mono ?_
      rintro e w3 ⟨rfl, hb⟩
      clear c00 c01 f0 c10 c11 f1
      replace HM := Lib.hid (HM.out.next hb); clear hb
      obtain ⟨c00, c01⟩ := HM.out.at_ (g := w.heap.size) (a := n1) (b := d1) (by simp); have f0 := HM.out.fr (g := w.heap.size) (a := n1) (b := d1) (by simp)
      obtain ⟨c10, c11⟩ := HM.out.at_ (g := w.heap.size + 1) (a := n2) (b := d2) (by simp); have f1 := HM.out.fr (g := w.heap.size + 1) (a := n2) (b := d2) (by simp)
      go_wp2_with fail
      refine (cmp_c _ HC2.out F2.out F1.out).mono ?_
      rintro e w4 ⟨rfl, hb⟩
      clear c00 c01 f0 c10 c11 f1
      replace HM := Lib.hid (HM.out.next hb); clear hb
      go_wp2_with fail
      refine (lives_true _ (HL.out.below HM.out.below)).mono ?_
      rintro e w5 ⟨rfl, hb⟩
      replace HM := Lib.hid (HM.out.next hb); clear hb
      go_wp2_with fail
      go_ret
      exact ⟨rfl, HM.out.below⟩
end Go.Proofs.YtlplligfnbkofaaDoor
