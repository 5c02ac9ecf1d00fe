/- Contracts, packed: Qv Yd Ke. -/
import Derived.Test.YtcifgobinleldaaGreatDoorPt2
import Derived.Test.YtcifgobinleldaaGreatDoorPt5
import Derived.Test.YtcifgobinleldaaGreatDoorPt6
set_option linter.unusedVariables false
set_option linter.unusedSimpArgs false
namespace Go.Proofs.YtcifgobinleldaaGreatDoor
section
open Go.RowKit


set_option maxHeartbeats 1000000 in
theorem vmat_any (nm vl : ByteArray) (kd : Int) (w : World) (hs1 : nm.size ≤ maxLen) (hs2 : vl.size ≤ maxLen) :
    Calls Tryz.prog 191 #[.agg #[.string nm, .int .i64 kd, .string vl]] w fun e w' => e = .returned (.bool (vmatB (nm, kd, vl))) ∧ Below w.heap.size w w' := by
  by_cases hk : 0 ≤ kd ∧ kd ≤ 2
  · have hk3 : kd = 0 ∨ kd = 1 ∨ kd = 2 := by omega
    clear hk
    by_cases hn : nameB nm = true
    · rcases hk3 with rfl | rfl | rfl
      · have E : Hid (vmatB (nm, 0, vl) = valueB vl) := by simp [vmatB, hn, Hid]
        go_enter Tryz.func191, Tryz.ntmps191
        go_wp2_with (first | (go_at_call 80; refine (name_any _ _ hs1).mono ?_; rintro e w1 ⟨rfl, hb1⟩; obtain ⟨hc1, hf1⟩ := bcell hb1; have hz1 := hb1.size; have HB : Hid (Below w.heap.size w w1) := (bel1 _ _).trans (hb1.mono (by simp)); clear hb1) | (go_at_call 127; refine (value_any _ _ hs2).mono ?_; rintro e w2 ⟨rfl, hb2⟩; have HB2 : Hid (Below w.heap.size w w2) := HB.out.trans (hb2.mono HB.out.size); clear hb2))
        go_ret
        exact ⟨ret_bool (by rw [E.out]), HB2.out⟩
      · have E : Hid (vmatB (nm, 1, vl) = valueB vl) := by simp [vmatB, hn, Hid]
        go_enter Tryz.func191, Tryz.ntmps191
        go_wp2_with (first | (go_at_call 80; refine (name_any _ _ hs1).mono ?_; rintro e w1 ⟨rfl, hb1⟩; obtain ⟨hc1, hf1⟩ := bcell hb1; have hz1 := hb1.size; have HB : Hid (Below w.heap.size w w1) := (bel1 _ _).trans (hb1.mono (by simp)); clear hb1) | (go_at_call 127; refine (value_any _ _ hs2).mono ?_; rintro e w2 ⟨rfl, hb2⟩; have HB2 : Hid (Below w.heap.size w w2) := HB.out.trans (hb2.mono HB.out.size); clear hb2))
        go_ret
        exact ⟨ret_bool (by rw [E.out]), HB2.out⟩
      · have E : Hid (vmatB (nm, 2, vl) = valueB vl) := by simp [vmatB, hn, Hid]
        go_enter Tryz.func191, Tryz.ntmps191
        go_wp2_with (first | (go_at_call 80; refine (name_any _ _ hs1).mono ?_; rintro e w1 ⟨rfl, hb1⟩; obtain ⟨hc1, hf1⟩ := bcell hb1; have hz1 := hb1.size; have HB : Hid (Below w.heap.size w w1) := (bel1 _ _).trans (hb1.mono (by simp)); clear hb1) | (go_at_call 127; refine (value_any _ _ hs2).mono ?_; rintro e w2 ⟨rfl, hb2⟩; have HB2 : Hid (Below w.heap.size w w2) := HB.out.trans (hb2.mono HB.out.size); clear hb2))
        go_ret
        exact ⟨ret_bool (by rw [E.out]), HB2.out⟩
    · have hn' : nameB nm = false := by simpa using hn
      clear hn
      rcases hk3 with rfl | rfl | rfl
      · have E : Hid (vmatB (nm, 0, vl) = false) := by simp [vmatB, hn', Hid]
        go_enter Tryz.func191, Tryz.ntmps191
        go_wp2_with (first | (go_at_call 80; refine (name_any _ _ hs1).mono ?_; rintro e w1 ⟨rfl, hb1⟩; obtain ⟨hc1, hf1⟩ := bcell hb1; have hz1 := hb1.size; have HB : Hid (Below w.heap.size w w1) := (bel1 _ _).trans (hb1.mono (by simp)); clear hb1) | (go_at_call 127; refine (value_any _ _ hs2).mono ?_; rintro e w2 ⟨rfl, hb2⟩; have HB2 : Hid (Below w.heap.size w w2) := HB.out.trans (hb2.mono HB.out.size); clear hb2))
        go_ret
        exact ⟨ret_bool (by rw [E.out]), HB.out⟩
      · have E : Hid (vmatB (nm, 1, vl) = false) := by simp [vmatB, hn', Hid]
        go_enter Tryz.func191, Tryz.ntmps191
        go_wp2_with (first | (go_at_call 80; refine (name_any _ _ hs1).mono ?_; rintro e w1 ⟨rfl, hb1⟩; obtain ⟨hc1, hf1⟩ := bcell hb1; have hz1 := hb1.size; have HB : Hid (Below w.heap.size w w1) := (bel1 _ _).trans (hb1.mono (by simp)); clear hb1) | (go_at_call 127; refine (value_any _ _ hs2).mono ?_; rintro e w2 ⟨rfl, hb2⟩; have HB2 : Hid (Below w.heap.size w w2) := HB.out.trans (hb2.mono HB.out.size); clear hb2))
        go_ret
        exact ⟨ret_bool (by rw [E.out]), HB.out⟩
      · have E : Hid (vmatB (nm, 2, vl) = false) := by simp [vmatB, hn', Hid]
        go_enter Tryz.func191, Tryz.ntmps191
        go_wp2_with (first | (go_at_call 80; refine (name_any _ _ hs1).mono ?_; rintro e w1 ⟨rfl, hb1⟩; obtain ⟨hc1, hf1⟩ := bcell hb1; have hz1 := hb1.size; have HB : Hid (Below w.heap.size w w1) := (bel1 _ _).trans (hb1.mono (by simp)); clear hb1) | (go_at_call 127; refine (value_any _ _ hs2).mono ?_; rintro e w2 ⟨rfl, hb2⟩; have HB2 : Hid (Below w.heap.size w w2) := HB.out.trans (hb2.mono HB.out.size); clear hb2))
        go_ret
        exact ⟨ret_bool (by rw [E.out]), HB.out⟩
  · have E : Hid (vmatB (nm, kd, vl) = false) := by simp [vmatB, Hid]; omega
    have h0' : (kd == 0) = false := by simp; omega
    have h1' : (kd == 1) = false := by simp; omega
    have h2' : (kd == 2) = false := by simp; omega
    clear hk
    go_enter Tryz.func191, Tryz.ntmps191
    go_wp2_with (first | (go_at_call 80; refine (name_any _ _ hs1).mono ?_; rintro e w1 ⟨rfl, hb1⟩; obtain ⟨hc1, hf1⟩ := bcell hb1; have hz1 := hb1.size; have HB : Hid (Below w.heap.size w w1) := (bel1 _ _).trans (hb1.mono (by simp)); clear hb1) | (go_at_call 127; refine (value_any _ _ hs2).mono ?_; rintro e w2 ⟨rfl, hb2⟩; have HB2 : Hid (Below w.heap.size w w2) := HB.out.trans (hb2.mono HB.out.size); clear hb2))
    go_ret
    exact ⟨ret_bool (by rw [E.out]), bel1 _ _⟩
end
section
open Go.RowKit

set_option maxHeartbeats 1000000 in
theorem check_req (w : World) (hw : WordsW w) : Calls Tryz.prog 107 #[reqV] w (RetB (.int .i64 0) w) := by
  have HW := Box.mk hw; clear hw
  go_enter Tryz.func107, Tryz.ntmps107
  have HB := Lib.hid (Q1.start w)
  go_upto_region 1 with (fail)
  generalize w.alloc (.cells reqC 33) = W at HB ⊢
  obtain ⟨c0, c1, c2, c3, c4, c5, c6, c7, c8, c9, c10⟩ := HB.out.c
  go_wp2_with fail
  refine (shaped_req _).mono ?_
  rintro e w1 ⟨rfl, hb⟩
  clear c0 c1 c2 c3 c4 c5 c6 c7 c8 c9 c10
  have HB2 := Lib.hid (HB.out.next hb); clear HB hb
  have HB := Lib.hid HB2.out; clear HB2
  obtain ⟨c0, c1, c2, c3, c4, c5, c6, c7, c8, c9, c10⟩ := HB.out.c
  go_wp2_with fail
  refine (named_req _ (HW.out.below HB.out.below)).mono ?_
  rintro e w2 ⟨rfl, hb⟩
  clear c0 c1 c2 c3 c4 c5 c6 c7 c8 c9 c10
  have HB2 := Lib.hid (HB.out.next hb); clear HB hb
  have HB := Lib.hid HB2.out; clear HB2
  obtain ⟨c0, c1, c2, c3, c4, c5, c6, c7, c8, c9, c10⟩ := HB.out.c
  go_wp2_with fail
  refine (ranged_req _).mono ?_
  rintro e w3 ⟨rfl, hb⟩
  clear c0 c1 c2 c3 c4 c5 c6 c7 c8 c9 c10
  have HB2 := Lib.hid (HB.out.next hb); clear HB hb
  have HB := Lib.hid HB2.out; clear HB2
  obtain ⟨c0, c1, c2, c3, c4, c5, c6, c7, c8, c9, c10⟩ := HB.out.c
  go_wp2_with fail
  go_loop [28] (fun v => v = .int .i64 0) (fun _ => 0)
  case atStart => rfl
  case round =>
    subst hrel
    go_wp2_with fail
    go_ret
    exact ⟨rfl, HB.out.below⟩
set_option maxHeartbeats 1000000 in
theorem pvalid_req (w : World) (hw : WordsW w) : Calls Tryz.prog 54 #[reqV] w (RetB (.int .i64 0) w) := by
  have HW := Box.mk hw; clear hw
  go_enter Tryz.func54, Tryz.ntmps54
  have HB := Lib.hid (Q1.start w)
  go_upto_region 1 with (fail)
  generalize w.alloc (.cells reqC 33) = W at HB ⊢
  obtain ⟨c0, c1, c2, c3, c4, c5, c6, c7, c8, c9, c10⟩ := HB.out.c
  go_wp2_with fail
  refine (fits_req _).mono ?_
  rintro e w1 ⟨rfl, hb⟩
  clear c0 c1 c2 c3 c4 c5 c6 c7 c8 c9 c10
  have HB2 := Lib.hid (HB.out.next hb); clear HB hb
  have HB := Lib.hid HB2.out; clear HB2
  obtain ⟨c0, c1, c2, c3, c4, c5, c6, c7, c8, c9, c10⟩ := HB.out.c
  go_wp2_with fail
  refine (check_req _ (HW.out.below HB.out.below)).mono ?_
  rintro e w2 ⟨rfl, hb⟩
  clear c0 c1 c2 c3 c4 c5 c6 c7 c8 c9 c10
  have HB2 := Lib.hid (HB.out.next hb); clear HB hb
  have HB := Lib.hid HB2.out; clear HB2
  go_wp2_with fail
  go_ret
  exact ⟨rfl, HB.out.below⟩
theorem ix0 (a b c : Int) (w : World) : (Instr.index 61 (.agg #[.int .i64 a, .int .i64 b, .int .i64 c]) (.int .i64 0)).run Tryz.prog w = .ok (.int .i64 a) w := by kernel_rfl
theorem ix1 (a b c : Int) (w : World) : (Instr.index 61 (.agg #[.int .i64 a, .int .i64 b, .int .i64 c]) (.int .i64 1)).run Tryz.prog w = .ok (.int .i64 b) w := by kernel_rfl
theorem ix2 (a b c : Int) (w : World) : (Instr.index 61 (.agg #[.int .i64 a, .int .i64 b, .int .i64 c]) (.int .i64 2)).run Tryz.prog w = .ok (.int .i64 c) w := by kernel_rfl
set_option maxHeartbeats 1000000 in
set_option maxRecDepth 100000 in
theorem uvalid_any (a b c : Int) (w : World) (h : -3 ≤ a ∧ a ≤ 3 ∧ -3 ≤ b ∧ b ≤ 3 ∧ -3 ≤ c ∧ c ≤ 3) : Calls Tryz.prog 75 #[.agg #[.int .i64 a, .int .i64 b, .int .i64 c]] w (RetB (.bool true) w) := by
  obtain ⟨h1, h2, h3, h4, h5, h6⟩ := h
  have k1 : ¬ a < -3 := by omega
  have k2 : ¬ 3 < a := by omega
  have k3 : ¬ b < -3 := by omega
  have k4 : ¬ 3 < b := by omega
  have k5 : ¬ c < -3 := by omega
  have k6 : ¬ 3 < c := by omega
  clear h1 h2 h3 h4 h5 h6
  have i0 := ix0 a b c; have i1 := ix1 a b c; have i2 := ix2 a b c
  go_enter Tryz.func75, Tryz.ntmps75
  go_wp2_with fail
  go_loop [6] (fun v => v = .int .i64 0 ∨ v = .int .i64 1 ∨ v = .int .i64 2 ∨ v = .int .i64 3) (fun v => (3 - intOf v).toNat)
  case atStart => exact .inl rfl
  case round =>
    rcases hrel with rfl | rfl | rfl | rfl
    · go_wp2_with fail
      go_round
      case rel => exact .inr (.inl rfl)
      case measure => decide
    · go_wp2_with fail
      go_round
      case rel => exact .inr (.inr (.inl rfl))
      case measure => decide
    · go_wp2_with fail
      go_round
      case rel => exact .inr (.inr (.inr rfl))
      case measure => decide
    · go_wp2_with fail
      go_ret
      exact ⟨rfl, bel1 _ _⟩
end
section
open Go.RowKit

theorem tw_at (f : UInt8 → Bool) : ∀ (l : List UInt8) (j : Nat), j < (l.takeWhile f).length → ∃ c, l[j]? = some c ∧ f c = true ∧ (l.takeWhile f).drop j = c :: (l.takeWhile f).drop (j + 1)
  | [], j, h => by simp at h
  | x :: r, j, h => by
    rw [List.takeWhile_cons] at h ⊢
    cases hf : f x
    · rw [hf] at h; simp at h
    · rw [hf] at h
      simp only [if_true, List.length_cons] at h ⊢
      cases j with
      | zero => exact ⟨x, rfl, hf, by simp⟩
      | succ j =>
        obtain ⟨c, h1, h2, h3⟩ := tw_at f r j (by omega)
        exact ⟨c, by simpa using h1, h2, by simpa using h3⟩
theorem twN_at {f : UInt8 → Bool} {s : ByteArray} {i k : Nat} (h1 : i ≤ k) (h2 : k < i + twN f s i) (hk : k < s.size) : f s[k] = true ∧ ((s.data.toList.drop i).takeWhile f).drop (k - i) = s[k] :: ((s.data.toList.drop i).takeWhile f).drop (k + 1 - i) := by
  obtain ⟨c, h3, h4, h5⟩ := tw_at f (s.data.toList.drop i) (k - i) (by unfold twN at h2; omega)
  rw [List.getElem?_drop, show i + (k - i) = k by omega] at h3
  have h6 : s.data.toList[k]? = some s[k] := by
    rw [List.getElem?_eq_getElem (by rw [data_size]; exact hk)]; rfl
  rw [h6] at h3
  cases h3
  exact ⟨h4, by rw [h5, show k - i + 1 = k + 1 - i by omega]⟩
theorem numV_big {n : Int} (h : 1073741824 < n) : ∀ l, numV n l = n
  | [] => rfl
  | c :: r => by rw [numV, if_neg (by omega)]
set_option maxHeartbeats 1000000 in
theorem knumber_any (q i : Nat) (s : ByteArray) (w : World) (h : Src w q s i 0) (hi : i ≤ s.size) (hs : s.size ≤ 4000) :
    Calls Tryz.prog 162 #[.pointer (some ⟨q, 0, none⟩)] w (RetK q s i (tokN i (s.data.toList.drop i)) w) := by
  obtain ⟨en, HE⟩ : ∃ en, Box (i + twN digB s i = en) := ⟨_, ⟨rfl⟩⟩
  have hen : i ≤ en ∧ en ≤ s.size := by have := twN_le (f := digB) hi; have := HE.out; omega
  have hen1 := hen.1
  have hen2 := hen.2
  have HT : Box (s.extract i en = bsL ((s.data.toList.drop i).takeWhile digB)) := ⟨by rw [← HE.out]; exact ext_tw _ _ _⟩
  obtain ⟨V, HV⟩ : ∃ V, Box (numV 0 ((s.data.toList.drop i).takeWhile digB) = V) := ⟨_, ⟨rfl⟩⟩
  have HR : Box (tokN i (s.data.toList.drop i) = (if 1073741824 < V then 5 else 0, ⟨1, (s.data.toList.drop i).takeWhile digB, V, i⟩, en - i)) := ⟨by
    rw [← HV.out, ← HE.out]; unfold tokN; rw [show (List.takeWhile digB (List.drop i s.data.toList)).length = twN digB s i from rfl, Nat.add_sub_cancel_left]⟩
  have H0 := Box.mk h
  obtain ⟨c0, c1, c2⟩ := h.c3
  have cf := h.frozen
  have hq := h.lt
  have hq2 : ¬ w.heap.size = q := by omega
  have hq3 : ¬ q = w.heap.size := by omega
  clear h
  go_enter Tryz.func162, Tryz.ntmps162
  go_wp2_with fail
  refine (krun_digit q i s i 0 _ (H0.out.alloc _) hi hs).mono ?_
  rintro e w1 ⟨rfl, rfl⟩
  rw [HE.out]
  have HW : Box (Wr q w (w.alloc (.cells zeroTok 181)) ∧ Src (w.alloc (.cells zeroTok 181)) q s i 0 ∧ Blk (w.alloc (.cells zeroTok 181)) w.heap.size 181 zeroTok) := ⟨(Wr.refl q w).alloc _, H0.out.alloc _, Blk.new _ _ _⟩
  go_wp2_with fail
  go_loop [4, 5] (fun v x => ∃ (k : Nat) (n : Int), x = .int .i64 k ∧ v = .int .i64 n ∧ i ≤ k ∧ k ≤ en ∧ 0 ≤ n ∧ n ≤ 99999999999 ∧ Hid (numV n (((s.data.toList.drop i).takeWhile digB).drop (k - i)) = V)) (fun _ x => en - (intOf x).toNat)
  case atStart => exact ⟨i, 0, rfl, rfl, Nat.le_refl _, hen1, by omega, by omega, by show numV 0 (((s.data.toList.drop i).takeWhile digB).drop (i - i)) = V; rw [Nat.sub_self, List.drop_zero]; exact HV.out⟩
  case round =>
    obtain ⟨k, n, rfl, rfl, hk1, hk2, hn1, hn2, HN⟩ := hrel
    by_cases hgo : k < en ∧ n ≤ 1073741824
    · obtain ⟨hk3, hn3⟩ := hgo
      have hks : k < s.size := by omega
      obtain ⟨hd, hdr⟩ := twN_at (f := digB) (s := s) (i := i) hk1 (by rw [HE.out]; exact hk3) hks
      obtain ⟨d1, d2⟩ := (digB_iff _).1 hd
      have HN2 : Hid (numV (n * 10 + ((s[k].toNat : Int) - 48)) (((s.data.toList.drop i).takeWhile digB).drop (k + 1 - i)) = V) := by
        have := HN.out
        rw [hdr, numV, if_pos hn3] at this
        exact this
      have hk4 : (k : Int) < (en : Int) := by omega
      have hks2 : (k : Int) < (s.size : Int) := by omega
      clear hd hdr
      go_wp2_with fail
      go_round
      case rel => exact ⟨k + 1, _, by go_num, rfl, by omega, by omega, by omega, by omega, HN2.out⟩
      case measure => simp [intOf]; omega
    · have HVn : Hid (n = V) := by
        have h5 := HN.out
        by_cases hk3 : k < en
        · rw [numV_big (by omega)] at h5; exact h5
        · rw [List.drop_eq_nil_of_le (by rw [show ((s.data.toList.drop i).takeWhile digB).length = twN digB s i from rfl]; have := HE.out; omega), numV] at h5; exact h5
      obtain rfl := HVn.out
      have hcase : (k : Int) < (en : Int) ∧ ¬ n ≤ 1073741824 ∨ ¬ (k : Int) < (en : Int) := by omega
      have HR1 : Box (n ≤ 1073741824 ∨ 1073741824 < n) := ⟨by omega⟩
      clear HN HVn hgo
      by_cases hbig : 1073741824 < n
      · have HE5 : Box ((tokN i (s.data.toList.drop i)).1 = 5 ∧ (tokN i (s.data.toList.drop i)).2.1 = ⟨1, (s.data.toList.drop i).takeWhile digB, n, i⟩) := ⟨by rw [HR.out]; simp only [if_pos hbig, and_self]⟩
        have HW4 : Box (Wr q w ((w.setCell ⟨q, 2, none⟩ (.int .i64 5)).alloc (.cells zeroTok 181)) ∧ Src ((w.setCell ⟨q, 2, none⟩ (.int .i64 5)).alloc (.cells zeroTok 181)) q s i 5 ∧ Blk ((w.setCell ⟨q, 2, none⟩ (.int .i64 5)).alloc (.cells zeroTok 181)) w.heap.size 181 zeroTok) :=
          ⟨((Wr.refl q w).set 2 _).alloc _, Blk.alloc (by have := H0.out.set 2 (.int .i64 5); simpa using this) _, Blk.newAt _ _ (by simp [World.setCell])⟩
        rcases hcase with ⟨hc1, hc2⟩ | hc1
        all_goals
          go_upto_region 9 with (fail)
          generalize (w.setCell ⟨q, 2, none⟩ (.int .i64 5)).alloc (.cells zeroTok 181) = W at *
          clear c0 c1 c2 cf
          obtain ⟨c0, c1, c2⟩ := HW4.out.2.1.c3
          obtain ⟨t0, t1, t2, t3⟩ := HW4.out.2.2.c4
          have tf := HW4.out.2.2.frozen
          go_region
          go_wp2_with fail
          clear c0 c1 c2 t0 t1 t2 t3 tf
          have HF := Box.mk (tok_fin (k := 1) (t := s.extract i en) (n := n) (o := i) HW4.out.1 HW4.out.2.1 HW4.out.2.2 hq)
          clear HW4
          show bodyPost _ _ _ _ _ (putT W w.heap.size 1 (s.extract i en) n i).drew
          generalize (putT W w.heap.size 1 (s.extract i en) n i).drew = WF at HF ⊢
          obtain ⟨t0, t1, t2, t3⟩ := HF.out.1.c4
          have tf := HF.out.1.frozen
          exact bodyPost_ret (v := .agg #[.int .i64 1, .string (s.extract i en), .int .i64 n, .int .i64 i]) (by simp [results, Tryz.results162, go_sem, t0, t1, t2, t3, tf]) rfl ⟨by rw [HE5.out.2, HT.out], by rw [HE5.out.1]; exact HF.out.2.2, HF.out.2.1⟩
      · have HE5 : Box ((tokN i (s.data.toList.drop i)).1 = 0 ∧ (tokN i (s.data.toList.drop i)).2.1 = ⟨1, (s.data.toList.drop i).takeWhile digB, n, i⟩) := ⟨by rw [HR.out]; simp only [if_neg hbig, and_self]⟩
        rcases hcase with ⟨hc1, hc2⟩ | hc1
        · exact absurd hc2 (by omega)
        go_upto_region 9 with (fail)
        generalize w.alloc (.cells zeroTok 181) = W at *
        clear c0 c1 c2 cf
        obtain ⟨c0, c1, c2⟩ := HW.out.2.1.c3
        obtain ⟨t0, t1, t2, t3⟩ := HW.out.2.2.c4
        have tf := HW.out.2.2.frozen
        go_region
        go_wp2_with fail
        clear c0 c1 c2 t0 t1 t2 t3 tf
        have HF := Box.mk (tok_fin (k := 1) (t := s.extract i en) (n := n) (o := i) HW.out.1 HW.out.2.1 HW.out.2.2 hq)
        clear HW
        show bodyPost _ _ _ _ _ (putT W w.heap.size 1 (s.extract i en) n i).drew
        generalize (putT W w.heap.size 1 (s.extract i en) n i).drew = WF at HF ⊢
        obtain ⟨t0, t1, t2, t3⟩ := HF.out.1.c4
        have tf := HF.out.1.frozen
        exact bodyPost_ret (v := .agg #[.int .i64 1, .string (s.extract i en), .int .i64 n, .int .i64 i]) (by simp [results, Tryz.results162, go_sem, t0, t1, t2, t3, tf]) rfl ⟨by rw [HE5.out.2, HT.out], by rw [HE5.out.1]; exact HF.out.2.2, HF.out.2.1⟩
end
end Go.Proofs.YtcifgobinleldaaGreatDoor
