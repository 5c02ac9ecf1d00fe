/- Contracts, packed: Ke. -/
import Derived.Test.YthoibeajhdhdhaaDoorPp14
set_option linter.unusedVariables false
set_option linter.unusedSimpArgs false
namespace Go.Proofs.YthoibeajhdhdhaaDoor
section
open Go.RowKit

theorem tw_at (f : UInt8 → Bool) : ∀ (l : List UInt8) (j : Nat), j < (l.takeWhile f).length → ∃ c, l[j]? = some c ∧ f c = true ∧ (l.takeWhile f).drop j = c :: (l.takeWhile f).drop (j + 1)
  | [], j, h => by simp at h
  | x :: r, j, h => by
    rw [List.takeWhile_cons] at h ⊢
    cases hf : f x
    · rw [hf] at h; simp at h
    · rw [hf] at h
      simp only [if_true, List.length_cons] at h ⊢
      cases j with
      | zero => exact ⟨x, rfl, hf, by simp⟩
      | succ j =>
        obtain ⟨c, h1, h2, h3⟩ := tw_at f r j (by omega)
        exact ⟨c, by simpa using h1, h2, by simpa using h3⟩
theorem twN_at {f : UInt8 → Bool} {s : ByteArray} {i k : Nat} (h1 : i ≤ k) (h2 : k < i + twN f s i) (hk : k < s.size) : f s[k] = true ∧ ((s.data.toList.drop i).takeWhile f).drop (k - i) = s[k] :: ((s.data.toList.drop i).takeWhile f).drop (k + 1 - i) := by
  obtain ⟨c, h3, h4, h5⟩ := tw_at f (s.data.toList.drop i) (k - i) (by unfold twN at h2; omega)
  rw [List.getElem?_drop, show i + (k - i) = k by omega] at h3
  have h6 : s.data.toList[k]? = some s[k] := by
    rw [List.getElem?_eq_getElem (by rw [data_size]; exact hk)]; rfl
  rw [h6] at h3
  cases h3
  exact ⟨h4, by rw [h5, show k - i + 1 = k + 1 - i by omega]⟩
theorem numV_big {n : Int} (h : 1073741824 < n) : ∀ l, numV n l = n
  | [] => rfl
  | c :: r => by rw [numV, if_neg (by omega)]
set_option maxHeartbeats 1000000 in
theorem knumber_any (q i : Nat) (s : ByteArray) (w : World) (h : Src w q s i 0) (hi : i ≤ s.size) (hs : s.size ≤ 4000) :
    Calls Tryd.prog 62 #[.pointer (some ⟨q, 0, none⟩)] w (RetK q s i (tokN i (s.data.toList.drop i)) w) := by
  obtain ⟨en, HE⟩ : ∃ en, Box (i + twN digB s i = en) := ⟨_, ⟨rfl⟩⟩
  have hen : i ≤ en ∧ en ≤ s.size := by have := twN_le (f := digB) hi; have := HE.out; omega
  have hen1 := hen.1
  have hen2 := hen.2
  have HT : Box (s.extract i en = bsL ((s.data.toList.drop i).takeWhile digB)) := ⟨by rw [← HE.out]; exact ext_tw _ _ _⟩
  obtain ⟨V, HV⟩ : ∃ V, Box (numV 0 ((s.data.toList.drop i).takeWhile digB) = V) := ⟨_, ⟨rfl⟩⟩
  have HR : Box (tokN i (s.data.toList.drop i) = (if 1073741824 < V then 5 else 0, ⟨1, (s.data.toList.drop i).takeWhile digB, V, i⟩, en - i)) := ⟨by
    rw [← HV.out, ← HE.out]; unfold tokN; rw [show (List.takeWhile digB (List.drop i s.data.toList)).length = twN digB s i from rfl, Nat.add_sub_cancel_left]⟩
  have H0 := Box.mk h
  obtain ⟨c0, c1, c2⟩ := h.c3
  have cf := h.frozen
  have hq := h.lt
  have hq2 : ¬ w.heap.size = q := by omega
  have hq3 : ¬ q = w.heap.size := by omega
  clear h
  go_enter Tryd.func62, Tryd.ntmps62
  go_wp2_with fail
  refine (krun_digit q i s i 0 _ (H0.out.alloc _) hi hs).mono ?_
  rintro e w1 ⟨rfl, rfl⟩
  rw [HE.out]
  have HW : Box (Wr q w (w.alloc (.cells zeroTok 91)) ∧ Src (w.alloc (.cells zeroTok 91)) q s i 0 ∧ Blk (w.alloc (.cells zeroTok 91)) w.heap.size 91 zeroTok) := ⟨(Wr.refl q w).alloc _, H0.out.alloc _, Blk.new _ _ _⟩
  go_wp2_with fail
  go_loop [4, 5] (fun v x => ∃ (k : Nat) (n : Int), x = .int .i64 k ∧ v = .int .i64 n ∧ i ≤ k ∧ k ≤ en ∧ 0 ≤ n ∧ n ≤ 99999999999 ∧ Hid (numV n (((s.data.toList.drop i).takeWhile digB).drop (k - i)) = V)) (fun _ x => en - (intOf x).toNat)
  case atStart => exact ⟨i, 0, rfl, rfl, Nat.le_refl _, hen1, by omega, by omega, by show numV 0 (((s.data.toList.drop i).takeWhile digB).drop (i - i)) = V; rw [Nat.sub_self, List.drop_zero]; exact HV.out⟩
  case round =>
    obtain ⟨k, n, rfl, rfl, hk1, hk2, hn1, hn2, HN⟩ := hrel
    by_cases hgo : k < en ∧ n ≤ 1073741824
    · obtain ⟨hk3, hn3⟩ := hgo
      have hks : k < s.size := by omega
      obtain ⟨hd, hdr⟩ := twN_at (f := digB) (s := s) (i := i) hk1 (by rw [HE.out]; exact hk3) hks
      obtain ⟨d1, d2⟩ := (digB_iff _).1 hd
      have HN2 : Hid (numV (n * 10 + ((s[k].toNat : Int) - 48)) (((s.data.toList.drop i).takeWhile digB).drop (k + 1 - i)) = V) := by
        have := HN.out
        rw [hdr, numV, if_pos hn3] at this
        exact this
      have hk4 : (k : Int) < (en : Int) := by omega
      have hks2 : (k : Int) < (s.size : Int) := by omega
      clear hd hdr
      go_wp2_with fail
      go_round
      case rel => exact ⟨k + 1, _, by go_num, rfl, by omega, by omega, by omega, by omega, HN2.out⟩
      case measure => simp [intOf]; omega
    · have HVn : Hid (n = V) := by
        have h5 := HN.out
        by_cases hk3 : k < en
        · rw [numV_big (by omega)] at h5; exact h5
        · rw [List.drop_eq_nil_of_le (by rw [show ((s.data.toList.drop i).takeWhile digB).length = twN digB s i from rfl]; have := HE.out; omega), numV] at h5; exact h5
      obtain rfl := HVn.out
      have hcase : (k : Int) < (en : Int) ∧ ¬ n ≤ 1073741824 ∨ ¬ (k : Int) < (en : Int) := by omega
      have HR1 : Box (n ≤ 1073741824 ∨ 1073741824 < n) := ⟨by omega⟩
      clear HN HVn hgo
      by_cases hbig : 1073741824 < n
      · have HE5 : Box ((tokN i (s.data.toList.drop i)).1 = 5 ∧ (tokN i (s.data.toList.drop i)).2.1 = ⟨1, (s.data.toList.drop i).takeWhile digB, n, i⟩) := ⟨by rw [HR.out]; simp only [if_pos hbig, and_self]⟩
        have HW4 : Box (Wr q w ((w.setCell ⟨q, 2, none⟩ (.int .i64 5)).alloc (.cells zeroTok 91)) ∧ Src ((w.setCell ⟨q, 2, none⟩ (.int .i64 5)).alloc (.cells zeroTok 91)) q s i 5 ∧ Blk ((w.setCell ⟨q, 2, none⟩ (.int .i64 5)).alloc (.cells zeroTok 91)) w.heap.size 91 zeroTok) :=
          ⟨((Wr.refl q w).set 2 _).alloc _, Blk.alloc (by have := H0.out.set 2 (.int .i64 5); simpa using this) _, Blk.newAt _ _ (by simp [World.setCell])⟩
        rcases hcase with ⟨hc1, hc2⟩ | hc1
        all_goals
          go_upto_region 9 with (fail)
          generalize (w.setCell ⟨q, 2, none⟩ (.int .i64 5)).alloc (.cells zeroTok 91) = W at *
          clear c0 c1 c2 cf
          obtain ⟨c0, c1, c2⟩ := HW4.out.2.1.c3
          obtain ⟨t0, t1, t2, t3⟩ := HW4.out.2.2.c4
          have tf := HW4.out.2.2.frozen
          go_region
          go_wp2_with fail
          clear c0 c1 c2 t0 t1 t2 t3 tf
          have HF := Box.mk (tok_fin (k := 1) (t := s.extract i en) (n := n) (o := i) HW4.out.1 HW4.out.2.1 HW4.out.2.2 hq)
          clear HW4
          show bodyPost _ _ _ _ _ (putT W w.heap.size 1 (s.extract i en) n i).drew
          generalize (putT W w.heap.size 1 (s.extract i en) n i).drew = WF at HF ⊢
          obtain ⟨t0, t1, t2, t3⟩ := HF.out.1.c4
          have tf := HF.out.1.frozen
          exact bodyPost_ret (v := .agg #[.int .i64 1, .string (s.extract i en), .int .i64 n, .int .i64 i]) (by simp [results, Tryd.results62, go_sem, t0, t1, t2, t3, tf]) rfl ⟨by rw [HE5.out.2, HT.out], by rw [HE5.out.1]; exact HF.out.2.2, HF.out.2.1⟩
      · have HE5 : Box ((tokN i (s.data.toList.drop i)).1 = 0 ∧ (tokN i (s.data.toList.drop i)).2.1 = ⟨1, (s.data.toList.drop i).takeWhile digB, n, i⟩) := ⟨by rw [HR.out]; simp only [if_neg hbig, and_self]⟩
        rcases hcase with ⟨hc1, hc2⟩ | hc1
        · exact absurd hc2 (by omega)
        go_upto_region 9 with (fail)
        generalize w.alloc (.cells zeroTok 91) = W at *
        clear c0 c1 c2 cf
        obtain ⟨c0, c1, c2⟩ := HW.out.2.1.c3
        obtain ⟨t0, t1, t2, t3⟩ := HW.out.2.2.c4
        have tf := HW.out.2.2.frozen
        go_region
        go_wp2_with fail
        clear c0 c1 c2 t0 t1 t2 t3 tf
        have HF := Box.mk (tok_fin (k := 1) (t := s.extract i en) (n := n) (o := i) HW.out.1 HW.out.2.1 HW.out.2.2 hq)
        clear HW
        show bodyPost _ _ _ _ _ (putT W w.heap.size 1 (s.extract i en) n i).drew
        generalize (putT W w.heap.size 1 (s.extract i en) n i).drew = WF at HF ⊢
        obtain ⟨t0, t1, t2, t3⟩ := HF.out.1.c4
        have tf := HF.out.1.frozen
        exact bodyPost_ret (v := .agg #[.int .i64 1, .string (s.extract i en), .int .i64 n, .int .i64 i]) (by simp [results, Tryd.results62, go_sem, t0, t1, t2, t3, tf]) rfl ⟨by rw [HE5.out.2, HT.out], by rw [HE5.out.1]; exact HF.out.2.2, HF.out.2.1⟩
end
end Go.Proofs.YthoibeajhdhdhaaDoor
