/- Parse of the reference. -/
import Derived.Test.YtlplligfnbkofaaDoorPd
import Derived.Test.YtlplligfnbkofaaDoorGt
set_option linter.unusedVariables false
set_option linter.unusedSimpArgs false
namespace Go.Proofs.YtlplligfnbkofaaDoor
open Go.RowKit FracM

structure P2 (w W : World) (n d : Int) : Prop where
  below : Below w.heap.size w W
  R : Blk W w.heap.size 23 #[.int .i64 0, .int .i64 0]
  A : Blk W (w.heap.size + 1) 23 #[.int .i64 n, .int .i64 d]
theorem P2.next {w W W' : World} {n d : Int} (h : P2 w W n d) (hb : Below W.heap.size W W') : P2 w W' n d := ⟨bthen h.below hb (Nat.le_refl _), h.R.below hb, h.A.below hb⟩
theorem P2.num {w W : World} {n d : Int} (h : P2 w W n d) (m : Int) : P2 w (W.setCell ⟨w.heap.size + 1, 0, none⟩ (.int .i64 m)) m d :=
  ⟨h.below.setCell (p := ⟨w.heap.size + 1, 0, none⟩) (by simp only; omega) _, h.R.far (p := ⟨w.heap.size + 1, 0, none⟩) (by simp only; omega) _, by simpa using h.A.set 0 (.int .i64 m)⟩
theorem P2.den {w W : World} {n d : Int} (h : P2 w W n d) (m : Int) : P2 w (W.setCell ⟨w.heap.size + 1, 1, none⟩ (.int .i64 m)) n m :=
  ⟨h.below.setCell (p := ⟨w.heap.size + 1, 1, none⟩) (by simp only; omega) _, h.R.far (p := ⟨w.heap.size + 1, 1, none⟩) (by simp only; omega) _, by simpa using h.A.set 1 (.int .i64 m)⟩
theorem at_cases (s : ByteArray) (i : Nat) (c : UInt8) : (¬ i < s.size ∧ decide (s.data.toList[i]? = some c) = false) ∨ (∃ h : i < s.size, ¬ s[i].toNat = c.toNat ∧ decide (s.data.toList[i]? = some c) = false) ∨ (∃ h : i < s.size, s[i].toNat = c.toNat ∧ decide (s.data.toList[i]? = some c) = true) := by
  by_cases h : i < s.size
  · rw [data_at s i h]
    by_cases h2 : s[i] = c
    · exact .inr (.inr ⟨h, by rw [h2], by simp [h2]⟩)
    · exact .inr (.inl ⟨h, fun e => h2 (UInt8.toNat_inj.1 e), by simp [h2]⟩)
  · exact .inl ⟨h, by rw [List.getElem?_eq_none (by rw [ssz]; omega)]; rfl⟩
theorem dig_none {s : ByteArray} {a : Nat} (w : World) (h : dgF (s.data.toList.drop a) = none) (hs : s.size ≤ 1000) (ha : a ≤ 1000) : Calls Tryd.prog 59 #[.string s, .int .i64 (a : Nat)] w fun e w' => e = .returned (.tuple #[.int .i64 0, .int .i64 (-1)]) ∧ w' = w := by
  have := digits_any s a w hs ha
  rw [show dgV s a = (0, -1) by unfold dgV; rw [h]] at this; exact this
theorem dig_some {s : ByteArray} {a n k : Nat} (w : World) (h : dgF (s.data.toList.drop a) = some (n, k)) (hs : s.size ≤ 1000) (ha : a ≤ 1000) : Calls Tryd.prog 59 #[.string s, .int .i64 (a : Nat)] w fun e w' => e = .returned (.tuple #[.int .i64 (n : Nat), .int .i64 ((a + k : Nat) : Int)]) ∧ w' = w := by
  have := digits_any s a w hs ha
  rw [show dgV s a = ((n : Int), ((a + k : Nat) : Int)) by unfold dgV; rw [h]] at this; exact this
theorem dg_bd {l : List UInt8} {n k : Nat} (h : dgF l = some (n, k)) : n ≤ 4611686018427387904 ∧ k ≤ l.length := by
  unfold dgF at h
  split at h
  · cases h
  · rename_i hc
    simp only [Option.some.injEq, Prod.mk.injEq] at h
    have : (digL l).length ≤ l.length := (List.takeWhile_sublist _).length_le
    omega
theorem rp_none {l : List UInt8} {a : Nat} (ha : a = if l[0]? = some 45 then 1 else 0) (h : dgF (l.drop a) = none) : rparseF l = (0, 0, 2) := by
  unfold rparseF; simp only; rw [← ha, h]
theorem rp_plain {l : List UInt8} {a n k : Nat} (ha : a = if l[0]? = some 45 then 1 else 0) (h : dgF (l.drop a) = some (n, k)) (h2 : decide (l[a + k]? = some 47) = false) : rparseF l = tailF l (if a = 1 then -(n : Int) else n) (a + k) 1 := by
  unfold rparseF; simp only; rw [← ha, h]; simp only; rw [if_neg (by simpa using h2)]
theorem rp_sl0 {l : List UInt8} {a n k : Nat} (ha : a = if l[0]? = some 45 then 1 else 0) (h : dgF (l.drop a) = some (n, k)) (h2 : decide (l[a + k]? = some 47) = true) (h3 : dgF (l.drop (a + k + 1)) = none) : rparseF l = (0, 0, 2) := by
  unfold rparseF; simp only; rw [← ha, h]; simp only; rw [if_pos (by simpa using h2), h3]
theorem rp_sl1 {l : List UInt8} {a n k d k2 : Nat} (ha : a = if l[0]? = some 45 then 1 else 0) (h : dgF (l.drop a) = some (n, k)) (h2 : decide (l[a + k]? = some 47) = true) (h3 : dgF (l.drop (a + k + 1)) = some (d, k2)) : rparseF l = tailF l (if a = 1 then -(n : Int) else n) (a + k + 1 + k2) d := by
  unfold rparseF; simp only; rw [← ha, h]; simp only; rw [if_pos (by simpa using h2), h3]
theorem tl_more {l : List UInt8} {n d : Int} {t : Nat} (h : t < l.length) : tailF l n t d = (0, 0, 2) := by unfold tailF; rw [if_pos (.inl h)]
theorem tl_other {l : List UInt8} {n d : Int} {t : Nat} (h : (textF n d).toList ≠ l) : tailF l n t d = (0, 0, 2) := by unfold tailF; rw [if_pos (.inr h)]
theorem tl_ok {l : List UInt8} {n d : Int} {t : Nat} (h0 : ¬ t < l.length) (h : (textF n d).toList = l) : tailF l n t d = (n, d, 0) := by unfold tailF; rw [if_neg (by simp [h, h0])]; 

set_option maxHeartbeats 8000000 in
set_option maxRecDepth 100000 in
theorem rparse_any (s : ByteArray) (w : World) (hs : s.size ≤ 999) : Calls Tryd.prog 26 #[.string s] w (RetF (rparseF s.data.toList) w) := by
  replace hs : s.size ≤ 1000 := by omega
  go_enter Tryd.func26, Tryd.ntmps26
  have HB : Hid (P2 w ((w.alloc (.cells #[.int .i64 0, .int .i64 0] 23)).alloc (.cells #[.int .i64 0, .int .i64 1] 23)) 0 1) := ⟨bel2 _ _ _, (Blk.new _ _ _).alloc _, Blk.newAt _ _ (by simp)⟩
  go_upto_region 3 with (fail)
  generalize ((w.alloc (.cells #[.int .i64 0, .int .i64 0] 23)).alloc (.cells #[.int .i64 0, .int .i64 1] 23)) = wa at HB ⊢
  go_cut [18] (fun x wx => x = .bool (decide (s.data.toList[0]? = some 45)) ∧ P2 w wx 0 1)
  case first =>
    rcases at_cases s 0 45 with ⟨h1, h2⟩ | ⟨h1, h2, h3⟩ | ⟨h1, h2, h3⟩
    · have HX := Box.mk h2; clear h2
      have h4 : ¬ (0 : Int) < s.size := by omega
      go_wp2_with fail
      go_meet
      exact ⟨by rw [HX.out], HB.out⟩
    · have HX := Box.mk h3; clear h3
      have h4 : (0 : Int) < s.size := by omega
      have h5 : ¬ s[0].toNat = 45 := h2
      have h6 : ((s[0].toNat : Int) == 45) = false := by simp; omega
      go_wp2_with fail
      go_meet
      exact ⟨by rw [HX.out], HB.out⟩
    · have HX := Box.mk h3; clear h3
      have h4 : (0 : Int) < s.size := by omega
      have h5 : s[0].toNat = 45 := h2
      have h6 : ((s[0].toNat : Int) == 45) = true := by simp; omega
      go_wp2_with fail
      go_meet
      exact ⟨by rw [HX.out], HB.out⟩
  case rest =>
    clear HB
    obtain ⟨rfl, hbx⟩ := hcut
    rename World => wb
    have HB := Lib.hid hbx; clear hbx
    obtain ⟨r0, r1⟩ := HB.out.R.c2
    obtain ⟨p0, p1⟩ := HB.out.A.c2
    have rf := HB.out.R.frozen
    have pf := HB.out.A.frozen
    have hz := HB.out.A.lt
    cases hb0 : decide (s.data.toList[0]? = some 45)
    · skip
      have HA : Box (0 = if s.data.toList[0]? = some 45 then 1 else 0) := ⟨by rw [if_neg (by simpa using hb0)]⟩
      clear hb0
      cases hg : dgF (s.data.toList.drop 0) with
      | none =>
        have HG := Box.mk hg; clear hg
        go_wp2_with fail
        refine (dig_none (a := 0) _ HG.out hs (by omega)).mono ?_
        rintro e w5 ⟨rfl, rfl⟩
        have HE : Box (rparseF s.data.toList = (0, 0, 2)) := ⟨rp_none HA.out HG.out⟩
        go_wp2_with fail
        exact bodyPost_ret (v := .tuple #[.agg #[.int .i64 0, .int .i64 0], .int .i64 2]) (by simp [results, Tryd.results26, go_sem, r0, r1, rf, hz]) rfl (retF HE.out rfl (bset2 HB.out.below (by omega) _ _))
      | some nk =>
        obtain ⟨n, k⟩ := nk
        obtain ⟨hnM, hkl⟩ := dg_bd hg
        rw [List.length_drop, ssz] at hkl
        have HG := Box.mk hg; clear hg
        have hka : 0 + k ≤ 1000 := by omega
        go_wp2_with fail
        refine (dig_some (a := 0) _ HG.out hs (by omega)).mono ?_
        rintro e w5 ⟨rfl, rfl⟩
        obtain ⟨tt, htt⟩ : ∃ tt, tt = 0 + k := ⟨_, rfl⟩
        rw [← htt]
        have HTT := Box.mk htt
        have htt2 : tt ≤ 1000 := by omega
        clear htt hka hkl
        have tn : ¬ ((tt : Nat) : Int) < 0 := by omega
        go_upto_region 11 with (fail)
        have HB2 := Lib.hid (HB.out.num (n : Nat)); clear HB
        generalize (World.setCell _ ⟨w.heap.size + 1, 0, none⟩ (.int .i64 (n : Nat))) = wd at HB2 ⊢
        have HB := Lib.hid HB2.out; clear HB2
        clear r0 r1 p0 p1 rf pf hz
        obtain ⟨r0, r1⟩ := HB.out.R.c2
        obtain ⟨p0, p1⟩ := HB.out.A.c2
        have rf := HB.out.R.frozen
        have pf := HB.out.A.frozen
        have hz := HB.out.A.lt
        go_cut [44] (fun x wx => x = .bool (decide (s.data.toList[tt]? = some 47)) ∧ P2 w wx ((n : Int)) 1)
        case first =>
          rcases at_cases s tt 47 with ⟨h1, h2⟩ | ⟨h1, h2, h3⟩ | ⟨h1, h2, h3⟩
          · have HX := Box.mk h2; clear h2
            have h4 : ¬ ((tt : Nat) : Int) < s.size := by omega
            go_wp2_with fail
            go_meet
            exact ⟨by rw [HX.out], HB.out⟩
          · have HX := Box.mk h3; clear h3
            have h4 : ((tt : Nat) : Int) < s.size := by omega
            have h5 : ¬ s[tt].toNat = 47 := h2
            have h6 : ((s[tt].toNat : Int) == 47) = false := by simp; omega
            go_wp2_with fail
            go_meet
            exact ⟨by rw [HX.out], HB.out⟩
          · have HX := Box.mk h3; clear h3
            have h4 : ((tt : Nat) : Int) < s.size := by omega
            have h5 : s[tt].toNat = 47 := h2
            have h6 : ((s[tt].toNat : Int) == 47) = true := by simp; omega
            go_wp2_with fail
            go_meet
            exact ⟨by rw [HX.out], HB.out⟩
        case rest =>
          clear HB r0 r1 p0 p1 rf pf hz
          obtain ⟨rfl, hbx⟩ := hcut
          rename World => we
          have HB := Lib.hid hbx; clear hbx
          obtain ⟨r0, r1⟩ := HB.out.R.c2
          obtain ⟨p0, p1⟩ := HB.out.A.c2
          have rf := HB.out.R.frozen
          have pf := HB.out.A.frozen
          have hz := HB.out.A.lt
          cases h47 : decide (s.data.toList[tt]? = some 47)
          · have HN := Box.mk h47; clear h47
            by_cases hlt : tt < s.size
            · have hl2 : ((tt : Nat) : Int) < s.size := by omega
              have HE : Box (rparseF s.data.toList = (0, 0, 2)) := ⟨by rw [show rparseF s.data.toList = tailF s.data.toList ((n : Int)) tt 1 by rw [HTT.out]; exact rp_plain HA.out HG.out (by rw [← HTT.out]; exact HN.out)]; exact tl_more (by rw [ssz]; exact hlt)⟩
              go_wp2_with fail
              exact bodyPost_ret (v := .tuple #[.agg #[.int .i64 0, .int .i64 0], .int .i64 2]) (by simp [results, Tryd.results26, go_sem, r0, r1, rf, hz]) rfl (retF HE.out rfl (bset2 HB.out.below (by omega) _ _))
            · have hl2 : ¬ ((tt : Nat) : Int) < s.size := by omega
              obtain ⟨t, ht⟩ : ∃ t, textF ((n : Int)) (1) = t := ⟨_, rfl⟩
              have HT := Box.mk ht
              have FT : Box (Fit2 ((n : Int)) (1)) := ⟨by unfold Fit2; omega⟩
              go_wp2_with fail
              refine (rtext_s _ HT.out FT.out).mono ?_
              rintro e w6 ⟨rfl, hb⟩
              clear r0 r1 p0 p1 rf pf hz
              have HB2 := Lib.hid (HB.out.next hb); clear HB hb
              have HB := Lib.hid HB2.out; clear HB2
              obtain ⟨r0, r1⟩ := HB.out.R.c2
              obtain ⟨p0, p1⟩ := HB.out.A.c2
              have rf := HB.out.R.frozen
              have pf := HB.out.A.frozen
              have hz := HB.out.A.lt
              by_cases hte : t.toList = s.toList
              · have HE : Box (rparseF s.data.toList = ((n : Int), 1, 0)) := ⟨by rw [show rparseF s.data.toList = tailF s.data.toList ((n : Int)) tt 1 by rw [HTT.out]; exact rp_plain HA.out HG.out (by rw [← HTT.out]; exact HN.out)]; exact tl_ok (by rw [ssz]; exact hlt) (by rw [ht, hte, ByteArray.toList_eq])⟩
                have q1 : (t.toList == s.toList) = true := by simp [hte]
                have q2 : (t.toList != s.toList) = false := by simp [hte]
                clear hte ht
                go_wp2_with fail
                exact bodyPost_ret (v := .tuple #[.agg #[.int .i64 ((n : Int)), .int .i64 (1)], .int .i64 0]) (by simp [results, Tryd.results26, go_sem, r0, r1, rf, hz]) rfl (retF HE.out rfl (bset2 HB.out.below (by omega) _ _))
              · have HE0 : Box (rparseF s.data.toList = (0, 0, 2)) := ⟨by rw [show rparseF s.data.toList = tailF s.data.toList ((n : Int)) tt 1 by rw [HTT.out]; exact rp_plain HA.out HG.out (by rw [← HTT.out]; exact HN.out)]; exact tl_other (by rw [ht, ← ByteArray.toList_eq]; exact hte)⟩
                have q1 : (t.toList == s.toList) = false := by simp [hte]
                have q2 : (t.toList != s.toList) = true := by simp [hte]
                clear hte ht
                have HE : Box (rparseF s.data.toList = (0, 0, 2)) := ⟨HE0.out⟩
                go_wp2_with fail
                exact bodyPost_ret (v := .tuple #[.agg #[.int .i64 0, .int .i64 0], .int .i64 2]) (by simp [results, Tryd.results26, go_sem, r0, r1, rf, hz]) rfl (retF HE.out rfl (bset2 HB.out.below (by omega) _ _))
          · have htl : tt < s.size := by
              rcases Nat.lt_or_ge tt s.size with h | h
              · exact h
              · rw [List.getElem?_eq_none (by rw [ssz]; exact h)] at h47; cases h47
            have HN := Box.mk h47; clear h47
            cases hg2 : dgF (s.data.toList.drop (tt + 1)) with
            | none =>
              have HG2 := Box.mk hg2; clear hg2
              go_wp2_with fail
              refine (dig_none (a := tt + 1) _ HG2.out hs (by omega)).mono ?_
              rintro e w5 ⟨rfl, rfl⟩
              have HE : Box (rparseF s.data.toList = (0, 0, 2)) := ⟨rp_sl0 HA.out HG.out (by rw [← HTT.out]; exact HN.out) (by rw [← HTT.out]; exact HG2.out)⟩
              go_wp2_with fail
              exact bodyPost_ret (v := .tuple #[.agg #[.int .i64 0, .int .i64 0], .int .i64 2]) (by simp [results, Tryd.results26, go_sem, r0, r1, rf, hz]) rfl (retF HE.out rfl (bset2 HB.out.below (by omega) _ _))
            | some dk =>
              obtain ⟨d, k2⟩ := dk
              obtain ⟨hdM, hk2⟩ := dg_bd hg2
              rw [List.length_drop, ssz] at hk2
              have HG2 := Box.mk hg2; clear hg2
              go_wp2_with fail
              refine (dig_some (a := tt + 1) _ HG2.out hs (by omega)).mono ?_
              rintro e w5 ⟨rfl, rfl⟩
              obtain ⟨t2, ht2⟩ : ∃ t2, t2 = tt + 1 + k2 := ⟨_, rfl⟩
              rw [← ht2]
              have HT2 := Box.mk ht2
              have ht3 : t2 ≤ 1000 := by omega
              clear ht2 hk2
              have tn2 : ¬ ((t2 : Nat) : Int) < 0 := by omega
              go_upto_region 17 with (fail)
              have HB2 := Lib.hid (HB.out.den (d : Nat)); clear HB
              generalize (World.setCell _ ⟨w.heap.size + 1, 1, none⟩ (.int .i64 (d : Nat))) = wf at HB2 ⊢
              have HB := Lib.hid HB2.out; clear HB2
              clear r0 r1 p0 p1 rf pf hz
              obtain ⟨r0, r1⟩ := HB.out.R.c2
              obtain ⟨p0, p1⟩ := HB.out.A.c2
              have rf := HB.out.R.frozen
              have pf := HB.out.A.frozen
              have hz := HB.out.A.lt
              by_cases hlt : t2 < s.size
              · have hl2 : ((t2 : Nat) : Int) < s.size := by omega
                have HE : Box (rparseF s.data.toList = (0, 0, 2)) := ⟨by rw [show rparseF s.data.toList = tailF s.data.toList ((n : Int)) t2 d by rw [HT2.out, HTT.out]; exact rp_sl1 HA.out HG.out (by rw [← HTT.out]; exact HN.out) (by rw [← HTT.out]; exact HG2.out)]; exact tl_more (by rw [ssz]; exact hlt)⟩
                go_wp2_with fail
                exact bodyPost_ret (v := .tuple #[.agg #[.int .i64 0, .int .i64 0], .int .i64 2]) (by simp [results, Tryd.results26, go_sem, r0, r1, rf, hz]) rfl (retF HE.out rfl (bset2 HB.out.below (by omega) _ _))
              · have hl2 : ¬ ((t2 : Nat) : Int) < s.size := by omega
                obtain ⟨t, ht⟩ : ∃ t, textF ((n : Int)) ((d : Int)) = t := ⟨_, rfl⟩
                have HT := Box.mk ht
                have FT : Box (Fit2 ((n : Int)) ((d : Int))) := ⟨by unfold Fit2; omega⟩
                go_wp2_with fail
                refine (rtext_s _ HT.out FT.out).mono ?_
                rintro e w6 ⟨rfl, hb⟩
                clear r0 r1 p0 p1 rf pf hz
                have HB2 := Lib.hid (HB.out.next hb); clear HB hb
                have HB := Lib.hid HB2.out; clear HB2
                obtain ⟨r0, r1⟩ := HB.out.R.c2
                obtain ⟨p0, p1⟩ := HB.out.A.c2
                have rf := HB.out.R.frozen
                have pf := HB.out.A.frozen
                have hz := HB.out.A.lt
                by_cases hte : t.toList = s.toList
                · have HE : Box (rparseF s.data.toList = ((n : Int), (d : Int), 0)) := ⟨by rw [show rparseF s.data.toList = tailF s.data.toList ((n : Int)) t2 d by rw [HT2.out, HTT.out]; exact rp_sl1 HA.out HG.out (by rw [← HTT.out]; exact HN.out) (by rw [← HTT.out]; exact HG2.out)]; exact tl_ok (by rw [ssz]; exact hlt) (by rw [ht, hte, ByteArray.toList_eq])⟩
                  have q1 : (t.toList == s.toList) = true := by simp [hte]
                  have q2 : (t.toList != s.toList) = false := by simp [hte]
                  clear hte ht
                  go_wp2_with fail
                  exact bodyPost_ret (v := .tuple #[.agg #[.int .i64 ((n : Int)), .int .i64 ((d : Int))], .int .i64 0]) (by simp [results, Tryd.results26, go_sem, r0, r1, rf, hz]) rfl (retF HE.out rfl (bset2 HB.out.below (by omega) _ _))
                · have HE0 : Box (rparseF s.data.toList = (0, 0, 2)) := ⟨by rw [show rparseF s.data.toList = tailF s.data.toList ((n : Int)) t2 d by rw [HT2.out, HTT.out]; exact rp_sl1 HA.out HG.out (by rw [← HTT.out]; exact HN.out) (by rw [← HTT.out]; exact HG2.out)]; exact tl_other (by rw [ht, ← ByteArray.toList_eq]; exact hte)⟩
                  have q1 : (t.toList == s.toList) = false := by simp [hte]
                  have q2 : (t.toList != s.toList) = true := by simp [hte]
                  clear hte ht
                  have HE : Box (rparseF s.data.toList = (0, 0, 2)) := ⟨HE0.out⟩
                  go_wp2_with fail
                  exact bodyPost_ret (v := .tuple #[.agg #[.int .i64 0, .int .i64 0], .int .i64 2]) (by simp [results, Tryd.results26, go_sem, r0, r1, rf, hz]) rfl (retF HE.out rfl (bset2 HB.out.below (by omega) _ _))
    · skip
      have HA : Box (1 = if s.data.toList[0]? = some 45 then 1 else 0) := ⟨by rw [if_pos (by simpa using hb0)]⟩
      clear hb0
      cases hg : dgF (s.data.toList.drop 1) with
      | none =>
        have HG := Box.mk hg; clear hg
        go_wp2_with fail
        refine (dig_none (a := 1) _ HG.out hs (by omega)).mono ?_
        rintro e w5 ⟨rfl, rfl⟩
        have HE : Box (rparseF s.data.toList = (0, 0, 2)) := ⟨rp_none HA.out HG.out⟩
        go_wp2_with fail
        exact bodyPost_ret (v := .tuple #[.agg #[.int .i64 0, .int .i64 0], .int .i64 2]) (by simp [results, Tryd.results26, go_sem, r0, r1, rf, hz]) rfl (retF HE.out rfl (bset2 HB.out.below (by omega) _ _))
      | some nk =>
        obtain ⟨n, k⟩ := nk
        obtain ⟨hnM, hkl⟩ := dg_bd hg
        rw [List.length_drop, ssz] at hkl
        have HG := Box.mk hg; clear hg
        have hka : 1 + k ≤ 1000 := by omega
        go_wp2_with fail
        refine (dig_some (a := 1) _ HG.out hs (by omega)).mono ?_
        rintro e w5 ⟨rfl, rfl⟩
        obtain ⟨tt, htt⟩ : ∃ tt, tt = 1 + k := ⟨_, rfl⟩
        rw [← htt]
        have HTT := Box.mk htt
        have htt2 : tt ≤ 1000 := by omega
        clear htt hka hkl
        have tn : ¬ ((tt : Nat) : Int) < 0 := by omega
        go_upto_region 11 with (fail)
        have HB2 := Lib.hid ((HB.out.num (n : Nat)).num (-(n : Int))); clear HB
        generalize ((World.setCell _ ⟨w.heap.size + 1, 0, none⟩ (.int .i64 (n : Nat))).setCell ⟨w.heap.size + 1, 0, none⟩ (.int .i64 (-(n : Int)))) = wd at HB2 ⊢
        have HB := Lib.hid HB2.out; clear HB2
        clear r0 r1 p0 p1 rf pf hz
        obtain ⟨r0, r1⟩ := HB.out.R.c2
        obtain ⟨p0, p1⟩ := HB.out.A.c2
        have rf := HB.out.R.frozen
        have pf := HB.out.A.frozen
        have hz := HB.out.A.lt
        go_cut [44] (fun x wx => x = .bool (decide (s.data.toList[tt]? = some 47)) ∧ P2 w wx (-(n : Int)) 1)
        case first =>
          rcases at_cases s tt 47 with ⟨h1, h2⟩ | ⟨h1, h2, h3⟩ | ⟨h1, h2, h3⟩
          · have HX := Box.mk h2; clear h2
            have h4 : ¬ ((tt : Nat) : Int) < s.size := by omega
            go_wp2_with fail
            go_meet
            exact ⟨by rw [HX.out], HB.out⟩
          · have HX := Box.mk h3; clear h3
            have h4 : ((tt : Nat) : Int) < s.size := by omega
            have h5 : ¬ s[tt].toNat = 47 := h2
            have h6 : ((s[tt].toNat : Int) == 47) = false := by simp; omega
            go_wp2_with fail
            go_meet
            exact ⟨by rw [HX.out], HB.out⟩
          · have HX := Box.mk h3; clear h3
            have h4 : ((tt : Nat) : Int) < s.size := by omega
            have h5 : s[tt].toNat = 47 := h2
            have h6 : ((s[tt].toNat : Int) == 47) = true := by simp; omega
            go_wp2_with fail
            go_meet
            exact ⟨by rw [HX.out], HB.out⟩
        case rest =>
          clear HB r0 r1 p0 p1 rf pf hz
          obtain ⟨rfl, hbx⟩ := hcut
          rename World => we
          have HB := Lib.hid hbx; clear hbx
          obtain ⟨r0, r1⟩ := HB.out.R.c2
          obtain ⟨p0, p1⟩ := HB.out.A.c2
          have rf := HB.out.R.frozen
          have pf := HB.out.A.frozen
          have hz := HB.out.A.lt
          cases h47 : decide (s.data.toList[tt]? = some 47)
          · have HN := Box.mk h47; clear h47
            by_cases hlt : tt < s.size
            · have hl2 : ((tt : Nat) : Int) < s.size := by omega
              have HE : Box (rparseF s.data.toList = (0, 0, 2)) := ⟨by rw [show rparseF s.data.toList = tailF s.data.toList (-(n : Int)) tt 1 by rw [HTT.out]; exact rp_plain HA.out HG.out (by rw [← HTT.out]; exact HN.out)]; exact tl_more (by rw [ssz]; exact hlt)⟩
              go_wp2_with fail
              exact bodyPost_ret (v := .tuple #[.agg #[.int .i64 0, .int .i64 0], .int .i64 2]) (by simp [results, Tryd.results26, go_sem, r0, r1, rf, hz]) rfl (retF HE.out rfl (bset2 HB.out.below (by omega) _ _))
            · have hl2 : ¬ ((tt : Nat) : Int) < s.size := by omega
              obtain ⟨t, ht⟩ : ∃ t, textF (-(n : Int)) (1) = t := ⟨_, rfl⟩
              have HT := Box.mk ht
              have FT : Box (Fit2 (-(n : Int)) (1)) := ⟨by unfold Fit2; omega⟩
              go_wp2_with fail
              refine (rtext_s _ HT.out FT.out).mono ?_
              rintro e w6 ⟨rfl, hb⟩
              clear r0 r1 p0 p1 rf pf hz
              have HB2 := Lib.hid (HB.out.next hb); clear HB hb
              have HB := Lib.hid HB2.out; clear HB2
              obtain ⟨r0, r1⟩ := HB.out.R.c2
              obtain ⟨p0, p1⟩ := HB.out.A.c2
              have rf := HB.out.R.frozen
              have pf := HB.out.A.frozen
              have hz := HB.out.A.lt
              by_cases hte : t.toList = s.toList
              · have HE : Box (rparseF s.data.toList = (-(n : Int), 1, 0)) := ⟨by rw [show rparseF s.data.toList = tailF s.data.toList (-(n : Int)) tt 1 by rw [HTT.out]; exact rp_plain HA.out HG.out (by rw [← HTT.out]; exact HN.out)]; exact tl_ok (by rw [ssz]; exact hlt) (by rw [ht, hte, ByteArray.toList_eq])⟩
                have q1 : (t.toList == s.toList) = true := by simp [hte]
                have q2 : (t.toList != s.toList) = false := by simp [hte]
                clear hte ht
                go_wp2_with fail
                exact bodyPost_ret (v := .tuple #[.agg #[.int .i64 (-(n : Int)), .int .i64 (1)], .int .i64 0]) (by simp [results, Tryd.results26, go_sem, r0, r1, rf, hz]) rfl (retF HE.out rfl (bset2 HB.out.below (by omega) _ _))
              · have HE0 : Box (rparseF s.data.toList = (0, 0, 2)) := ⟨by rw [show rparseF s.data.toList = tailF s.data.toList (-(n : Int)) tt 1 by rw [HTT.out]; exact rp_plain HA.out HG.out (by rw [← HTT.out]; exact HN.out)]; exact tl_other (by rw [ht, ← ByteArray.toList_eq]; exact hte)⟩
                have q1 : (t.toList == s.toList) = false := by simp [hte]
                have q2 : (t.toList != s.toList) = true := by simp [hte]
                clear hte ht
                have HE : Box (rparseF s.data.toList = (0, 0, 2)) := ⟨HE0.out⟩
                go_wp2_with fail
                exact bodyPost_ret (v := .tuple #[.agg #[.int .i64 0, .int .i64 0], .int .i64 2]) (by simp [results, Tryd.results26, go_sem, r0, r1, rf, hz]) rfl (retF HE.out rfl (bset2 HB.out.below (by omega) _ _))
          · have htl : tt < s.size := by
              rcases Nat.lt_or_ge tt s.size with h | h
              · exact h
              · rw [List.getElem?_eq_none (by rw [ssz]; exact h)] at h47; cases h47
            have HN := Box.mk h47; clear h47
            cases hg2 : dgF (s.data.toList.drop (tt + 1)) with
            | none =>
              have HG2 := Box.mk hg2; clear hg2
              go_wp2_with fail
              refine (dig_none (a := tt + 1) _ HG2.out hs (by omega)).mono ?_
              rintro e w5 ⟨rfl, rfl⟩
              have HE : Box (rparseF s.data.toList = (0, 0, 2)) := ⟨rp_sl0 HA.out HG.out (by rw [← HTT.out]; exact HN.out) (by rw [← HTT.out]; exact HG2.out)⟩
              go_wp2_with fail
              exact bodyPost_ret (v := .tuple #[.agg #[.int .i64 0, .int .i64 0], .int .i64 2]) (by simp [results, Tryd.results26, go_sem, r0, r1, rf, hz]) rfl (retF HE.out rfl (bset2 HB.out.below (by omega) _ _))
            | some dk =>
              obtain ⟨d, k2⟩ := dk
              obtain ⟨hdM, hk2⟩ := dg_bd hg2
              rw [List.length_drop, ssz] at hk2
              have HG2 := Box.mk hg2; clear hg2
              go_wp2_with fail
              refine (dig_some (a := tt + 1) _ HG2.out hs (by omega)).mono ?_
              rintro e w5 ⟨rfl, rfl⟩
              obtain ⟨t2, ht2⟩ : ∃ t2, t2 = tt + 1 + k2 := ⟨_, rfl⟩
              rw [← ht2]
              have HT2 := Box.mk ht2
              have ht3 : t2 ≤ 1000 := by omega
              clear ht2 hk2
              have tn2 : ¬ ((t2 : Nat) : Int) < 0 := by omega
              go_upto_region 17 with (fail)
              have HB2 := Lib.hid (HB.out.den (d : Nat)); clear HB
              generalize (World.setCell _ ⟨w.heap.size + 1, 1, none⟩ (.int .i64 (d : Nat))) = wf at HB2 ⊢
              have HB := Lib.hid HB2.out; clear HB2
              clear r0 r1 p0 p1 rf pf hz
              obtain ⟨r0, r1⟩ := HB.out.R.c2
              obtain ⟨p0, p1⟩ := HB.out.A.c2
              have rf := HB.out.R.frozen
              have pf := HB.out.A.frozen
              have hz := HB.out.A.lt
              by_cases hlt : t2 < s.size
              · have hl2 : ((t2 : Nat) : Int) < s.size := by omega
                have HE : Box (rparseF s.data.toList = (0, 0, 2)) := ⟨by rw [show rparseF s.data.toList = tailF s.data.toList (-(n : Int)) t2 d by rw [HT2.out, HTT.out]; exact rp_sl1 HA.out HG.out (by rw [← HTT.out]; exact HN.out) (by rw [← HTT.out]; exact HG2.out)]; exact tl_more (by rw [ssz]; exact hlt)⟩
                go_wp2_with fail
                exact bodyPost_ret (v := .tuple #[.agg #[.int .i64 0, .int .i64 0], .int .i64 2]) (by simp [results, Tryd.results26, go_sem, r0, r1, rf, hz]) rfl (retF HE.out rfl (bset2 HB.out.below (by omega) _ _))
              · have hl2 : ¬ ((t2 : Nat) : Int) < s.size := by omega
                obtain ⟨t, ht⟩ : ∃ t, textF (-(n : Int)) ((d : Int)) = t := ⟨_, rfl⟩
                have HT := Box.mk ht
                have FT : Box (Fit2 (-(n : Int)) ((d : Int))) := ⟨by unfold Fit2; omega⟩
                go_wp2_with fail
                refine (rtext_s _ HT.out FT.out).mono ?_
                rintro e w6 ⟨rfl, hb⟩
                clear r0 r1 p0 p1 rf pf hz
                have HB2 := Lib.hid (HB.out.next hb); clear HB hb
                have HB := Lib.hid HB2.out; clear HB2
                obtain ⟨r0, r1⟩ := HB.out.R.c2
                obtain ⟨p0, p1⟩ := HB.out.A.c2
                have rf := HB.out.R.frozen
                have pf := HB.out.A.frozen
                have hz := HB.out.A.lt
                by_cases hte : t.toList = s.toList
                · have HE : Box (rparseF s.data.toList = (-(n : Int), (d : Int), 0)) := ⟨by rw [show rparseF s.data.toList = tailF s.data.toList (-(n : Int)) t2 d by rw [HT2.out, HTT.out]; exact rp_sl1 HA.out HG.out (by rw [← HTT.out]; exact HN.out) (by rw [← HTT.out]; exact HG2.out)]; exact tl_ok (by rw [ssz]; exact hlt) (by rw [ht, hte, ByteArray.toList_eq])⟩
                  have q1 : (t.toList == s.toList) = true := by simp [hte]
                  have q2 : (t.toList != s.toList) = false := by simp [hte]
                  clear hte ht
                  go_wp2_with fail
                  exact bodyPost_ret (v := .tuple #[.agg #[.int .i64 (-(n : Int)), .int .i64 ((d : Int))], .int .i64 0]) (by simp [results, Tryd.results26, go_sem, r0, r1, rf, hz]) rfl (retF HE.out rfl (bset2 HB.out.below (by omega) _ _))
                · have HE0 : Box (rparseF s.data.toList = (0, 0, 2)) := ⟨by rw [show rparseF s.data.toList = tailF s.data.toList (-(n : Int)) t2 d by rw [HT2.out, HTT.out]; exact rp_sl1 HA.out HG.out (by rw [← HTT.out]; exact HN.out) (by rw [← HTT.out]; exact HG2.out)]; exact tl_other (by rw [ht, ← ByteArray.toList_eq]; exact hte)⟩
                  have q1 : (t.toList == s.toList) = false := by simp [hte]
                  have q2 : (t.toList != s.toList) = true := by simp [hte]
                  clear hte ht
                  have HE : Box (rparseF s.data.toList = (0, 0, 2)) := ⟨HE0.out⟩
                  go_wp2_with fail
                  exact bodyPost_ret (v := .tuple #[.agg #[.int .i64 0, .int .i64 0], .int .i64 2]) (by simp [results, Tryd.results26, go_sem, r0, r1, rf, hz]) rfl (retF HE.out rfl (bset2 HB.out.below (by omega) _ _))
end Go.Proofs.YtlplligfnbkofaaDoor
