/- Contracts, packed: Oj. -/
import Derived.Test.YthoibeajhdhdhaaGreatDoorPy3
import Derived.Test.YthoibeajhdhdhaaGreatDoorPy37
set_option linter.unusedVariables false
set_option linter.unusedSimpArgs false
namespace Go.Proofs.YthoibeajhdhdhaaGreatDoor
section
open Go.RowKit FracM
theorem sCurl_sym : SymX sCurl := ⟨123, [], rfl, by decide⟩
theorem sDot_sym : SymX sDot := ⟨46, [], rfl, by decide⟩
theorem sAt_sym : SymX sAt := ⟨64, [], rfl, by decide⟩
theorem kindZ_cons {ts : List Tok} (h : kindZ ts = 0) : ∃ t r, ts = t :: r ∧ t.kind = 0 := by
 cases ts with
 | nil => cases h
 | cons t r => exact ⟨t, r, rfl, h⟩
theorem tail_ne {s : StP} {k : Int} {x : List UInt8} (h : ∀ ts, s = .ok ts → true = isT ts k x) : ∀ ts, s = .ok ts → ts ≠ [] := fun ts hs h0 => by have := h ts hs; rw [h0] at this; cases this
set_option maxHeartbeats 8000000 in
set_option maxRecDepth 100000 in
theorem rselect_u {w : World} {g : Nat} {A : Option Addr} {c : Nat} {N : Int} {toks : List Tok} {s : StP} (h : RX w g A c N toks s) : Calls Tryz.prog 148 #[.pointer (some ⟨g, 0, none⟩)] w (RetU g A c N toks w (bindS s (fun ts => andR (wordM N ts) fun x ts1 => selectM N x ts1)) (VTr w.heap.size) GTr) := by
 have H := Box.mk h
 have HTO : Box (∀ ts, s = .ok ts → ∀ t ∈ ts, TokOk t) := ⟨fun ts hs => (h.wfd hs).2⟩
 have HP0 : Box (RX (w.alloc (.cells zeroC 29)) g A c N toks s) := ⟨h.below (bel1 _ _)⟩
 clear h
 obtain ⟨x, HX⟩ : ∃ x, Box (strR (bindS s (wordM N)) = x) := ⟨_, ⟨rfl⟩⟩
 obtain ⟨s1, HS1⟩ : ∃ s1, Box (sOf (bindS s (wordM N)) = s1) := ⟨_, ⟨rfl⟩⟩
 go_enter Tryz.func148, Tryz.ntmps148
 go_wp2_with fail
 refine (rword_v HP0.out).mono ?_
 rw [HX.out, HS1.out]
 rintro e w1 ⟨rfl, ho, hp⟩
 have HF0 : Box (RF w (w1.alloc (.cells #[.int .i64 1, .int .i64 0, .int .i64 0, .int .i64 0, .int .i64 0, .int .i64 0, .int .i64 0, .string x, nilV, nilV, nilV] 29)) g A c N toks s1 w1.heap.size #[.int .i64 1, .int .i64 0, .int .i64 0, .int .i64 0, .int .i64 0, .int .i64 0, .int .i64 0, .string x, nilV, nilV, nilV]) := ⟨by
  have hz : w.heap.size + 1 ≤ w1.heap.size := by have := ho.size; simpa using this
  exact ⟨((Only.of_below (bel1 w _)).trans ho).trans (Only.of_below (bel1 w1 _)), hp.below (bel1 _ _), (ho.blk (Blk.new w zeroC 29) (by have := H.out.lt; omega)).alloc _, Blk.new _ _ _, by omega, H.out.lt⟩⟩
 clear ho hp HP0 H
 go_upto_region 2 with (fail)
 obtain ⟨o, hgo⟩ : ∃ o, w1.heap.size = o := ⟨_, rfl⟩
 rw [hgo] at HF0 ⊢
 generalize w1.alloc (.cells #[.int .i64 1, .int .i64 0, .int .i64 0, .int .i64 0, .int .i64 0, .int .i64 0, .int .i64 0, .string x, nilV, nilV, nilV] 29) = W at HF0 ⊢
 clear hgo
 go_upto_if 9 with (go_at_call 105; refine (ris_s sCurl ⟨#[123]⟩ rfl sCurl_sym HF0.out.st).mono ?_; rintro e w2 ⟨b, rfl, hb, m2, rfl⟩)
 have HB := Box.mk hb
 have HF1 := Box.mk (HF0.out.drewN m2)
 clear HF0 hb
 generalize W.drewN m2 = W at HF1 ⊢
 go_cut [] (fun wx => ∃ s2 mv l, Box (RF w wx g A c N toks s2 o #[.int .i64 1, .int .i64 0, .int .i64 0, .int .i64 0, .int .i64 0, .int .i64 0, .int .i64 0, .string x, mv, nilV, nilV]) ∧ Box (StepR s1 s2 (sMatM N) l) ∧ Box (GSl mv ∧ ∀ ts, s2 = .ok ts → VMats (o + 1) l mv wx))
 case first =>
  have cf := HF1.out.out.frozen
  obtain ⟨c0, c1, c2, c3, c4, c5, c6, c7, c8, c9, c10⟩ := blkE HF1.out.out
  cases b
  ·go_wp2_with fail
   go_meet
   exact ⟨s1, nilV, [], HF1, ⟨StepR.id fun ts hs => by unfold sMatM; rw [if_neg (by rw [← HB.out ts hs]; simp)]⟩, ⟨⟨_, _, _, rfl⟩, fun ts hs => ⟨by simp, by simp, SeqP.nil _ _ _⟩⟩⟩
  ·go_wp2_with fail
   clear c0 c1 c2 c3 c4 c5 c6 c7 c8 c9 c10 cf
   refine (rmats_u (fun ts hs => (HB.out ts hs).symm) HF1.out.st).mono ?_
   obtain ⟨rm, HRM⟩ : ∃ rm, Box (bindS s1 (sMatM N) = rm) := ⟨_, ⟨rfl⟩⟩
   rw [HRM.out]
   rintro e w3 ⟨ho, hp, v, rfl, hv⟩
   obtain ⟨l, HV⟩ : ∃ l, Box ((GSl v ∧ ∀ ts, sOf rm = .ok ts → VMats (o + 1) l v w3) ∧ ∀ u us, rm = .ok (u, us) → u = l) := by
    match rm, hv with
    | .error f, hv => exact ⟨[], ⟨⟨hv, fun ts hs => (by cases hs)⟩, fun u us hu => (by cases hu)⟩⟩
    | .ok (l, us), hv =>
     obtain ⟨h1, h2, h3⟩ := hv
     obtain ⟨A1, q1, hq1, -⟩ := h3.form
     refine ⟨l, ⟨⟨⟨A1, _, q1, hq1⟩, fun ts hs => ⟨h1, h2, h3.mono fun b e _ hb => ?_⟩⟩, fun u us hu => (by cases hu; rfl)⟩⟩
     have := HF1.out.size
     omega
   have HF2 := Box.mk (HF1.out.step ho hp)
   have HAG : Box (Agree (fun b _ => o + 1 ≤ b) w3 (w3.setCell ⟨o, 8, none⟩ v)) := ⟨Agree.of_only (Only.setCell 8 v) fun b _ hb => by omega⟩
   clear hv ho hp HF1
   obtain ⟨A1, q1, q2, rfl⟩ := HV.out.1.1
   have cf := HF2.out.out.frozen
   obtain ⟨c0, c1, c2, c3, c4, c5, c6, c7, c8, c9, c10⟩ := blkE HF2.out.out
   go_wp2_with fail
   go_meet
   exact ⟨sOf rm, .slice A1 q1 q2, l, ⟨HF2.out.set 8 _⟩, ⟨StepR.of (by rw [HRM.out]) (by rw [HRM.out]; exact HV.out.2)⟩, ⟨⟨_, _, _, rfl⟩, fun ts hs => ⟨(HV.out.1.2 ts hs).1, (HV.out.1.2 ts hs).2.1, (HV.out.1.2 ts hs).2.2.keep HAG.out⟩⟩⟩
 case rest =>
  obtain ⟨s2, mv, l, HF2, HST2, HMV⟩ := hcut
  rename World => W2
  clear HF1 HB
  obtain ⟨A1, q1, q2, rfl⟩ := HMV.out.1
  have HF3' := HF2
  go_upto_if 14 with (go_at_call 105; refine (ris_s sDot ⟨#[46]⟩ rfl sDot_sym HF2.out.st).mono ?_; rintro e w3 ⟨b2, rfl, hb2, m3, rfl⟩)
  have HB2 := Box.mk hb2
  have HF3 := Box.mk (HF2.out.drewN m3)
  have HA3 : Box (Agree (fun b _ => o < b) W2 (W2.drewN m3)) := ⟨agb (below_drewN _ _)⟩
  clear HF2 HF3' hb2
  generalize W2.drewN m3 = W3 at HF3 HA3 ⊢
  go_cut [] (fun wx => ∃ s3 fn win k, Box (RF w wx g A c N toks s3 o #[.int .i64 1, .int .i64 fn, .int .i64 win, .int .i64 0, .int .i64 k, .int .i64 0, .int .i64 0, .string x, (.slice A1 q1 q2), nilV, nilV]) ∧ Box (Agree (fun b _ => o < b) W2 wx) ∧ Box (StepR s2 s3 (sFunM N) (fn, win, k)))
  case first =>
   cases b2
   ·go_wp2_with fail
    go_meet
    exact ⟨s2, 0, 0, 0, HF3, HA3, ⟨StepR.id fun ts hs => by unfold sFunM; rw [if_neg (by rw [← HB2.out ts hs]; simp)]⟩⟩
   ·go_wp2_with fail
    refine (rtake_u (tail_ne HB2.out) HF3.out.st).mono ?_
    rintro e w4 ⟨rfl, ho, hp⟩
    have HF4 := Box.mk (HF3.out.step ho hp)
    have HA4 := Box.mk (HA3.out.trans (HF3.out.ag ho))
    clear ho hp HF3 HA3
    go_upto_region 6 with (fail)
    go_cut [35] (fun v wx => ∃ q : Bool, v = .bool q ∧ Box (Below w4.heap.size w4 wx) ∧ Box (∀ ts, tailS s2 = .ok ts → q = !decide (kindT ts 0 = true ∧ 0 ≤ idxT funcsT (headT ts).text)))
    case first =>
     obtain ⟨i, a, hrp, hok, -⟩ := HF4.out.st.rp
     have HRP := Box.mk hrp
     have HOK : Box (∀ ts, tailS s2 = .ok ts → toks.drop i = ts) := ⟨fun ts hs => (hok ts hs).1⟩
     clear hok
     by_cases hz : kindZ (toks.drop i) = 0
     ·obtain ⟨t, r, hd, htk⟩ := kindZ_cons hz
      obtain ⟨ht, -, hlt⟩ := drop_cons hd
      obtain ⟨b, off, hA, hb, hne, -, -, k0, k1, k2, k3⟩ := hrp.tok ht
      obtain ⟨d0, d1, d2, d3, d4⟩ := hrp.mem.c5
      rw [hA] at d0
      have hlt2 : (i : Int) < (toks.length : Int) := by omega
      have hi0 : (0 : Int) ≤ (i : Int) := by omega
      obtain ⟨kz, hkz⟩ : ∃ kz, kindZ (toks.drop i) = kz := ⟨_, rfl⟩
      have HKZ := Box.mk hkz
      have hz2 : (kz != 0) = false := by rw [← hkz]; simp [hz]
      obtain ⟨tx, htx⟩ : ∃ tx, bsL t.text = tx := ⟨_, rfl⟩
      have HFD : Box (∀ ts, tailS s2 = .ok ts → decide (findI tx funL8 0 < 0) = !decide (kindT ts 0 = true ∧ 0 ≤ idxT funcsT (headT ts).text)) := ⟨fun ts hs => by
       have := HOK.out ts hs
       rw [← this, hd, ← htx, find_fun]
       have h1 : kindT (t :: r) 0 = true := by simp [kindT, htk]
       have h2 : (headT (t :: r)).text = t.text := rfl
       rw [h1, h2]
       simp only [true_and]
       rw [Bool.eq_iff_iff]; simp⟩
      rw [htx] at k1
      clear hz hd ht k0 k2 k3 d2 d3 d4 hkz htx htk hrp
      go_region_held3 (fun w' => w'.cell? ⟨g, 0, none⟩ = some (.slice (some ⟨b, off, none⟩) toks.length c) ∧ w'.cell? ⟨g, 1, none⟩ = some (.int .i64 (i : Int)) ∧ w'.cell? ⟨b, off + i * 4 + 1, none⟩ = some (.string tx)) (go_keep)
       (first
        | (go_at_call 130; refine (rkind_any (HRP.out.drewN 1)).mono ?_; rw [HKZ.out]; rintro e w5 ⟨rfl, m5, rfl⟩)
        | (go_at_call 102; refine (rfuncs_any _).mono ?_; rintro e w6 ⟨rfl, rfl⟩)
        | (go_at_call 114; refine (rfind_any _ _ _ funL8 tx _ (fun_at _)).mono ?_; rintro e w7 ⟨rfl, rfl⟩))
      go_wp2_with fail
      go_meet
      exact ⟨_, rfl, ⟨bthen (below_drewN w4 _) (bel1 _ _) (Nat.le_refl _)⟩, HFD⟩
     ·obtain ⟨kz, hkz⟩ : ∃ kz, kindZ (toks.drop i) = kz := ⟨_, rfl⟩
      have HKZ := Box.mk hkz
      have hz2 : (kz != 0) = true := by rw [← hkz]; simp [hz]
      have HFD : Box (∀ ts, tailS s2 = .ok ts → true = !decide (kindT ts 0 = true ∧ 0 ≤ idxT funcsT (headT ts).text)) := ⟨fun ts hs => by
       have := HOK.out ts hs
       rw [kindZ_T ts 0 (by omega), ← this, decide_eq_false hz]; simp⟩
      clear hz hkz hrp
      refine wp_region_H (S := (fun w' : World => True)) (by kernel_rfl) (by exact trivial) (fun hHeld => ?_)
      refine wpAnyH_take (i := 0) (v := ?_) rfl (by kernel_rfl) (by kernel_rfl) (by kernel_rfl) (fun _ _ _ h => h) (Or.inl ⟨by rfl, ?_⟩) (by assumption) ?_
      rotate_left
      ·(intro wq hSw; (try dsimp only at hSw); go_simp)
       all_goals with_reducible rfl
      (try simp only [List.getElem_toArray, List.getElem_cons_zero, List.getElem_cons_succ, Act.put, List.setIfInBounds_toArray, List.set_cons_zero, List.set_cons_succ])
      refine wpAnyH_one 1 (by kernel_rfl) rfl (fun K' hK' => ?_)
      (try rw [if_pos (by rfl)])
      go_simp
      refine (rkind_any (HRP.out.drewN 1)).mono ?_
      rw [HKZ.out]
      rintro e w5 ⟨rfl, m5, rfl⟩
      go_wp2_with fail
      refine hK'.out _ _ trivial (fun hHq => ?_)
      clear hHeld
      have hHeld := hHq
      clear hHq hK' K'
      (try simp only [List.getElem_toArray, List.getElem_cons_zero, List.getElem_cons_succ, Act.put, List.setIfInBounds_toArray, List.set_cons_zero, List.set_cons_succ])
      (try simp only [List.getElem_toArray, List.getElem_cons_zero, List.getElem_cons_succ, Act.put, List.setIfInBounds_toArray, List.set_cons_zero, List.set_cons_succ])
      refine wpAnyH_take (i := 2) (v := ?_) rfl (by kernel_rfl) (by kernel_rfl) (by kernel_rfl) (fun _ _ _ h => h) (Or.inl ⟨by rfl, ?_⟩) (by assumption) ?_
      rotate_left
      ·(intro wq hSw; (try dsimp only at hSw); go_simp)
       all_goals with_reducible rfl
      (try simp only [List.getElem_toArray, List.getElem_cons_zero, List.getElem_cons_succ, Act.put, List.setIfInBounds_toArray, List.set_cons_zero, List.set_cons_succ])
      refine wpAnyH_take (i := 3) (v := ?_) rfl (by kernel_rfl) (by kernel_rfl) (by kernel_rfl) (fun _ _ _ h => h) (Or.inl ⟨by rfl, ?_⟩) (by assumption) ?_
      rotate_left
      ·(intro wq hSw; (try dsimp only at hSw); go_simp)
       all_goals with_reducible rfl
      (try simp only [List.getElem_toArray, List.getElem_cons_zero, List.getElem_cons_succ, Act.put, List.setIfInBounds_toArray, List.set_cons_zero, List.set_cons_succ])
      refine wpAnyH_take (i := 4) (v := undef) rfl (by kernel_rfl) (by kernel_rfl) (by kernel_rfl) (fun _ _ _ h => h) (Or.inr ⟨by rfl, rfl⟩) (by assumption) ?_
      (try simp only [List.getElem_toArray, List.getElem_cons_zero, List.getElem_cons_succ, Act.put, List.setIfInBounds_toArray, List.set_cons_zero, List.set_cons_succ])
      refine wpAnyH_take (i := 5) (v := undef) rfl (by kernel_rfl) (by kernel_rfl) (by kernel_rfl) (fun _ _ _ h => h) (Or.inr ⟨by rfl, rfl⟩) (by assumption) ?_
      (try simp only [List.getElem_toArray, List.getElem_cons_zero, List.getElem_cons_succ, Act.put, List.setIfInBounds_toArray, List.set_cons_zero, List.set_cons_succ])
      refine wpAnyH_take (i := 6) (v := undef) rfl (by kernel_rfl) (by kernel_rfl) (by kernel_rfl) (fun _ _ _ h => h) (Or.inr ⟨by rfl, rfl⟩) (by assumption) ?_
      (try simp only [List.getElem_toArray, List.getElem_cons_zero, List.getElem_cons_succ, Act.put, List.setIfInBounds_toArray, List.set_cons_zero, List.set_cons_succ])
      refine wpAnyH_take (i := 7) (v := undef) rfl (by kernel_rfl) (by kernel_rfl) (by kernel_rfl) (fun _ _ _ h => h) (Or.inr ⟨by rfl, rfl⟩) (by assumption) ?_
      (try simp only [List.getElem_toArray, List.getElem_cons_zero, List.getElem_cons_succ, Act.put, List.setIfInBounds_toArray, List.set_cons_zero, List.set_cons_succ])
      refine wpAnyH_take (i := 8) (v := undef) rfl (by kernel_rfl) (by kernel_rfl) (by kernel_rfl) (fun _ _ _ h => h) (Or.inr ⟨by rfl, rfl⟩) (by assumption) ?_
      (try simp only [List.getElem_toArray, List.getElem_cons_zero, List.getElem_cons_succ, Act.put, List.setIfInBounds_toArray, List.set_cons_zero, List.set_cons_succ])
      refine wpAnyH_take (i := 9) (v := undef) rfl (by kernel_rfl) (by kernel_rfl) (by kernel_rfl) (fun _ _ _ h => h) (Or.inr ⟨by rfl, rfl⟩) (by assumption) ?_
      (try simp only [List.getElem_toArray, List.getElem_cons_zero, List.getElem_cons_succ, Act.put, List.setIfInBounds_toArray, List.set_cons_zero, List.set_cons_succ])
      refine wpAnyH_take (i := 10) (v := undef) rfl (by kernel_rfl) (by kernel_rfl) (by kernel_rfl) (fun _ _ _ h => h) (Or.inr ⟨by rfl, rfl⟩) (by assumption) ?_
      (try simp only [List.getElem_toArray, List.getElem_cons_zero, List.getElem_cons_succ, Act.put, List.setIfInBounds_toArray, List.set_cons_zero, List.set_cons_succ])
      refine wpAnyH_take (i := 11) (v := undef) rfl (by kernel_rfl) (by kernel_rfl) (by kernel_rfl) (fun _ _ _ h => h) (Or.inr ⟨by rfl, rfl⟩) (by assumption) ?_
      (try simp only [List.getElem_toArray, List.getElem_cons_zero, List.getElem_cons_succ, Act.put, List.setIfInBounds_toArray, List.set_cons_zero, List.set_cons_succ])
      refine wpAnyH_take (i := 12) (v := undef) rfl (by kernel_rfl) (by kernel_rfl) (by kernel_rfl) (fun _ _ _ h => h) (Or.inr ⟨by rfl, rfl⟩) (by assumption) ?_
      (try simp only [List.getElem_toArray, List.getElem_cons_zero, List.getElem_cons_succ, Act.put, List.setIfInBounds_toArray, List.set_cons_zero, List.set_cons_succ])
      refine wpAnyH_take (i := 13) (v := undef) rfl (by kernel_rfl) (by kernel_rfl) (by kernel_rfl) (fun _ _ _ h => h) (Or.inr ⟨by rfl, rfl⟩) (by assumption) ?_
      (try simp only [List.getElem_toArray, List.getElem_cons_zero, List.getElem_cons_succ, Act.put, List.setIfInBounds_toArray, List.set_cons_zero, List.set_cons_succ])
      refine wpAnyH_take (i := 14) (v := undef) rfl (by kernel_rfl) (by kernel_rfl) (by kernel_rfl) (fun _ _ _ h => h) (Or.inr ⟨by rfl, rfl⟩) (by assumption) ?_
      (try simp only [List.getElem_toArray, List.getElem_cons_zero, List.getElem_cons_succ, Act.put, List.setIfInBounds_toArray, List.set_cons_zero, List.set_cons_succ])
      refine wpAnyH_take (i := 15) (v := undef) rfl (by kernel_rfl) (by kernel_rfl) (by kernel_rfl) (fun _ _ _ h => h) (Or.inr ⟨by rfl, rfl⟩) (by assumption) ?_
      (try simp only [List.getElem_toArray, List.getElem_cons_zero, List.getElem_cons_succ, Act.put, List.setIfInBounds_toArray, List.set_cons_zero, List.set_cons_succ])
      refine wpAnyH_take (i := 16) (v := undef) rfl (by kernel_rfl) (by kernel_rfl) (by kernel_rfl) (fun _ _ _ h => h) (Or.inr ⟨by rfl, rfl⟩) (by assumption) ?_
      (try simp only [List.getElem_toArray, List.getElem_cons_zero, List.getElem_cons_succ, Act.put, List.setIfInBounds_toArray, List.set_cons_zero, List.set_cons_succ])
      refine wpAnyH_take (i := 17) (v := undef) rfl (by kernel_rfl) (by kernel_rfl) (by kernel_rfl) (fun _ _ _ h => h) (Or.inr ⟨by rfl, rfl⟩) (by assumption) ?_
      (try simp only [List.getElem_toArray, List.getElem_cons_zero, List.getElem_cons_succ, Act.put, List.setIfInBounds_toArray, List.set_cons_zero, List.set_cons_succ])
      refine wpAnyH_take (i := 18) (v := ?_) rfl (by kernel_rfl) (by kernel_rfl) (by kernel_rfl) (fun _ _ _ h => h) (Or.inl ⟨by rfl, ?_⟩) (by assumption) ?_
      rotate_left
      ·(intro wq hSw; (try dsimp only at hSw); go_simp)
       all_goals with_reducible rfl
      (try simp only [List.getElem_toArray, List.getElem_cons_zero, List.getElem_cons_succ, Act.put, List.setIfInBounds_toArray, List.set_cons_zero, List.set_cons_succ])
      refine wpAnyH_done (by kernel_rfl) ?_ _
      go_wp2_with fail
      go_meet
      exact ⟨_, rfl, ⟨below_drewN w4 _⟩, HFD⟩
    case rest =>
     obtain ⟨q, rfl, HBx, HQ⟩ := hcut
     rename World => W5
     have HF5 := Box.mk (HF4.out.next HBx.out)
     have HA5 : Box (Agree (fun b _ => o < b) W2 W5) := ⟨HA4.out.trans (agb HBx.out)⟩
     clear HF4 HA4 HBx
     go_upto_if 35 with (fail)
     go_cut [] (fun wx => ∃ sb, Box (RF w wx g A c N toks sb o #[.int .i64 1, .int .i64 0, .int .i64 0, .int .i64 0, .int .i64 0, .int .i64 0, .int .i64 0, .string x, (.slice A1 q1 q2), nilV, nilV]) ∧ Box (Agree (fun b _ => o < b) W2 wx) ∧ Box (sb = if q = true then failS (tailS s2) N 2 else tailS s2))
     case first =>
      cases q
      ·go_wp2_with fail
       go_meet
       exact ⟨_, HF5, HA5, ⟨by simp⟩⟩
      ·go_wp2_with fail
       refine (rfail_u 2 (by omega) HF5.out.st).mono ?_
       rintro e w6 ⟨rfl, ho, hp⟩
       have HF6 := Box.mk (HF5.out.step ho hp)
       have HA6 := Box.mk (HA5.out.trans (HF5.out.ag ho))
       clear ho hp HF5 HA5
       go_wp2_with fail
       go_meet
       exact ⟨_, HF6, HA6, ⟨by simp⟩⟩
     case rest =>
      obtain ⟨sb, HF6, HA6, HSB⟩ := hcut
      rename World => W6
      clear HF5 HA5
      obtain ⟨f, HFW⟩ : ∃ f, Box (strR (bindS sb (wordM N)) = f) := ⟨_, ⟨rfl⟩⟩
      obtain ⟨sc, HSC⟩ : ∃ sc, Box (sOf (bindS sb (wordM N)) = sc) := ⟨_, ⟨rfl⟩⟩
      go_wp2_with fail
      refine (rword_v HF6.out.st).mono ?_
      rw [HFW.out, HSC.out]
      rintro e w7 ⟨rfl, ho, hp⟩
      have HF7 := Box.mk (HF6.out.step ho hp)
      have HA7 := Box.mk (HA6.out.trans (HF6.out.ag ho))
      clear ho hp HF6 HA6
      have c4' := HF7.out.st.err
      go_upto_if 44 with (fail)
      clear c4'
      go_cut [] (fun wx => ∃ fn, Box (RF w wx g A c N toks sc o #[.int .i64 1, .int .i64 fn, .int .i64 0, .int .i64 0, .int .i64 0, .int .i64 0, .int .i64 0, .string x, (.slice A1 q1 q2), nilV, nilV]) ∧ Box (Agree (fun b _ => o < b) W2 wx) ∧ Box ((∀ e, sc = .error e → fn = 0) ∧ ∀ ts, sc = .ok ts → fn = findI f funL8 0))
      case first =>
       rcases sc with er | ts7
       ·have he2 : (er.2 == 0) = false := by have := HF7.out.st.bad rfl; simp [this]
        show Code.wp _ _ _ _ _
        simp only [errS]
        go_wp2_with fail
        go_meet
        exact ⟨0, HF7, HA7, ⟨fun e he => rfl, fun ts hs => (by cases hs)⟩⟩
       ·simp only [errS]
        go_wp2_with fail
        refine (rfuncs_any _).mono ?_
        rintro e w8 ⟨rfl, rfl⟩
        have HF8 := Box.mk (HF7.out.next (bel1 w7 (.cells funC 9)))
        have HA8 : Box (Agree (fun b _ => o < b) W2 (w7.alloc (.cells funC 9))) := ⟨HA7.out.trans (agb (bel1 _ _))⟩
        have HFN : Box (StrsP (w7.alloc (.cells funC 9)) (.slice (some ⟨w7.heap.size, 0, none⟩) 8 8) funL8) := ⟨fun_at _⟩
        clear HF7 HA7
        generalize w7.alloc (.cells funC 9) = W8 at HF8 HA8 HFN ⊢
        have cf := HF8.out.out.frozen
        obtain ⟨c0, c1, c2, c3, c4, c5, c6, c7, c8, c9, c10⟩ := blkE HF8.out.out
        go_wp2_with fail
        refine (rfind_any _ _ _ funL8 f _ HFN.out).mono ?_
        rintro e w9 ⟨rfl, hw9⟩
        subst w9
        go_wp2_with fail
        go_meet
        exact ⟨_, ⟨HF8.out.set 1 _⟩, ⟨HA8.out.trans (ago (Only.setCell 1 _))⟩, ⟨fun e he => (by cases he), fun ts hs => rfl⟩⟩
      case rest =>
       obtain ⟨fn, HF8, HA8, HFN⟩ := hcut
       rename World => W8
       clear HF7 HA7
       have cf := HF8.out.out.frozen
       obtain ⟨c0, c1, c2, c3, c4, c5, c6, c7, c8, c9, c10⟩ := blkE HF8.out.out
       go_upto_if 51 with (fail)
       clear c0 c1 c2 c3 c4 c5 c6 c7 c8 c9 c10 cf
       go_cut [] (fun wx => ∃ s3 win k, Box (RF w wx g A c N toks s3 o #[.int .i64 1, .int .i64 fn, .int .i64 win, .int .i64 0, .int .i64 k, .int .i64 0, .int .i64 0, .string x, (.slice A1 q1 q2), nilV, nilV]) ∧ Box (Agree (fun b _ => o < b) W2 wx) ∧ Box (StepR sc s3 (argM N fn) (win, k)))
       case first =>
        by_cases hf0 : fn = 0
        ·have HF0 := Box.mk hf0
         have h2 : (fn != 0) = false := by simp [hf0]
         clear hf0
         go_wp2_with fail
         go_meet
         exact ⟨sc, 0, 0, HF8, HA8, ⟨StepR.id fun ts hs => by unfold argM; rw [if_pos HF0.out]⟩⟩
        ·have HF0 := Box.mk hf0
         have h2 : (fn != 0) = true := by simp [hf0]
         clear hf0
         obtain ⟨t1, HT1⟩ : ∃ t1, Box (sOf (bindS sc (symbolM N sOpen)) = t1) := ⟨_, ⟨rfl⟩⟩
         obtain ⟨t2, HT2⟩ : ∃ t2, Box (sOf (bindS t1 (numberM N 1 4096)) = t2) := ⟨_, ⟨rfl⟩⟩
         obtain ⟨win, HWI⟩ : ∃ win, Box (intR (bindS t1 (numberM N 1 4096)) = win) := ⟨_, ⟨rfl⟩⟩
         go_wp2_with fail
         refine (rexpect_v sOpen ⟨#[40]⟩ rfl sOpen_sym HF8.out.st).mono ?_
         rw [HT1.out]
         rintro e w9 ⟨rfl, ho, hp⟩
         have HF9 := Box.mk (HF8.out.step ho hp)
         have HA9 := Box.mk (HA8.out.trans (HF8.out.ag ho))
         clear ho hp HF8 HA8
         go_wp2_with fail
         refine (rnumber_v 1 4096 HF9.out.st).mono ?_
         rw [HT2.out, HWI.out]
         rintro e w10 ⟨rfl, ho, hp⟩
         have HF10 := Box.mk (HF9.out.step ho hp)
         have HA10 := Box.mk (HA9.out.trans (HF9.out.ag ho))
         clear ho hp HF9 HA9
         have cf := HF10.out.out.frozen
         obtain ⟨c0, c1, c2, c3, c4, c5, c6, c7, c8, c9, c10⟩ := blkE HF10.out.out
         go_upto_region 14 with (fail)
         have HF11 := Box.mk (HF10.out.set 2 (.int .i64 win))
         have HA11 : Box (Agree (fun b _ => o < b) W2 (w10.setCell ⟨o, 2, none⟩ (.int .i64 win))) := ⟨HA10.out.trans (ago (Only.setCell 2 _))⟩
         clear c0 c1 c2 c3 c4 c5 c6 c7 c8 c9 c10 cf HF10 HA10
         generalize w10.setCell ⟨o, 2, none⟩ (.int .i64 win) = W11 at HF11 HA11 ⊢
         have cf := HF11.out.out.frozen
         obtain ⟨c0, c1, c2, c3, c4, c5, c6, c7, c8, c9, c10⟩ := blkE HF11.out.out
         go_upto_if 59 with (fail)
         clear c0 c1 c2 c3 c4 c5 c6 c7 c8 c9 c10 cf
         go_cut [] (fun wx => ∃ t3 k, Box (RF w wx g A c N toks t3 o #[.int .i64 1, .int .i64 fn, .int .i64 win, .int .i64 0, .int .i64 k, .int .i64 0, .int .i64 0, .string x, (.slice A1 q1 q2), nilV, nilV]) ∧ Box (Agree (fun b _ => o < b) W2 wx) ∧ Box (StepR t2 t3 (rankM N fn win) k))
         case first =>
          by_cases hf7 : fn = 7
          ·have HF7' := Box.mk hf7
           have h2 : (fn == 7) = true := by simp [hf7]
           clear hf7
           obtain ⟨t4, HT4⟩ : ∃ t4, Box (sOf (bindS t2 (symbolM N sComma)) = t4) := ⟨_, ⟨rfl⟩⟩
           obtain ⟨t5, HT5⟩ : ∃ t5, Box (sOf (bindS t4 (numberM N 1 win)) = t5) := ⟨_, ⟨rfl⟩⟩
           obtain ⟨k, HK⟩ : ∃ k, Box (intR (bindS t4 (numberM N 1 win)) = k) := ⟨_, ⟨rfl⟩⟩
           go_wp2_with fail
           refine (rexpect_v sComma ⟨#[44]⟩ rfl sComma_sym HF11.out.st).mono ?_
           rw [HT4.out]
           rintro e w12 ⟨rfl, ho, hp⟩
           have HF12 := Box.mk (HF11.out.step ho hp)
           have HA12 := Box.mk (HA11.out.trans (HF11.out.ag ho))
           clear ho hp HF11 HA11
           have cf := HF12.out.out.frozen
           obtain ⟨c0, c1, c2, c3, c4, c5, c6, c7, c8, c9, c10⟩ := blkE HF12.out.out
           go_wp2_with fail
           clear c0 c1 c2 c3 c4 c5 c6 c7 c8 c9 c10 cf
           refine (rnumber_v 1 win HF12.out.st).mono ?_
           rw [HT5.out, HK.out]
           rintro e w13 ⟨rfl, ho, hp⟩
           have HF13 := Box.mk (HF12.out.step ho hp)
           have HA13 := Box.mk (HA12.out.trans (HF12.out.ag ho))
           clear ho hp HF12 HA12
           have cf := HF13.out.out.frozen
           obtain ⟨c0, c1, c2, c3, c4, c5, c6, c7, c8, c9, c10⟩ := blkE HF13.out.out
           go_wp2_with fail
           go_meet
           exact ⟨t5, k, ⟨HF13.out.set 4 _⟩, ⟨HA13.out.trans (ago (Only.setCell 4 _))⟩, ⟨rank_chain HF7'.out HT4.out HT5.out HK.out⟩⟩
          ·have HF7' := Box.mk hf7
           have h2 : (fn == 7) = false := by simp [hf7]
           clear hf7
           go_wp2_with fail
           go_meet
           exact ⟨t2, 0, HF11, HA11, ⟨StepR.id fun ts hs => by unfold rankM; rw [if_neg HF7'.out]⟩⟩
         case rest =>
          obtain ⟨t3, k, HF14, HA14, HRK⟩ := hcut
          rename World => W14
          clear HF11 HA11
          go_wp2_with fail
          refine (rexpect_v sShut ⟨#[41]⟩ rfl sShut_sym HF14.out.st).mono ?_
          rintro e w15 ⟨rfl, ho, hp⟩
          have HF15 := Box.mk (HF14.out.step ho hp)
          have HA15 := Box.mk (HA14.out.trans (HF14.out.ag ho))
          clear ho hp HF14 HA14
          go_wp2_with fail
          go_meet
          exact ⟨_, win, k, HF15, HA15, ⟨arg_chain HF0.out HT1.out HT2.out HWI.out HRK.out rfl⟩⟩
       case rest =>
        obtain ⟨s3, win, k, HF12, HA12, HAR⟩ := hcut
        rename World => W12
        go_wp2_with fail
        go_meet
        exact ⟨s3, fn, win, k, HF12, HA12, ⟨fun_chain (fun ts hs => (HB2.out ts hs).symm) HQ.out HSB.out HFW.out HSC.out HFN.out.1 HFN.out.2 HAR.out⟩⟩
  case rest =>
   obtain ⟨s3, fn, win, k, HF12, HA12, HST3⟩ := hcut
   rename World => W12
   clear HF3 HA3 HB2
   go_upto_if 70 with (go_at_call 105; refine (ris_s sAt ⟨#[64]⟩ rfl sAt_sym HF12.out.st).mono ?_; rintro e w3 ⟨b3, rfl, hb3, m3, rfl⟩)
   have HB3 := Box.mk hb3
   have HF13 := Box.mk (HF12.out.drewN m3)
   have HA13 : Box (Agree (fun b _ => o < b) W2 (W12.drewN m3)) := ⟨HA12.out.trans (agb (below_drewN _ _))⟩
   clear HF12 HA12 hb3
   generalize W12.drewN m3 = W13 at HF13 HA13 ⊢
   go_cut [] (fun wx => ∃ s4 of, Box (RF w wx g A c N toks s4 o #[.int .i64 1, .int .i64 fn, .int .i64 win, .int .i64 of, .int .i64 k, .int .i64 0, .int .i64 0, .string x, (.slice A1 q1 q2), nilV, nilV]) ∧ Box (Agree (fun b _ => o < b) W2 wx) ∧ Box (StepR s3 s4 (sOffM N) of))
   case first =>
    cases b3
    ·go_wp2_with fail
     go_meet
     exact ⟨s3, 0, HF13, HA13, ⟨StepR.id fun ts hs => by unfold sOffM; rw [if_neg (by rw [← HB3.out ts hs]; simp)]⟩⟩
    ·go_wp2_with fail
     refine (rtake_u (tail_ne HB3.out) HF13.out.st).mono ?_
     rintro e w14 ⟨rfl, ho, hp⟩
     have HF14 := Box.mk (HF13.out.step ho hp)
     have HA14 := Box.mk (HA13.out.trans (HF13.out.ag ho))
     clear ho hp HF13 HA13
     obtain ⟨s4, HS4⟩ : ∃ s4, Box (sOf (bindS (tailS s3) (numberM N 0 4096)) = s4) := ⟨_, ⟨rfl⟩⟩
     obtain ⟨of, HOF⟩ : ∃ of, Box (intR (bindS (tailS s3) (numberM N 0 4096)) = of) := ⟨_, ⟨rfl⟩⟩
     go_wp2_with fail
     refine (rnumber_v 0 4096 HF14.out.st).mono ?_
     rw [HS4.out, HOF.out]
     rintro e w15 ⟨rfl, ho, hp⟩
     have HF15 := Box.mk (HF14.out.step ho hp)
     have HA15 := Box.mk (HA14.out.trans (HF14.out.ag ho))
     clear ho hp HF14 HA14
     have cf := HF15.out.out.frozen
     obtain ⟨c0, c1, c2, c3, c4, c5, c6, c7, c8, c9, c10⟩ := blkE HF15.out.out
     go_wp2_with fail
     go_meet
     exact ⟨s4, of, ⟨HF15.out.set 3 _⟩, ⟨HA15.out.trans (ago (Only.setCell 3 _))⟩, ⟨off_chain (fun ts hs => (HB3.out ts hs).symm) HS4.out HOF.out⟩⟩
   case rest =>
    obtain ⟨s4, of, HF16, HA16, HST4⟩ := hcut
    rename World => W16
    clear HF13 HA13 HB3
    have HCH := Box.mk (select_chain HX.out HS1.out HST2.out HST3.out HST4.out)
    have cf := HF16.out.out.frozen
    obtain ⟨c0, c1, c2, c3, c4, c5, c6, c7, c8, c9, c10⟩ := blkE HF16.out.out
    obtain ⟨z0, z1, z2, z3, z4, z5, z6, z7, z8, z9, z10⟩ := blkE HF16.out.res
    have zf := HF16.out.res.frozen
    go_wp2_with fail
    have HA : Box (Only g w (put11 W16 w.heap.size (.int .i64 1) (.int .i64 fn) (.int .i64 win) (.int .i64 of) (.int .i64 k) (.int .i64 0) (.int .i64 0) (.string x) (.slice A1 q1 q2) nilV nilV) ∧ RX (put11 W16 w.heap.size (.int .i64 1) (.int .i64 fn) (.int .i64 win) (.int .i64 of) (.int .i64 k) (.int .i64 0) (.int .i64 0) (.string x) (.slice A1 q1 q2) nilV nilV) g A c N toks s4 ∧ Agree (fun b _ => o < b) W2 (put11 W16 w.heap.size (.int .i64 1) (.int .i64 fn) (.int .i64 win) (.int .i64 of) (.int .i64 k) (.int .i64 0) (.int .i64 0) (.string x) (.slice A1 q1 q2) nilV nilV)) := ⟨HF16.out.only.low_then (put11_below (Nat.le_refl _) ..), HF16.out.st.onlyk (put11_only ..) HF16.out.low, HA16.out.trans (Agree.of_only (put11_only ..) fun b _ hb => by have := HF16.out.new; omega)⟩
    have HBL : Box (Blk (put11 W16 w.heap.size (.int .i64 1) (.int .i64 fn) (.int .i64 win) (.int .i64 of) (.int .i64 k) (.int .i64 0) (.int .i64 0) (.string x) (.slice A1 q1 q2) nilV nilV) w.heap.size 29 #[.int .i64 1, .int .i64 fn, .int .i64 win, .int .i64 of, .int .i64 k, .int .i64 0, .int .i64 0, .string x, .slice A1 q1 q2, nilV, nilV]) := ⟨put11_blk HF16.out.res⟩
    have HNW : Box (w.heap.size < o) := ⟨HF16.out.new⟩
    show bodyPost _ _ _ _ _ (put11 W16 w.heap.size (.int .i64 1) (.int .i64 fn) (.int .i64 win) (.int .i64 of) (.int .i64 k) (.int .i64 0) (.int .i64 0) (.string x) (.slice A1 q1 q2) nilV nilV)
    generalize put11 W16 w.heap.size (.int .i64 1) (.int .i64 fn) (.int .i64 win) (.int .i64 of) (.int .i64 k) (.int .i64 0) (.int .i64 0) (.string x) (.slice A1 q1 q2) nilV nilV = WF at HA HBL ⊢
    clear HF16 HA16 z0 z1 z2 z3 z4 z5 z6 z7 z8 z9 z10 zf c0 c1 c2 c3 c4 c5 c6 c7 c8 c9 c10 cf
    obtain ⟨e0, e1, e2, e3, e4, e5, e6, e7, e8, e9, e10⟩ := blkE HBL.out
    have ef := HBL.out.frozen
    refine bodyPost_ret (v := .agg (ndC ⟨1, fn, win, of, k, 0, 0, x, l, []⟩ (.slice A1 q1 q2) nilV nilV)) (by simp [results, Tryz.results148, go_sem, e0, e1, e2, e3, e4, e5, e6, e7, e8, e9, e10, ef]) rfl ?_
    rcases s4 with er | us
    ·exact RetU.er (HCH.out.1 er rfl) HA.out.1 HA.out.2.1 ⟨_, _, _, _, _, _, _, _, _, _, rfl⟩
    ·obtain ⟨hr, ts1, ts2, ts3, h1, h2, h3, h4⟩ := HCH.out.2 us rfl
     refine RetU.ok hr HA.out.1 HA.out.2.1 ⟨_, _, _, rfl, ?_⟩
     have hs2 : s2 = .ok ts2 := by rw [(HST2.out.2 ts1 h1).1, h2]; rfl
     obtain ⟨m1, m2, m3⟩ := HMV.out.2 ts2 hs2
     obtain ⟨tk, hk1, hk2, hk3⟩ := strR_ok (HS1.out.trans h1)
     have hx : x.size ≤ 2000 := by rw [← HX.out, hk3, bsL_size]; exact (HTO.out _ hk1 tk (by simp)).s
     have hfi : (0 ≤ fn ∧ fn ≤ 7) ∧ (0 ≤ win ∧ win ≤ 4096) ∧ 0 ≤ k ∧ k ≤ 4096 := sFunM_in h3
     have hoi := sOffM_in h4
     refine kleaf_at ⟨?_, ?_, ?_, ?_⟩ ?_ (SeqP.nil _ _ _)
     ·unfold I64; simp only; omega
     ·show x.size ≤ maxLen; unfold maxLen; omega
     ·intro m hm
      have := m2 m hm
      exact ⟨by have := this.a; unfold maxLen; omega, by have := this.b; unfold maxLen; omega⟩
     ·intro s hs; cases hs
     ·exact ((m3.mono (Q := fun b _ => o < b) fun b e _ hb => by omega).keep HA.out.2.2).mono fun b e _ hb => by have := HNW.out; omega
end
end Go.Proofs.YthoibeajhdhdhaaGreatDoor
