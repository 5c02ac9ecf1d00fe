/- Contracts, packed: Om. -/
import Derived.Test.YthoibeajhdhdhaaGreatDoorPy47
set_option linter.unusedVariables false
set_option linter.unusedSimpArgs false
namespace Go.Proofs.YthoibeajhdhdhaaGreatDoor
section
open Go.RowKit FracM
theorem StepR.len {α : Type} {s s1 : StP} {f : List Tok → Res α} {a : α} (h : StepR s s1 f a) (hf : ∀ ts, Shl (f ts) ts) {m : Nat} (hs : ∀ ts, s = .ok ts → ts.length < m) : ∀ ts, s1 = .ok ts → ts.length < m := by
 intro ts h1
 match s, h, hs with
 | .error e, h, hs => rw [h.1 e rfl] at h1; cases h1
 | .ok ts0, h, hs =>
  rw [(h.2 ts0 rfl).1] at h1
  cases hq : f ts0 with
  | error e => rw [hq] at h1; cases h1
  | ok p =>
   obtain ⟨x, us⟩ := p
   rw [hq] at h1
   cases h1
   have := hf ts0 _ _ hq
   have := hs ts0 rfl
   omega
theorem StepR.back {α : Type} {s s1 : StP} {f : List Tok → Res α} {a : α} {us : List Tok} (h : StepR s s1 f a) (hs : s1 = .ok us) : ∃ ts, s = .ok ts ∧ f ts = .ok (a, us) := by
 match s, h with
 | .error e, h => rw [h.1 e rfl] at hs; cases hs
 | .ok ts, h =>
  obtain ⟨x1, x2⟩ := h.2 ts rfl
  obtain ⟨a', hf⟩ := sOf_ok (x1.symm.trans hs)
  exact ⟨ts, rfl, by rw [hf, x2 _ _ hf]⟩
theorem findI_in (s : ByteArray) (l : List ByteArray) : ∀ k : Nat, -1 ≤ findI s l k ∧ findI s l k ≤ ((k + l.length : Nat) : Int) := by
 induction l with
 | nil => intro k; rw [findI]; simp
 | cons x xs ih =>
  intro k
  rw [findI]
  have := ih (k + 1)
  simp only [List.length_cons]
  split <;> omega
set_option maxHeartbeats 8000000 in
set_option maxRecDepth 100000 in
theorem rgroup_of {g : Nat} {A : Option Addr} {c : Nat} {N : Int} {toks : List Tok} {n : Nat} {ex : List Tok → Res Tree} (hS : TreeOk 68 g A c N toks ex n) {w : World} {s : StP} (hlen : ∀ ts, s = .ok ts → ts.length < n + 1) (h : RX w g A c N toks s) :
  Calls Tryz.prog 147 #[.pointer (some ⟨g, 0, none⟩)] w (RetU g A c N toks w (bindS s fun ts => andR (wordM N ts) fun x ts1 => groupM N ex (idxT groupsT x) ts1) (VTr w.heap.size) GTr) := by
 have HS := Box.mk hS
 have HLE := Box.mk hlen
 have H := Box.mk h
 have HP0 : Box (RX ((w.alloc (.cells zeroC 29)).alloc (.cells grpC 9)) g A c N toks s) := ⟨h.below (bel2 _ _ _)⟩
 clear h hS hlen
 obtain ⟨x, HX⟩ : ∃ x, Box (strR (bindS s (wordM N)) = x) := ⟨_, ⟨rfl⟩⟩
 obtain ⟨s1, HS1⟩ : ∃ s1, Box (sOf (bindS s (wordM N)) = s1) := ⟨_, ⟨rfl⟩⟩
 go_enter Tryz.func147, Tryz.ntmps147
 go_wp2_with fail
 refine (rgroupsM_any _).mono ?_
 rintro e w0 ⟨rfl, rfl⟩
 go_wp2_with fail
 refine (rword_v HP0.out).mono ?_
 rw [HX.out, HS1.out]
 rintro e w1 ⟨rfl, ho, hp⟩
 have hz : w.heap.size + 2 ≤ w1.heap.size := by have := ho.size; simpa using this
 have HGL : Box (StrsP w1 (.slice (some ⟨w.heap.size + 1, 0, none⟩) 5 5) grpL5) := ⟨SeqP.of_blk (P := AnyP) (size := 1) (n := 5) (cs := grpC) (t := 9) (ho.blk (Blk.newAt _ _ (by simp)) (by have := H.out.lt; omega)) rfl (by omega) trivial⟩
 have HRZ : Box (Blk w1 w.heap.size 29 zeroC ∧ Only g w w1 ∧ RX w1 g A c N toks s1) := ⟨ho.blk ((Blk.new w zeroC 29).alloc _) (by have := H.out.lt; omega), (Only.of_below (bel2 w _ _)).trans ho, hp⟩
 have hg := H.out.lt
 clear ho hp HP0 H
 go_wp2_with fail
 refine (rfind_any _ _ _ grpL5 x _ HGL.out).mono ?_
 rintro e w2 ⟨rfl, hw2⟩
 subst w2
 obtain ⟨fn, HFN⟩ : ∃ fn, Box (findI x grpL5 0 = fn) := ⟨_, ⟨rfl⟩⟩
 rw [HFN.out]
 go_upto_region 2 with (fail)
 have HF0 : Box (RF w (w1.alloc (.cells #[.int .i64 2, .int .i64 fn, .int .i64 0, .int .i64 0, .int .i64 0, .int .i64 0, .int .i64 0, .string ⟨#[]⟩, nilV, nilV, nilV] 29)) g A c N toks s1 w1.heap.size #[.int .i64 2, .int .i64 fn, .int .i64 0, .int .i64 0, .int .i64 0, .int .i64 0, .int .i64 0, .string ⟨#[]⟩, nilV, nilV, nilV]) := ⟨⟨HRZ.out.2.1.trans (Only.of_below (bel1 w1 _)), HRZ.out.2.2.below (bel1 _ _), HRZ.out.1.alloc _, Blk.new _ _ _, by omega, hg⟩⟩
 obtain ⟨o, hgo⟩ : ∃ o, w1.heap.size = o := ⟨_, rfl⟩
 rw [hgo] at HF0 ⊢
 generalize w1.alloc (.cells #[.int .i64 2, .int .i64 fn, .int .i64 0, .int .i64 0, .int .i64 0, .int .i64 0, .int .i64 0, .string ⟨#[]⟩, nilV, nilV, nilV] 29) = W at HF0 ⊢
 clear hgo HGL HRZ
 have cf := HF0.out.out.frozen
 obtain ⟨c0, c1, c2, c3, c4, c5, c6, c7, c8, c9, c10⟩ := blkE HF0.out.out
 go_upto_if 12 with (fail)
 clear c0 c1 c2 c3 c4 c5 c6 c7 c8 c9 c10 cf
 go_cut [] (fun wx => ∃ s2 k, Box (RF w wx g A c N toks s2 o #[.int .i64 2, .int .i64 fn, .int .i64 0, .int .i64 0, .int .i64 k, .int .i64 0, .int .i64 0, .string ⟨#[]⟩, nilV, nilV, nilV]) ∧ Box (StepR s1 s2 (gKM N fn) k))
 case first =>
  by_cases hf4 : fn = 4
  ·have HF4 := Box.mk hf4
   have h2 : (fn == 4) = true := by simp [hf4]
   clear hf4
   obtain ⟨t1, HT1⟩ : ∃ t1, Box (sOf (bindS s1 (symbolM N sOpen)) = t1) := ⟨_, ⟨rfl⟩⟩
   obtain ⟨t2, HT2⟩ : ∃ t2, Box (sOf (bindS t1 (numberM N 1 4096)) = t2) := ⟨_, ⟨rfl⟩⟩
   obtain ⟨k, HK⟩ : ∃ k, Box (intR (bindS t1 (numberM N 1 4096)) = k) := ⟨_, ⟨rfl⟩⟩
   go_wp2_with fail
   refine (rexpect_v sOpen ⟨#[40]⟩ rfl sOpen_sym HF0.out.st).mono ?_
   rw [HT1.out]
   rintro e w3 ⟨rfl, ho, hp⟩
   have HF1 := Box.mk (HF0.out.step ho hp)
   clear ho hp HF0
   go_wp2_with fail
   refine (rnumber_v 1 4096 HF1.out.st).mono ?_
   rw [HT2.out, HK.out]
   rintro e w4 ⟨rfl, ho, hp⟩
   have HF2 := Box.mk (HF1.out.step ho hp)
   clear ho hp HF1
   have cf := HF2.out.out.frozen
   obtain ⟨c0, c1, c2, c3, c4, c5, c6, c7, c8, c9, c10⟩ := blkE HF2.out.out
   go_upto_region 5 with (fail)
   have HF3 := Box.mk (HF2.out.set 4 (.int .i64 k))
   clear c0 c1 c2 c3 c4 c5 c6 c7 c8 c9 c10 cf HF2
   generalize w4.setCell ⟨o, 4, none⟩ (.int .i64 k) = W4 at HF3 ⊢
   go_wp2_with fail
   refine (rexpect_v sShut ⟨#[41]⟩ rfl sShut_sym HF3.out.st).mono ?_
   rintro e w5 ⟨rfl, ho, hp⟩
   have HF5 := Box.mk (HF3.out.step ho hp)
   clear ho hp HF3
   go_wp2_with fail
   go_meet
   exact ⟨_, k, HF5, ⟨gK_chain HF4.out HT1.out HT2.out HK.out rfl⟩⟩
  ·have HF4 := Box.mk hf4
   have h2 : (fn == 4) = false := by simp [hf4]
   clear hf4
   go_wp2_with fail
   go_meet
   exact ⟨s1, 0, HF0, ⟨StepR.id fun ts hs => by unfold gKM; rw [if_neg HF4.out]⟩⟩
 case rest =>
  obtain ⟨s2, k, HF2, HK2⟩ := hcut
  rename World => W2
  clear HF0
  go_upto_if 21 with (go_at_call 105; refine (ris_by ⟨#[98, 121]⟩ rfl HF2.out.st).mono ?_; rintro e w3 ⟨b, rfl, hb, m3, rfl⟩)
  have HB := Box.mk hb
  have HF3 := Box.mk (HF2.out.drewN m3)
  clear HF2 hb
  generalize W2.drewN m3 = W at HF3 ⊢
  go_cut [] (fun wx => ∃ s3 bv l, Box (RF w wx g A c N toks s3 o #[.int .i64 2, .int .i64 fn, .int .i64 0, .int .i64 0, .int .i64 k, .int .i64 0, .int .i64 0, .string ⟨#[]⟩, nilV, bv, nilV]) ∧ Box (StepR s2 s3 (gByM N) l) ∧ Box (GSl bv ∧ ∀ ts, s3 = .ok ts → VBys (o + 1) l bv wx))
  case first =>
   cases b
   ·go_wp2_with fail
    go_meet
    exact ⟨s2, nilV, [], HF3, ⟨StepR.id fun ts hs => by unfold gByM; rw [if_neg (by rw [← HB.out ts hs]; simp)]⟩, ⟨⟨_, _, _, rfl⟩, fun ts hs => ⟨by simp, by simp, SeqP.nil _ _ _⟩⟩⟩
   ·go_wp2_with fail
    refine (rby_u (fun ts hs => (HB.out ts hs).symm) HF3.out.st).mono ?_
    obtain ⟨rm, HRM⟩ : ∃ rm, Box (bindS s2 (gByM N) = rm) := ⟨_, ⟨rfl⟩⟩
    rw [HRM.out]
    rintro e w4 ⟨ho, hp, v, rfl, hv⟩
    obtain ⟨l, HV⟩ : ∃ l, Box ((GSl v ∧ ∀ ts, sOf rm = .ok ts → VBys (o + 1) l v w4) ∧ ∀ u us, rm = .ok (u, us) → u = l) := by
     match rm, hv with
     | .error f, hv => exact ⟨[], ⟨⟨hv, fun ts hs => (by cases hs)⟩, fun u us hu => (by cases hu)⟩⟩
     | .ok (l, us), hv =>
      obtain ⟨h1, h2, h3⟩ := hv
      obtain ⟨A1, q1, hq1, -⟩ := h3.form
      refine ⟨l, ⟨⟨⟨A1, _, q1, hq1⟩, fun ts hs => ⟨h1, h2, h3.mono fun b e _ hb => ?_⟩⟩, fun u us hu => (by cases hu; rfl)⟩⟩
      have := HF3.out.size
      omega
    have HF4 := Box.mk (HF3.out.step ho hp)
    have HAG : Box (Agree (fun b _ => o + 1 ≤ b) w4 (w4.setCell ⟨o, 9, none⟩ v)) := ⟨Agree.of_only (Only.setCell 9 v) fun b _ hb => by omega⟩
    clear hv ho hp HF3
    obtain ⟨A1, q1, q2, rfl⟩ := HV.out.1.1
    have cf := HF4.out.out.frozen
    obtain ⟨c0, c1, c2, c3, c4, c5, c6, c7, c8, c9, c10⟩ := blkE HF4.out.out
    go_wp2_with fail
    go_meet
    exact ⟨sOf rm, .slice A1 q1 q2, l, ⟨HF4.out.set 9 _⟩, ⟨StepR.of (by rw [HRM.out]) (by rw [HRM.out]; exact HV.out.2)⟩, ⟨⟨_, _, _, rfl⟩, fun ts hs => ⟨(HV.out.1.2 ts hs).1, (HV.out.1.2 ts hs).2.1, (HV.out.1.2 ts hs).2.2.keep HAG.out⟩⟩⟩
  case rest =>
   obtain ⟨s3, bv, l, HF5, HST3, HBV⟩ := hcut
   rename World => W5
   clear HF3 HB
   obtain ⟨A2, n2, q2, rfl⟩ := HBV.out.1
   have HA5 : Box (Agree (fun b _ => o < b) W5 W5) := ⟨agb (Below.refl _ _)⟩
   obtain ⟨sa, HSA⟩ : ∃ sa, Box (sOf (bindS s3 (symbolM N sOpen)) = sa) := ⟨_, ⟨rfl⟩⟩
   have HLA : Box (∀ ts, sa = .ok ts → ts.length < n) := ⟨by
    have h1 : ∀ ts, s1 = .ok ts → ts.length < n := fun ts hs => by
     obtain ⟨tk, e1, -, -⟩ := strR_ok (HS1.out.trans hs)
     have := HLE.out _ e1
     simp only [List.length_cons] at this
     omega
    exact (StepR.sym HSA.out).len (fun ts => (symbolM_len _ _ _).le) (HST3.out.len (gByM_len _) (HK2.out.len (gKM_len _ _) h1))⟩
   go_wp2_with fail
   refine (rexpect_v sOpen ⟨#[40]⟩ rfl sOpen_sym HF5.out.st).mono ?_
   rw [HSA.out]
   rintro e w6 ⟨rfl, ho, hp⟩
   have HF6 := Box.mk (HF5.out.step ho hp)
   have HA6 := Box.mk (HA5.out.trans (HF5.out.ag ho))
   clear ho hp HF5 HA5
   go_wp2_with fail
   refine (HS.out _ sa HLA.out HF6.out.st).mono ?_
   intro e w7 hx
   obtain ⟨ho, hp, d2, B1, y1, h1, B2, y2, h2, B3, y3, h3, rfl, hvt⟩ := hx.tree
   obtain ⟨sb, HSB⟩ : ∃ sb, Box (sOf (bindS sa ex) = sb) := ⟨_, ⟨rfl⟩⟩
   rw [HSB.out] at hp
   have HF7 := Box.mk (HF6.out.step ho hp)
   have HA7 := Box.mk (HA6.out.trans (HF6.out.ag ho))
   have HVT := Box.mk hvt
   have HN6 : Box (o < w6.heap.size) := ⟨HF6.out.size⟩
   clear ho hp hx hvt HF6 HA6
   go_upto_region 10 with (fail)
   have HF8 := Box.mk (HF7.out.next (bel1 w7 (.cells (ndC d2 (.slice B1 y1 h1) (.slice B2 y2 h2) (.slice B3 y3 h3)) 29)))
   have HA8 : Box (Agree (fun b _ => o < b) W5 (w7.alloc (.cells (ndC d2 (.slice B1 y1 h1) (.slice B2 y2 h2) (.slice B3 y3 h3)) 29))) := ⟨HA7.out.trans (agb (bel1 _ _))⟩
   have HVT8 : Box (∀ t us, bindS sa ex = .ok (t, us) → ∃ ks, t = .node d2 ks ∧ TreeAt (w7.alloc (.cells (ndC d2 (.slice B1 y1 h1) (.slice B2 y2 h2) (.slice B3 y3 h3)) 29)) (fun b _ => o < b) (.node d2 ks) ((.slice B1 y1 h1), (.slice B2 y2 h2), (.slice B3 y3 h3))) := ⟨fun t us hq => by
    obtain ⟨ks2, e1, e2⟩ := HVT.out t us hq
    exact ⟨ks2, e1, (e2.mono' (Q := fun b _ => o < b) fun b e _ hb => by have := HN6.out; omega).belo (bel1 _ _)⟩⟩
   have HRB : Box (Blk (w7.alloc (.cells (ndC d2 (.slice B1 y1 h1) (.slice B2 y2 h2) (.slice B3 y3 h3)) 29)) w7.heap.size 29 (ndC d2 (.slice B1 y1 h1) (.slice B2 y2 h2) (.slice B3 y3 h3))) := ⟨Blk.new _ _ _⟩
   have HRL : Box (o < w7.heap.size) := ⟨HF7.out.size⟩
   clear HF7 HA7 HVT
   obtain ⟨rb, hrb⟩ : ∃ rb, w7.heap.size = rb := ⟨_, rfl⟩
   rw [hrb] at HRB HRL ⊢
   generalize w7.alloc (.cells (ndC d2 (.slice B1 y1 h1) (.slice B2 y2 h2) (.slice B3 y3 h3)) 29) = W8 at HF8 HA8 HVT8 HRB ⊢
   clear hrb
   obtain ⟨s4, HS4⟩ : ∃ s4, Box (sOf (bindS sb (symbolM N sShut)) = s4) := ⟨_, ⟨rfl⟩⟩
   go_wp2_with fail
   refine (rexpect_v sShut ⟨#[41]⟩ rfl sShut_sym HF8.out.st).mono ?_
   rw [HS4.out]
   rintro e w9 ⟨rfl, ho, hp⟩
   have HF9 := Box.mk (HF8.out.step ho hp)
   have HA9 := Box.mk (HA8.out.trans (HF8.out.ag ho))
   have HRB9 := Box.mk (ho.blk HRB.out (by have := HF8.out.low; have := HF8.out.new; have := HRL.out; omega))
   have HVT9 : Box (∀ t us, bindS sa ex = .ok (t, us) → ∃ ks, t = .node d2 ks ∧ TreeAt w9 (fun b _ => o < b) (.node d2 ks) ((.slice B1 y1 h1), (.slice B2 y2 h2), (.slice B3 y3 h3))) := ⟨fun t us hq => by
    obtain ⟨ks2, e1, e2⟩ := HVT8.out t us hq
    exact ⟨ks2, e1, e2.keep (HF8.out.ag ho)⟩⟩
   clear ho hp HF8 HA8 HRB HVT8
   have cf := HF9.out.out.frozen
   obtain ⟨c0, c1, c2, c3, c4, c5, c6, c7, c8, c9, c10⟩ := blkE HF9.out.out
   obtain ⟨r0, r1, r2, r3, r4, r5, r6, r7, r8, r9, r10⟩ := blkE HRB9.out
   have hlb9 := HF9.out.size
   have hnb9 : ¬ o = w9.heap.size := by omega
   have hnb8 : ¬ w9.heap.size = o := by omega
   go_upto_region 12 with (fail)
   have HNB : Box (w9.heap.size ≠ o ∧ w.heap.size < o ∧ o < w9.heap.size) := ⟨by have := HF9.out.new; omega⟩
   have HF10 : Box (RF w (((w9.setCell ⟨o, 10, none⟩ (.slice (some ⟨w9.heap.size, 0, none⟩) 1 1)).alloc (.cells (ndC d2 (.slice B1 y1 h1) (.slice B2 y2 h2) (.slice B3 y3 h3)) 29))) g A c N toks s4 o #[.int .i64 2, .int .i64 fn, .int .i64 0, .int .i64 0, .int .i64 k, .int .i64 0, .int .i64 0, .string ⟨#[]⟩, nilV, (.slice A2 n2 q2), (.slice (some ⟨w9.heap.size, 0, none⟩) 1 1)]) := ⟨(HF9.out.set 10 _).next (bel1 _ _)⟩
   have hsz : (w9.setCell ⟨o, 10, none⟩ (.slice (some ⟨w9.heap.size, 0, none⟩) 1 1)).heap.size = w9.heap.size := by simp [World.setCell]
   have HKB : Box (Blk ((w9.setCell ⟨o, 10, none⟩ (.slice (some ⟨w9.heap.size, 0, none⟩) 1 1)).alloc (.cells (ndC d2 (.slice B1 y1 h1) (.slice B2 y2 h2) (.slice B3 y3 h3)) 29)) w9.heap.size 29 (ndC d2 (.slice B1 y1 h1) (.slice B2 y2 h2) (.slice B3 y3 h3))) := ⟨by
    have h := Blk.new (w9.setCell ⟨o, 10, none⟩ (.slice (some ⟨w9.heap.size, 0, none⟩) 1 1)) (ndC d2 (.slice B1 y1 h1) (.slice B2 y2 h2) (.slice B3 y3 h3)) 29
    rw [hsz] at h; exact h⟩
   have HAW : Box (Agree (fun b _ => o < b) w9 ((w9.setCell ⟨o, 10, none⟩ (.slice (some ⟨w9.heap.size, 0, none⟩) 1 1)).alloc (.cells (ndC d2 (.slice B1 y1 h1) (.slice B2 y2 h2) (.slice B3 y3 h3)) 29))) := ⟨(ago (Only.setCell 10 _)).trans (agb (bel1 _ _))⟩
   show Code.wp _ _ _ _ ((w9.setCell ⟨o, 10, none⟩ (.slice (some ⟨w9.heap.size, 0, none⟩) 1 1)).alloc (.cells (ndC d2 (.slice B1 y1 h1) (.slice B2 y2 h2) (.slice B3 y3 h3)) 29))
   generalize ((w9.setCell ⟨o, 10, none⟩ (.slice (some ⟨w9.heap.size, 0, none⟩) 1 1)).alloc (.cells (ndC d2 (.slice B1 y1 h1) (.slice B2 y2 h2) (.slice B3 y3 h3)) 29)) = W10 at HF10 HKB HAW ⊢
   obtain ⟨kb, hkb⟩ : ∃ kb, w9.heap.size = kb := ⟨_, rfl⟩
   rw [hkb] at HNB HF10 HKB hlb9 hnb9 hnb8 ⊢
   have HVT10 : Box (∀ (t : Tree) (us : List Tok), bindS sa ex = .ok (t, us) → ∃ ks, t = .node d2 ks ∧ TreeAt W10 (fun b _ => o < b) (.node d2 ks) ((.slice B1 y1 h1), (.slice B2 y2 h2), (.slice B3 y3 h3))) := ⟨fun t us hq => by
    obtain ⟨ks2, e1, e2⟩ := HVT9.out t us hq
    exact ⟨ks2, e1, e2.keep HAW.out⟩⟩
   have HA10 := Box.mk (HA9.out.trans HAW.out)
   clear hsz hkb c0 c1 c2 c3 c4 c5 c6 c7 c8 c9 c10 cf r0 r1 r2 r3 r4 r5 r6 r7 r8 r9 r10 HF9 HRB9 HVT9 HA9 HAW hlb9 hnb9 hnb8
   obtain ⟨t, HVL⟩ : ∃ t, Box (∀ u us, bindS sa ex = .ok (u, us) → u = t) := by obtain ⟨t, h⟩ := val_of (bindS sa ex); exact ⟨t, ⟨h⟩⟩
   have HCH : Box (StepR s s4 (fun ts => andR (wordM N ts) fun x ts1 => groupM N ex (idxT groupsT x) ts1) (.node ⟨2, fn, 0, 0, k, 0, 0, ⟨#[]⟩, [], l⟩ [t])) := ⟨group_end HX.out HS1.out HFN.out (group_chain HK2.out HST3.out (kid_chain HSA.out (StepR.of HSB.out.symm HVL.out) HS4.out))⟩
   have cf := HF10.out.out.frozen
   obtain ⟨c0, c1, c2, c3, c4, c5, c6, c7, c8, c9, c10⟩ := blkE HF10.out.out
   obtain ⟨z0, z1, z2, z3, z4, z5, z6, z7, z8, z9, z10⟩ := blkE HF10.out.res
   have zf := HF10.out.res.frozen
   go_wp2_with fail
   have HA : Box (Only g w (put11 W10 w.heap.size (.int .i64 2) (.int .i64 fn) (.int .i64 0) (.int .i64 0) (.int .i64 k) (.int .i64 0) (.int .i64 0) (.string ⟨#[]⟩) nilV (.slice A2 n2 q2) (.slice (some ⟨kb, 0, none⟩) 1 1)) ∧ RX (put11 W10 w.heap.size (.int .i64 2) (.int .i64 fn) (.int .i64 0) (.int .i64 0) (.int .i64 k) (.int .i64 0) (.int .i64 0) (.string ⟨#[]⟩) nilV (.slice A2 n2 q2) (.slice (some ⟨kb, 0, none⟩) 1 1)) g A c N toks s4 ∧ Agree (fun b _ => w.heap.size < b) W10 (put11 W10 w.heap.size (.int .i64 2) (.int .i64 fn) (.int .i64 0) (.int .i64 0) (.int .i64 k) (.int .i64 0) (.int .i64 0) (.string ⟨#[]⟩) nilV (.slice A2 n2 q2) (.slice (some ⟨kb, 0, none⟩) 1 1))) := ⟨HF10.out.only.low_then (put11_below (Nat.le_refl _) ..), HF10.out.st.onlyk (put11_only ..) HF10.out.low, Agree.of_only (put11_only ..) fun b _ hb => by omega⟩
   have HBL : Box (Blk (put11 W10 w.heap.size (.int .i64 2) (.int .i64 fn) (.int .i64 0) (.int .i64 0) (.int .i64 k) (.int .i64 0) (.int .i64 0) (.string ⟨#[]⟩) nilV (.slice A2 n2 q2) (.slice (some ⟨kb, 0, none⟩) 1 1)) w.heap.size 29 (ndC ⟨2, fn, 0, 0, k, 0, 0, ⟨#[]⟩, [], l⟩ nilV (.slice A2 n2 q2) (.slice (some ⟨kb, 0, none⟩) 1 1))) := ⟨put11_blk HF10.out.res⟩
   have HKF : Box (Blk (put11 W10 w.heap.size (.int .i64 2) (.int .i64 fn) (.int .i64 0) (.int .i64 0) (.int .i64 k) (.int .i64 0) (.int .i64 0) (.string ⟨#[]⟩) nilV (.slice A2 n2 q2) (.slice (some ⟨kb, 0, none⟩) 1 1)) kb 29 (ndC d2 (.slice B1 y1 h1) (.slice B2 y2 h2) (.slice B3 y3 h3))) := ⟨(put11_only ..).blk HKB.out (by have := HNB.out; omega)⟩
   show bodyPost _ _ _ _ _ (put11 W10 w.heap.size (.int .i64 2) (.int .i64 fn) (.int .i64 0) (.int .i64 0) (.int .i64 k) (.int .i64 0) (.int .i64 0) (.string ⟨#[]⟩) nilV (.slice A2 n2 q2) (.slice (some ⟨kb, 0, none⟩) 1 1))
   generalize (put11 W10 w.heap.size (.int .i64 2) (.int .i64 fn) (.int .i64 0) (.int .i64 0) (.int .i64 k) (.int .i64 0) (.int .i64 0) (.string ⟨#[]⟩) nilV (.slice A2 n2 q2) (.slice (some ⟨kb, 0, none⟩) 1 1)) = WF at HA HBL HKF ⊢
   clear z0 z1 z2 z3 z4 z5 z6 z7 z8 z9 z10 zf c0 c1 c2 c3 c4 c5 c6 c7 c8 c9 c10 cf
   obtain ⟨e0, e1, e2, e3, e4, e5, e6, e7, e8, e9, e10⟩ := blkE HBL.out
   have ef := HBL.out.frozen
   refine bodyPost_ret (v := .agg (ndC ⟨2, fn, 0, 0, k, 0, 0, ⟨#[]⟩, [], l⟩ nilV (.slice A2 n2 q2) (.slice (some ⟨kb, 0, none⟩) 1 1))) (by simp [results, Tryz.results147, go_sem, e0, e1, e2, e3, e4, e5, e6, e7, e8, e9, e10, ef]) rfl ?_
   rcases s4 with er | us
   ·exact RetU.er (HCH.out.fin.1 er rfl) HA.out.1 HA.out.2.1 ⟨_, _, _, _, _, _, _, _, _, _, rfl⟩
   ·obtain ⟨tsb, hsb, -⟩ := (StepR.sym HS4.out).back rfl
    obtain ⟨tsa, hsa, hex⟩ := (StepR.of (f := ex) HSB.out.symm HVL.out).back hsb
    obtain ⟨ts3, hs3, -⟩ := (StepR.sym HSA.out).back hsa
    obtain ⟨ts2, hs2, -⟩ := HST3.out.back hs3
    obtain ⟨ts1, hs1, hgk⟩ := HK2.out.back hs2
    obtain ⟨v1, v2, v3⟩ := HBV.out.2 ts3 hs3
    obtain ⟨ks, rfl, hk⟩ := HVT10.out t tsb (by rw [hsa]; exact hex)
    have hki := gKM_in hgk
    have hfi := findI_in x grpL5 0
    rw [HFN.out] at hfi
    have hgl : grpL5.length = 5 := rfl
    refine RetU.ok (HCH.out.fin.2 us rfl) HA.out.1 HA.out.2.1 ⟨_, _, _, rfl, ?_⟩
    refine Nod.tree (d := ⟨2, fn, 0, 0, k, 0, 0, ⟨#[]⟩, [], l⟩) (ks := [.node d2 ks]) ⟨⟨?_, ?_, ?_, ?_⟩, SeqP.nil _ _ _, ?_, [((.slice B1 y1 h1), (.slice B2 y2 h2), (.slice B3 y3 h3))], rfl, ?_, ?_⟩
    ·unfold I64; simp only; omega
    ·show (0 : Nat) ≤ maxLen; omega
    ·intro m hm; cases hm
    ·intro y hy; have := v2 y hy; unfold maxLen; omega
    ·exact ((((v3.mono (Q := fun b _ => o < b) fun b e _ hb => by omega).keep HA10.out).mono (Q := fun b _ => w.heap.size < b) fun b e _ hb => by have := HNB.out; omega).keep HA.out.2.2).mono fun b e _ hb => by omega
    ·have := SeqP.of_blk (P := fun b _ => w.heap.size ≤ b) (n := 1) (size := 11) HKF.out rfl (by omega) (by have := HNB.out; omega)
     simpa [ndL, Tree.d] using this
    ·intro i t' c h1 h2
     match i, h1, h2 with
     | 0, h1, h2 =>
      simp at h1 h2
      subst h1 h2
      exact ((hk.mono (Q := fun b _ => w.heap.size < b) fun b e _ hb => by have := HNB.out; omega).keep HA.out.2.2).mono fun b e _ hb => by omega
     | j + 1, h1, h2 => simp at h1
end
end Go.Proofs.YthoibeajhdhdhaaGreatDoor
