/- Contracts, packed: Jf. -/
import Derived.Test.YtkdojgkiclndfaaGreatDoorPx29
set_option linter.unusedVariables false
set_option linter.unusedSimpArgs false
namespace Go.Proofs.YtkdojgkiclndfaaGreatDoor
section
open Go.RowKit FracM
theorem prtL_all {ks : List Tree} (h : prtL ks = true) : ∀ t ∈ ks, prtB t = true := by
 induction ks with
 | nil => intro t ht; cases ht
 | cons x xs ih =>
  intro t ht
  rw [prtL, Bool.and_eq_true] at h
  rcases List.mem_cons.1 ht with rfl | ht
  ·exact h.1
  ·exact ih h.2 t ht
theorem At11.keep {w w' : World} {g o B : Nat} {d : Nd} {m1 m2 m3 : Value} (h : At11 w g o d m1 m2 m3) (hb : Below B w w') (hg : g < B) : At11 w' g o d m1 m2 m3 :=
 ⟨(hb.cell hg).trans h.1, (hb.cell hg).trans h.2.1, (hb.cell hg).trans h.2.2.1, (hb.cell hg).trans h.2.2.2.1, (hb.cell hg).trans h.2.2.2.2.1, (hb.cell hg).trans h.2.2.2.2.2.1, (hb.cell hg).trans h.2.2.2.2.2.2.1, (hb.cell hg).trans h.2.2.2.2.2.2.2.1, (hb.cell hg).trans h.2.2.2.2.2.2.2.2.1, (hb.cell hg).trans h.2.2.2.2.2.2.2.2.2.1, (hb.cell hg).trans h.2.2.2.2.2.2.2.2.2.2⟩
set_option maxHeartbeats 4000000 in
set_option maxRecDepth 100000 in
theorem pwrite_0 (d : Nd) (ks : List Tree) (hk : d.kind = 0) : WrOk (.node d ks) := by
 intro P w ⟨mv, bv, kv⟩ b l hT hP h hl hc hp hlen
 obtain ⟨hc1, hc2⟩ := chk_ok hc
 obtain ⟨a1, a2, a3, a4, a5⟩ := chk1_all hc1
 have hv := (valid_iff.1 (shaped_num a1 hk)).1
 have E : Box (showT (.node d ks) = numL d.num d.den) := ⟨by rw [showT]; unfold joinN; rw [if_pos hk]⟩
 have HW : Box (writB d.num d.den = true) := ⟨by rw [prtB, if_pos hk] at hp; exact hp⟩
 have HN := Box.mk (Wt.start h hl hT hP)
 rw [E.out] at hlen ⊢
 have HL := Box.mk hlen
 clear hT h hl hc hp hlen hc1 hc2 a1 a2 a3 a4 a5
 have HK := Box.mk hk
 clear hk
 show Calls _ _ #[_, .agg (ndC d mv bv kv)] _ _
 go_enter Tryz.func33, Tryz.ntmps33
 go_upto_region 1 with (fail)
 generalize w.alloc (.cells (ndC d _ _ _) exT) = W0 at HN ⊢
 obtain ⟨c0, c1, c2, c3, c4, c5, c6, c7, c8, c9, c10⟩ := HN.out.c
 simp only [Nat.zero_add] at c5 c6
 clear c1 c2 c3 c4 c7 c8 c9 c10
 rw [HK.out] at c0
 go_wp2_with fail
 refine (pnum_any b l d.num d.den _ HN.out.wp.bd HN.out.wp.lib HW.out (by omega) HL.out).mono ?_
 rintro e w1 ⟨rfl, hd, hk⟩
 have HN1 := Box.mk (HN.out.wrote hd hk)
 clear hd hk c0 c5 c6
 go_wp2_with fail
 go_end0
 exact HN1.out.fin
set_option maxHeartbeats 4000000 in
set_option maxRecDepth 100000 in
theorem pwrite_1 (d : Nd) (ks : List Tree) (hk : d.kind = 1) : WrOk (.node d ks) := by
 intro P w ⟨mv, bv, kv⟩ b l hT hP h hl hc hp hlen
 obtain ⟨hc1, hc2⟩ := chk_ok hc
 obtain ⟨a1, a2, a3, a4, a5⟩ := chk1_all hc1
 have E : Box (showT (.node d ks) = selL d) := ⟨by rw [showT]; unfold joinN; rw [if_neg (by omega), if_pos hk]⟩
 have HMS := Box.mk (named_kinds a2)
 have HF : Box (0 ≤ d.fn ∧ d.fn ≤ 7) := ⟨by rcases shape_cases a1 with h | h | h | h <;> omega⟩
 have HN := Box.mk (Wt.start h hl hT hP)
 rw [E.out] at hlen ⊢
 have HL := Box.mk hlen
 clear hT h hl hc hp hlen hc1 hc2 a1 a2 a3 a4 a5
 have HK := Box.mk hk
 clear hk
 show Calls _ _ #[_, .agg (ndC d mv bv kv)] _ _
 go_enter Tryz.func33, Tryz.ntmps33
 go_upto_region 1 with (fail)
 generalize w.alloc (.cells (ndC d _ _ _) exT) = W0 at HN ⊢
 obtain ⟨c0, c1, c2, c3, c4, c5, c6, c7, c8, c9, c10⟩ := HN.out.c
 simp only [Nat.zero_add] at c1 c2 c3 c4 c5 c6 c7 c8 c9 c10
 have t0 : (d.kind == 0) = false := by rw [HK.out]; rfl
 have t1 : (d.kind == 1) = true := by rw [HK.out]; rfl
 go_wp2_with fail
 refine (psel_any b l d ks P _ mv bv kv HN.out.tr HN.out.hP HN.out.wp.bd HN.out.wp.lib HF.out HMS.out HL.out).mono ?_
 rintro e w1 ⟨rfl, hd, hk⟩
 have HN1 := Box.mk (HN.out.wrote hd hk)
 clear hd hk c0 c1 c2 c3 c4 c5 c6 c7 c8 c9 c10
 go_wp2_with fail
 go_end0
 exact HN1.out.fin
set_option maxHeartbeats 4000000 in
set_option maxRecDepth 100000 in
theorem pwrite_2 (d : Nd) (ks : List Tree) (hk : d.kind = 2) (H : ∀ t ∈ ks, WrOk t) : WrOk (.node d ks) := by
 intro P w ⟨mv, bv, kv⟩ b l hT hP h hl hc hp hlen
 obtain ⟨hc1, hc2⟩ := chk_ok hc
 obtain ⟨a1, a2, a3, a4, a5⟩ := chk1_all hc1
 have E : Box (showT (.node d ks) = grpL d ++ (40 :: ((showL ks).headD [] ++ [41]))) := ⟨by rw [showT]; unfold joinN; rw [if_neg (by omega), if_neg (by omega), if_pos hk]⟩
 have HF : Box (ks.length = 1 ∧ 0 ≤ d.fn ∧ d.fn ≤ 4) := ⟨by rcases shape_cases a1 with h | h | h | h <;> omega⟩
 have HPR : Box (∀ t ∈ ks, prtB t = true) := ⟨by rw [prtB, if_neg (by omega)] at hp; exact prtL_all hp⟩
 have HN := Box.mk (Wt.start h hl hT hP)
 rw [E.out] at hlen ⊢
 have HL := Box.mk hlen
 have HC2 := Box.mk hc2
 clear hT h hl hc hp hlen hc1 hc2 a1 a2 a3 a5
 have HK := Box.mk hk
 clear hk
 show Calls _ _ #[_, .agg (ndC d mv bv kv)] _ _
 go_enter Tryz.func33, Tryz.ntmps33
 go_upto_region 1 with (fail)
 generalize w.alloc (.cells (ndC d _ _ _) exT) = W0 at HN ⊢
 obtain ⟨c0, c1, c2, c3, c4, c5, c6, c7, c8, c9, c10⟩ := HN.out.c
 simp only [Nat.zero_add] at c1 c2 c3 c4 c5 c6 c7 c8 c9 c10
 have t0 : (d.kind == 0) = false := by rw [HK.out]; rfl
 have t1 : (d.kind == 1) = false := by rw [HK.out]; rfl
 have t2 : (d.kind == 2) = true := by rw [HK.out]; rfl
 go_wp2_with fail
 refine (pgrp_any d ks HF.out.1 H P _ mv bv kv b l HN.out.tr HN.out.hP HN.out.wp.bd HN.out.wp.lib HC2.out HPR.out HF.out.2 a4 HL.out).mono ?_
 rintro e w1 ⟨rfl, hd, hk⟩
 have HN1 := Box.mk (HN.out.wrote hd hk)
 clear hd hk c0 c1 c2 c3 c4 c5 c6 c7 c8 c9 c10
 go_wp2_with fail
 go_end0
 exact HN1.out.fin
set_option maxHeartbeats 4000000 in
set_option maxRecDepth 100000 in
theorem pwrite_3 (d : Nd) (ks : List Tree) (hk : d.kind = 3) (H : ∀ t ∈ ks, WrOk t) : WrOk (.node d ks) := by
 intro P w ⟨mv, bv, kv⟩ b l hT hP h hl hc hp hlen
 obtain ⟨hc1, hc2⟩ := chk_ok hc
 obtain ⟨a1, a2, a3, a4, a5⟩ := chk1_all hc1
 have HF : Box (ks.length = 2 ∧ 0 ≤ d.fn ∧ d.fn ≤ 3) := ⟨by rcases shape_cases a1 with h | h | h | h <;> omega⟩
 have HPR : Box (∀ t ∈ ks, prtB t = true) := ⟨by rw [prtB, if_neg (by omega)] at hp; exact prtL_all hp⟩
 obtain ⟨A1, n1, rfl, l1⟩ := hT.nod.ms.form
 obtain ⟨A2, n2, rfl, l2⟩ := hT.nod.bys.form
 obtain ⟨A3, n3, rfl, l3⟩ := hT.nod.kform
 have HN := Box.mk (Wt.start h hl hT hP)
 obtain ⟨dx, xs, dy, ys, hks⟩ : ∃ dx xs dy ys, ks = [.node dx xs, .node dy ys] := by
  match ks, HF.out.1 with
  | [.node dx xs, .node dy ys], _ => exact ⟨dx, xs, dy, ys, rfl⟩
 obtain ⟨fn, hfe⟩ : ∃ k : Nat, d.fn = k := ⟨d.fn.toNat, by have := HF.out; omega⟩
 have HFN : Box (d.fn = (fn : Int) ∧ fn < 4) := ⟨hfe, by have := HF.out; omega⟩
 obtain ⟨q1, hq1⟩ : ∃ q : Bool, decide (precT dx < precT d) = q := ⟨_, rfl⟩
 obtain ⟨q2, hq2⟩ : ∃ q : Bool, decide (precT dy ≤ precT d) = q := ⟨_, rfl⟩
 obtain ⟨sx, hsx⟩ : ∃ x, encl q1 (showT (.node dx xs)) = x := ⟨_, rfl⟩
 obtain ⟨sy, hsy⟩ : ∃ x, encl q2 (showT (.node dy ys)) = x := ⟨_, rfl⟩
 obtain ⟨ob, hob⟩ : ∃ x : ByteArray, x = bsL (opersT.getD fn []) := ⟨_, rfl⟩
 have E : Box (showT (.node d ks) = sx ++ (ob.data.toList ++ sy)) := ⟨by
  rw [showT, hks]
  unfold joinN
  rw [if_neg (by omega), if_neg (by omega), if_neg (by omega)]
  simp only [List.map_cons, List.map_nil, showL, Tree.d]
  rw [hq1, hq2, hsx, hsy, hob, bsL_lst, hfe]
  rfl⟩
 have HOB : Box (bsL (opersT.getD fn []) = ob) := ⟨hob.symm⟩
 have HSX := Box.mk hsx
 have HSY := Box.mk hsy
 have HQ1 := Box.mk hq1
 have HQ2 := Box.mk hq2
 have HX : Box (WrOk (.node dx xs) ∧ chk (.node dx xs) = 0 ∧ prtB (.node dx xs) = true) := ⟨H _ (by rw [hks]; simp), hc2 _ (by rw [hks]; simp), HPR.out _ (by rw [hks]; simp)⟩
 have HY : Box (WrOk (.node dy ys) ∧ chk (.node dy ys) = 0 ∧ prtB (.node dy ys) = true) := ⟨H _ (by rw [hks]; simp), hc2 _ (by rw [hks]; simp), HPR.out _ (by rw [hks]; simp)⟩
 rw [E.out] at hlen ⊢
 have HL : Box (l.length + (sx.length + (ob.data.toList.length + sy.length)) ≤ 1000000000) := ⟨by simpa [List.length_append] using hlen⟩
 have HKS : Box (ks[0]? = some (.node dx xs) ∧ ks[1]? = some (.node dy ys) ∧ ks.length = 2) := ⟨by rw [hks]; rfl, by rw [hks]; rfl, by rw [hks]; rfl⟩
 have HK := Box.mk hk
 clear hT h hl hc hp hlen hc1 hc2 a1 a2 a3 a5 hks hfe hq1 hq2 hsx hsy hob H HPR hk
 show Calls _ _ #[_, .agg (ndC d _ _ _)] _ _
 go_enter Tryz.func33, Tryz.ntmps33
 go_upto_region 1 with (fail)
 generalize w.alloc (.cells (ndC d _ _ _) exT) = W0 at HN ⊢
 obtain ⟨c0, c1, c2, c3, c4, c5, c6, c7, c8, c9, c10⟩ := HN.out.c
 simp only [Nat.zero_add] at c1 c2 c3 c4 c5 c6 c7 c8 c9 c10
 have t0 : (d.kind == 0) = false := by rw [HK.out]; rfl
 have t1 : (d.kind == 1) = false := by rw [HK.out]; rfl
 have t2 : (d.kind == 2) = false := by rw [HK.out]; rfl
 have t3 : (d.kind == 3) = true := by rw [HK.out]; rfl
 go_wp2_with fail
 refine (pprec_any d _ _ _ _).mono ?_
 rintro e w1 ⟨rfl, hb1⟩
 have HN1 := Box.mk (HN.out.below hb1)
 clear hb1 c0 c1 c2 c3 c4 c5 c6 c7 c8 c9 c10 HN t0 t1 t2 t3
 obtain ⟨c0, c1, c2, c3, c4, c5, c6, c7, c8, c9, c10⟩ := HN1.out.c
 simp only [Nat.zero_add] at c10
 clear c0 c1 c2 c3 c4 c5 c6 c7 c8 c9
 obtain ⟨g, off, kx1, kx2, kx3, rfl, hgl, hgp, k11, hTx⟩ := HN1.out.tr.nod.kid 0 dx xs HKS.out.1
 simp only [Nat.zero_mul, Nat.add_zero] at k11
 have HGP := Box.mk hgp
 have HG11 := Box.mk k11
 have HTX := Box.mk hTx
 obtain ⟨k0, k1, k2, k3, k4, k5, k6, k7, k8, k9, k10⟩ := k11
 have HKL : (0 : Int) < (ks.length : Int) := by have := HKS.out.2.2; omega
 have HKL2 : 0 < ks.length := by omega
 have HGL : Box (g < w1.heap.size ∧ g < b) := ⟨hgl, by obtain ⟨z, hz⟩ := hgp; exact hP _ _ hz⟩
 clear hgp hTx hgl
 obtain ⟨pl, hpl⟩ : ∃ x : Nat, precT d = x := ⟨_, rfl⟩
 obtain ⟨px, hpx⟩ : ∃ x : Nat, precT dx = x := ⟨_, rfl⟩
 have HPL := Box.mk hpl
 have HPX := Box.mk hpx
 have HQ1' : Box (decide ((px : Int) < (pl : Int)) = q1 ∧ decide (px < pl) = q1) := ⟨by rw [← HQ1.out, hpl, hpx]; simp, by rw [← HQ1.out, hpl, hpx]⟩
 rw [hpl]
 clear hpl hpx
 obtain ⟨u1, u2⟩ := HQ1'.out
 have HK1 : Box (w1.drew.cell? ⟨w.heap.size, 10, none⟩ = some (.slice (some ⟨g, off, none⟩) ks.length n3) ∧ At11 w1.drew g off dx kx1 kx2 kx3) := ⟨c10, HG11.out⟩
 go_upto_region 10 with (fail)
 go_region_held3 (fun w' => w'.cell? ⟨w.heap.size, 10, none⟩ = some (.slice (some ⟨g, off, none⟩) ks.length n3) ∧ At11 w' g off dx kx1 kx2 kx3)
  (first | with_reducible exact HK1.out | with_reducible exact HK2.out | with_reducible exact HK3.out | go_keep)
  (first
   | (go_at_call 68; refine (pprec_any dx _ _ _ _).mono ?_; rintro e w4 ⟨rfl, hb4⟩; rw [HPX.out]; have HN2 : Box (Wt b P d ks (.slice A1 d.ms.length n1) (.slice A2 d.bys.length n2) (.slice (some ⟨g, off, none⟩) ks.length n3) w w4 (l)) := ⟨by first | exact HN1.out.below hb4 | exact HN1.out.drew.below hb4⟩; have HT2 : Box (TreeAt w4 P (.node dx xs) (kx1, kx2, kx3)) := ⟨(HTX.out.belo (below_drewN _ 1)).belo hb4⟩; have HK2 : Box (w4.cell? ⟨w.heap.size, 10, none⟩ = some (.slice (some ⟨g, off, none⟩) ks.length n3) ∧ At11 w4 g off dx kx1 kx2 kx3) := ⟨by have h := HN2.out.c.2.2.2.2.2.2.2.2.2.2; simpa using h, At11.keep (w := w1.drew) HG11.out hb4 HGL.out.1⟩; clear hb4)
   | (go_at_call 69; refine (poper_any q1 dx xs HX.out.1 P _ kx1 kx2 kx3 b (l) HT2.out hP HN2.out.wp.bd HN2.out.wp.lib HX.out.2.1 HX.out.2.2 (by rw [HSX.out]; have := HL.out; omega)).mono ?_; rintro e w5 ⟨rfl, hd, hk2⟩; rw [HSX.out] at hd; have HN3 : Box (Wt b P d ks (.slice A1 d.ms.length n1) (.slice A2 d.bys.length n2) (.slice (some ⟨g, off, none⟩) ks.length n3) w w5 ((l) ++ sx)) := ⟨HN2.out.wrote hd hk2⟩; have HK3 : Box (w5.cell? ⟨w.heap.size, 10, none⟩ = some (.slice (some ⟨g, off, none⟩) ks.length n3) ∧ At11 w5 g off dx kx1 kx2 kx3) := ⟨by have h := HN3.out.c.2.2.2.2.2.2.2.2.2.2; simpa using h, HK2.out.2.keep hk2.below HGL.out.2⟩; clear hd hk2))
 have HNA := HN3
 clear HK1 HK2 HK3 HN2 HN3 HT2 HTX HG11 u1 u2 HQ1' k0 k1 k2 k3 k4 k5 k6 k7 k8 k9 k10 c10
 rename World => wa
 obtain ⟨c0, c1, c2, c3, c4, c5, c6, c7, c8, c9, c10⟩ := HNA.out.c
 simp only [Nat.zero_add] at c1
 clear c0 c2 c3 c4 c5 c6 c7 c8 c9 c10
 rw [HFN.out.1] at c1
 have y1 := oprAt HNA.out.wp.lib.here fn HFN.out.2
 rw [HOB.out] at y1
 have hfn2 : (fn : Int) < 4 := by have := HFN.out.2; omega
 have hfn0 : (0 : Int) ≤ (fn : Int) := by omega
 go_wp2_with fail
 refine (bstr_any b _ ob _ HNA.out.wp.bd (by have := HL.out; have h2 := data_size ob; simp only [List.length_append]; omega)).mono ?_
 rintro e w6 ⟨rfl, hd, hk⟩
 have HNB := Box.mk (HNA.out.wrote hd hk)
 clear hd hk c1 y1 HNA hfn2 hfn0
 obtain ⟨c0, c1, c2, c3, c4, c5, c6, c7, c8, c9, c10⟩ := HNB.out.c
 simp only [Nat.zero_add] at c10
 clear c0 c1 c2 c3 c4 c5 c6 c7 c8 c9
 obtain ⟨g', off', ky1, ky2, ky3, hA, hgl, hgp, k11, hTx⟩ := HNB.out.tr.nod.kid 1 dy ys HKS.out.2.1
 cases hA
 rw [Nat.one_mul] at k11
 have HG11 := Box.mk k11
 have HTX := Box.mk hTx
 obtain ⟨k0, k1, k2, k3, k4, k5, k6, k7, k8, k9, k10⟩ := k11
 have HKL3 : (1 : Int) < (ks.length : Int) := by have := HKS.out.2.2; omega
 have HKL4 : 1 < ks.length := by omega
 have HGLB := HGL
 clear HGL
 have HGL : Box (g < w6.heap.size ∧ g < b) := ⟨hgl, HGLB.out.2⟩
 clear hgp hTx hgl
 obtain ⟨py, hpy⟩ : ∃ x : Nat, precT dy = x := ⟨_, rfl⟩
 have HPY := Box.mk hpy
 have HQ2' : Box (decide ((py : Int) ≤ (pl : Int)) = q2 ∧ decide (py ≤ pl) = q2) := ⟨by rw [← HQ2.out, HPL.out, hpy]; simp, by rw [← HQ2.out, HPL.out, hpy]⟩
 clear hpy
 obtain ⟨u1, u2⟩ := HQ2'.out
 have HK1 : Box (w6.drew.cell? ⟨w.heap.size, 10, none⟩ = some (.slice (some ⟨g, off, none⟩) ks.length n3) ∧ At11 w6.drew g (off + 11) dy ky1 ky2 ky3) := ⟨c10, HG11.out⟩
 go_upto_region 12 with (fail)
 go_region_held3 (fun w' => w'.cell? ⟨w.heap.size, 10, none⟩ = some (.slice (some ⟨g, off, none⟩) ks.length n3) ∧ At11 w' g (off + 11) dy ky1 ky2 ky3)
  (first | with_reducible exact HK1.out | with_reducible exact HK2.out | with_reducible exact HK3.out | go_keep)
  (first
   | (go_at_call 68; refine (pprec_any dy _ _ _ _).mono ?_; rintro e w4 ⟨rfl, hb4⟩; rw [HPY.out]; have HN2 : Box (Wt b P d ks (.slice A1 d.ms.length n1) (.slice A2 d.bys.length n2) (.slice (some ⟨g, off, none⟩) ks.length n3) w w4 ((l ++ sx) ++ ob.data.toList)) := ⟨by first | exact HNB.out.below hb4 | exact HNB.out.drew.below hb4⟩; have HT2 : Box (TreeAt w4 P (.node dy ys) (ky1, ky2, ky3)) := ⟨(HTX.out.belo (below_drewN _ 1)).belo hb4⟩; have HK2 : Box (w4.cell? ⟨w.heap.size, 10, none⟩ = some (.slice (some ⟨g, off, none⟩) ks.length n3) ∧ At11 w4 g (off + 11) dy ky1 ky2 ky3) := ⟨by have h := HN2.out.c.2.2.2.2.2.2.2.2.2.2; simpa using h, At11.keep (w := w6.drew) HG11.out hb4 HGL.out.1⟩; clear hb4)
   | (go_at_call 69; refine (poper_any q2 dy ys HY.out.1 P _ ky1 ky2 ky3 b ((l ++ sx) ++ ob.data.toList) HT2.out hP HN2.out.wp.bd HN2.out.wp.lib HY.out.2.1 HY.out.2.2 (by rw [HSY.out]; have := HL.out; simp only [List.length_append]; omega)).mono ?_; rintro e w5 ⟨rfl, hd, hk2⟩; rw [HSY.out] at hd; have HN3 : Box (Wt b P d ks (.slice A1 d.ms.length n1) (.slice A2 d.bys.length n2) (.slice (some ⟨g, off, none⟩) ks.length n3) w w5 (((l ++ sx) ++ ob.data.toList) ++ sy)) := ⟨HN2.out.wrote hd hk2⟩; have HK3 : Box (w5.cell? ⟨w.heap.size, 10, none⟩ = some (.slice (some ⟨g, off, none⟩) ks.length n3) ∧ At11 w5 g (off + 11) dy ky1 ky2 ky3) := ⟨by have h := HN3.out.c.2.2.2.2.2.2.2.2.2.2; simpa using h, HK2.out.2.keep hk2.below HGL.out.2⟩; clear hd hk2))
 go_wp2_with fail
 go_end0
 have hfin := HN3.out.fin (v := .tuple #[])
 simpa [List.append_assoc] using hfin
theorem pwrite_any : ∀ t, WrOk t := Tree.ind fun d ks ih => by
 by_cases h0 : d.kind = 0
 ·exact pwrite_0 d ks h0
 by_cases h1 : d.kind = 1
 ·exact pwrite_1 d ks h1
 by_cases h2 : d.kind = 2
 ·exact pwrite_2 d ks h2 ih
 by_cases h3 : d.kind = 3
 ·exact pwrite_3 d ks h3 ih
 intro P w s b l hT hP h hl hc hp hlen
 obtain ⟨hc1, hc2⟩ := chk_ok hc
 obtain ⟨a1, _⟩ := chk1_all hc1
 rcases shape_cases a1 with h | h | h | h <;> omega
end
end Go.Proofs.YtkdojgkiclndfaaGreatDoor
