/- Contracts, packed: Mh. -/
import Derived.Test.YthoibeajhdhdhaaGreatDoorPs48
set_option linter.unusedVariables false
set_option linter.unusedSimpArgs false
namespace Go.Proofs.YthoibeajhdhdhaaGreatDoor
section
open Go.RowKit FracM
theorem opr_cell {W : World} {g ty : Nat} (h : Blk W g ty #[.string ⟨#[43]⟩, .string ⟨#[45]⟩, .string ⟨#[42]⟩, .string ⟨#[47]⟩]) (k : Nat) (hk : k < 4) : W.cell? ⟨g, k, none⟩ = some (.string (bsL (opersT.getD k []))) := by
 unfold Blk at h
 match k, hk with
 | 0, _ => simp [World.cell?, h]; rfl
 | 1, _ => simp [World.cell?, h]; rfl
 | 2, _ => simp [World.cell?, h]; rfl
 | 3, _ => simp [World.cell?, h]; rfl
def ShOk (full : Bool) (t : Tree) : Prop := ∀ (prec : Nat) (q : Int) (P : Nat → Nat → Prop) (w : World) (s : Sl), prec ≤ 10 → q = (prec : Int) → chk t = 0 → prtB t = true → nds t ≤ 400 → TreeAt w P t s →
 Calls Tryz.prog 40 #[.agg (ndC t.d s.1 s.2.1 s.2.2), .int .i64 q, .bool full] w (RetB (.string (bsL (showR full t prec))) w)
theorem prtL_allR {ks : List Tree} (h : prtL ks = true) : ∀ t ∈ ks, prtB t = true := by
 induction ks with
 | nil => intro t ht; cases ht
 | cons x xs ih =>
  intro t ht
  rw [prtL, Bool.and_eq_true] at h
  rcases List.mem_cons.1 ht with rfl | ht
  ·exact h.1
  ·exact ih h.2 t ht
set_option maxHeartbeats 8000000 in
set_option maxRecDepth 100000 in
theorem rshow_any (full : Bool) : ∀ t, ShOk full t := by
 refine Tree.ind ?_
 intro d ks ih prec q P w ⟨mv, bv, kv⟩ hpr hq hc hp hn hT
 subst hq
 have IH := Box.mk ih
 obtain ⟨hc1, hc2⟩ := chk_ok hc
 have HNL := Box.mk (node_len hc1)
 obtain ⟨a1, a2, a3, a4, a5⟩ := chk1_all hc1
 have HMS := Box.mk (named_kinds a2)
 have HSH := Box.mk (shape_cases a1)
 have HVA : Box (d.kind = 0 → writB d.num d.den = true ∧ 1 ≤ d.den) := ⟨fun hk => ⟨by rw [prtB, if_pos hk] at hp; exact hp, (valid_iff.1 (shaped_num a1 hk)).1⟩⟩
 have HCK := Box.mk hc2
 have HPK : Box (d.kind ≠ 0 → ∀ t ∈ ks, prtB t = true) := ⟨fun hk => by rw [prtB, if_neg hk] at hp; exact prtL_allR hp⟩
 have HN := Box.mk (N1.start hT)
 have HNS : Box (nds (.node d ks) ≤ 400) := ⟨hn⟩
 have HLEN := Box.mk (showR_len full (.node d ks) hc prec)
 obtain ⟨A1, n1, hmv, l1⟩ := hT.nod.ms.form
 obtain ⟨A2, n2, hbv, l2⟩ := hT.nod.bys.form
 obtain ⟨A3, n3, hkv, l3⟩ := hT.nod.kform
 subst hmv hbv hkv
 clear hT ih hc hp hn hc1 hc2 a1 a2 a3 a4 a5
 simp only [Tree.d]
 go_enter Tryz.func40, Tryz.ntmps40
 go_upto_region 3 with (fail)
 generalize w.alloc (.cells (ndC d _ _ _) 29) = wr at HN ⊢
 obtain ⟨c0, c1, c2, c3, c4, c5, c6, c7, c8, c9, c10⟩ := HN.out.c
 simp only [Nat.zero_add] at c1 c2 c3 c4 c5 c6 c7 c8 c9 c10
 go_upto_block 0 with (fail)
 go_cut [7, 8] (fun v o wx => o = .int .i64 (precT d : Int) ∧ ∃ s, v = .string s ∧ Box (s = bsL (joinR d (showRL full ks (kidPrec d)))) ∧ Box (N1 w wx P d ks (.slice A1 d.ms.length n1) (.slice A2 d.bys.length n2) (.slice A3 ks.length n3)))
 case first =>
  rcases HSH.out with hk | hk | hk | hk
  ·have HOW : Box (precT d = 3) := ⟨by unfold precT; rw [if_neg (by omega)]⟩
   have HJ : Box (joinR d (showRL full ks (kidPrec d)) = numL d.num d.den) := ⟨by unfold joinR; rw [if_pos hk.1]⟩
   have HV := Box.mk (HVA.out hk.1)
   have e0 : (d.kind == 0) = true := by simp; omega
   clear hk
   go_wp2_with fail
   refine (rfrac_any d.num d.den _ HV.out.1 HV.out.2).mono ?_
   rintro e w1 ⟨rfl, hb1⟩
   have HN1 := Box.mk (HN.out.next hb1)
   clear hb1 c0 c1 c2 c3 c4 c5 c6 c7 c8 c9 c10
   go_wp2_with fail
   go_meet
   exact ⟨by rw [HOW.out]; rfl, _, rfl, ⟨by rw [HJ.out]⟩, HN1⟩
  ·have HOW : Box (precT d = 3) := ⟨by unfold precT; rw [if_neg (by omega)]⟩
   have k0 : ¬ d.kind = 0 := by omega
   have HJ : Box (joinR d (showRL full ks (kidPrec d)) = selL d) := ⟨by unfold joinR; rw [if_neg k0, if_pos hk.1]⟩
   have HFN : Box (0 ≤ d.fn ∧ d.fn ≤ 7) := ⟨hk.2.2⟩
   have HSL : Box ((selL d).length ≤ 1000) := ⟨by have := HNL.out.2.1 hk.1; omega⟩
   have e0 : (d.kind == 0) = false := by simp; omega
   have e1 : (d.kind == 1) = true := by simp; omega
   clear hk k0
   go_wp2_with fail
   refine (rsel_any d ks P _ _ _ _ HN.out.nod.tree HFN.out HMS.out HSL.out).mono ?_
   rintro e w1 ⟨rfl, hb1⟩
   have HN1 := Box.mk (HN.out.next hb1)
   clear hb1 c0 c1 c2 c3 c4 c5 c6 c7 c8 c9 c10
   go_wp2_with fail
   go_meet
   exact ⟨by rw [HOW.out]; rfl, _, rfl, ⟨by rw [HJ.out]⟩, HN1⟩
  ·have HOW : Box (precT d = 3) := ⟨by unfold precT; rw [if_neg (by omega)]⟩
   have z0 : ¬ d.kind = 0 := by omega
   have z1 : ¬ d.kind = 1 := by omega
   have z3 : ¬ d.kind = 3 := by omega
   have HFN : Box (0 ≤ d.fn ∧ d.fn ≤ 4) := ⟨hk.2.2⟩
   have HGL : Box ((grpL d).length ≤ 1000) := ⟨by have := HNL.out.2.2 hk.1; omega⟩
   have HPK := Box.mk (HPK.out z0)
   obtain ⟨e, es, b, off, B1, m1, B2, m2, B3, m3, hx, rfl, hb, -, ⟨k0, k1, k2, k3, k4, k5, k6, k7, k8, k9, k10⟩, hTk⟩ := kid2 HN.out.nod 0 (by omega)
   have hke := one_of hk.2.1 hx
   subst hke
   simp only [Nat.zero_mul, Nat.add_zero] at k0 k1 k2 k3 k4 k5 k6 k7 k8 k9 k10
   have HJ : Box (joinR d (showRL full [.node e es] (kidPrec d)) = grpL d ++ (40 :: (showR full (.node e es) 1 ++ [41]))) := ⟨by unfold joinR kidPrec; rw [if_neg z0, if_neg z1, if_pos hk.1, if_neg z3, showRL]; rfl⟩
   have HT' := Box.mk hTk
   have HND : Box (nds (.node e es) ≤ 400) := ⟨by have := HNS.out; simp only [nds, ndsL] at this ⊢; omega⟩
   have hcl := HN.out.blk.lt
   have hkl := hb
   have HXL : Box ((showR full (.node e es) 1).length ≤ 244000) := ⟨by have := showR_len full (.node e es) (HCK.out _ (by simp)) 1; have := HND.out; omega⟩
   obtain ⟨gb, hgb⟩ : ∃ z, bsL (grpL d) = z := ⟨_, rfl⟩
   have HGB := Box.mk hgb
   obtain ⟨xb, hxb⟩ : ∃ z, bsL (showR full (.node e es) 1) = z := ⟨_, rfl⟩
   have HXB := Box.mk hxb
   obtain ⟨t1, T1, a1⟩ := add_x gb ⟨#[40]⟩ (grpL d) [40] hgb.symm rfl (by have := HGL.out; simp only [List.length_cons, List.length_nil]; omega)
   obtain ⟨t2, T2, a2⟩ := add_x t1 xb _ (showR full (.node e es) 1) T1.out hxb.symm (by have := HGL.out; have := HXL.out; simp only [List.length_append, List.length_cons, List.length_nil]; omega)
   obtain ⟨t3, T3, a3⟩ := add_x t2 ⟨#[41]⟩ _ [41] T2.out rfl (by have := HGL.out; have := HXL.out; simp only [List.length_append, List.length_cons, List.length_nil]; omega)
   have e0 : (d.kind == 0) = false := by simp; omega
   have e1 : (d.kind == 1) = false := by simp; omega
   have e2 : (d.kind == 2) = true := by simp; omega
   simp only [List.length_cons, List.length_nil, Nat.zero_add] at c10
   clear hk z0 z1 z3 hTk hx hb hgb hxb HSH HVA
   go_upto_region 10 with (fail)
   refine wp_region_H (S := (fun w' : World => Below wr.heap.size wr w')) (by kernel_rfl) (by exact below_drewN wr 1) (fun hHeld => ?_)
   refine wpAnyH_take (i := 0) (v := ?_) rfl (by kernel_rfl) (by kernel_rfl) (by kernel_rfl) (fun _ _ _ h => h) (Or.inl ⟨by rfl, ?_⟩) (by assumption) ?_
   rotate_left
   ·(intro wq hSw; (try dsimp only at hSw); have f_c0 := bat hSw hcl c0; have f_c1 := bat hSw hcl c1; have f_c2 := bat hSw hcl c2; have f_c3 := bat hSw hcl c3; have f_c4 := bat hSw hcl c4; have f_c5 := bat hSw hcl c5; have f_c6 := bat hSw hcl c6; have f_c7 := bat hSw hcl c7; have f_c8 := bat hSw hcl c8; have f_c9 := bat hSw hcl c9; have f_c10 := bat hSw hcl c10; go_simp)
    all_goals with_reducible rfl
   (try simp only [List.getElem_toArray, List.getElem_cons_zero, List.getElem_cons_succ, Act.put, List.setIfInBounds_toArray, List.set_cons_zero, List.set_cons_succ])
   refine wpAnyH_take (i := 3) (v := ?_) rfl (by kernel_rfl) (by kernel_rfl) (by kernel_rfl) (fun _ _ _ h => h) (Or.inl ⟨by rfl, ?_⟩) (by assumption) ?_
   rotate_left
   ·(intro wq hSw; (try dsimp only at hSw); go_simp)
    all_goals with_reducible rfl
   (try simp only [List.getElem_toArray, List.getElem_cons_zero, List.getElem_cons_succ, Act.put, List.setIfInBounds_toArray, List.set_cons_zero, List.set_cons_succ])
   refine wpAnyH_take (i := 4) (v := ?_) rfl (by kernel_rfl) (by kernel_rfl) (by kernel_rfl) (fun _ _ _ h => h) (Or.inl ⟨by rfl, ?_⟩) (by assumption) ?_
   rotate_left
   ·(intro wq hSw; (try dsimp only at hSw); have f_c10 := bat hSw hcl c10; go_simp)
    all_goals with_reducible rfl
   (try simp only [List.getElem_toArray, List.getElem_cons_zero, List.getElem_cons_succ, Act.put, List.setIfInBounds_toArray, List.set_cons_zero, List.set_cons_succ])
   refine wpAnyH_take (i := 5) (v := ?_) rfl (by kernel_rfl) (by kernel_rfl) (by kernel_rfl) (fun _ _ _ h => h) (Or.inl ⟨by rfl, ?_⟩) (by assumption) ?_
   rotate_left
   ·(intro wq hSw; (try dsimp only at hSw); go_simp)
    all_goals with_reducible rfl
   (try simp only [List.getElem_toArray, List.getElem_cons_zero, List.getElem_cons_succ, Act.put, List.setIfInBounds_toArray, List.set_cons_zero, List.set_cons_succ])
   refine wpAnyH_take (i := 6) (v := ?_) rfl (by kernel_rfl) (by kernel_rfl) (by kernel_rfl) (fun _ _ _ h => h) (Or.inl ⟨by rfl, ?_⟩) (by assumption) ?_
   rotate_left
   ·(intro wq hSw; (try dsimp only at hSw); have f_k0 := bat hSw hkl k0; have f_k1 := bat hSw hkl k1; have f_k2 := bat hSw hkl k2; have f_k3 := bat hSw hkl k3; have f_k4 := bat hSw hkl k4; have f_k5 := bat hSw hkl k5; have f_k6 := bat hSw hkl k6; have f_k7 := bat hSw hkl k7; have f_k8 := bat hSw hkl k8; have f_k9 := bat hSw hkl k9; have f_k10 := bat hSw hkl k10; go_simp)
    all_goals with_reducible rfl
   (try simp only [List.getElem_toArray, List.getElem_cons_zero, List.getElem_cons_succ, Act.put, List.setIfInBounds_toArray, List.set_cons_zero, List.set_cons_succ])
   refine wpAnyH_take (i := 7) (v := ?_) rfl (by kernel_rfl) (by kernel_rfl) (by kernel_rfl) (fun _ _ _ h => h) (Or.inl ⟨by rfl, ?_⟩) (by assumption) ?_
   rotate_left
   ·(intro wq hSw; (try dsimp only at hSw); go_simp)
    all_goals with_reducible rfl
   (try simp only [List.getElem_toArray, List.getElem_cons_zero, List.getElem_cons_succ, Act.put, List.setIfInBounds_toArray, List.set_cons_zero, List.set_cons_succ])
   refine wpAnyH_one 1 (by kernel_rfl) rfl (fun K' hK' => ?_)
   (try rw [if_pos (by rfl)])
   go_simp
   refine (rgrp_any d [.node e es] P _ _ _ _ (HN.out.nod.tree.belo (below_drewN wr 1)) HFN.out HGL.out).mono ?_
   rintro e0 w1 ⟨rfl, hb1⟩
   rw [HGB.out]
   have HB1 : Box (Below wr.heap.size wr w1) := ⟨bthen (below_drewN wr 1) hb1 (Nat.le_refl _)⟩
   clear hb1
   go_wp2_with fail
   refine hK'.out _ _ HB1.out (fun hHq => ?_)
   clear hHeld
   have hHeld := hHq
   clear hHq hK' K'
   (try simp only [List.getElem_toArray, List.getElem_cons_zero, List.getElem_cons_succ, Act.put, List.setIfInBounds_toArray, List.set_cons_zero, List.set_cons_succ])
   refine wpAnyH_take (i := 2) (v := ?_) rfl (by kernel_rfl) (by kernel_rfl) (by kernel_rfl) (fun _ _ _ h => h) (Or.inl ⟨by rfl, ?_⟩) (by assumption) ?_
   rotate_left
   ·(intro wq hSw; (try dsimp only at hSw); go_simp)
    all_goals with_reducible rfl
   (try simp only [List.getElem_toArray, List.getElem_cons_zero, List.getElem_cons_succ, Act.put, List.setIfInBounds_toArray, List.set_cons_zero, List.set_cons_succ])
   refine wpAnyH_one 8 (by kernel_rfl) rfl (fun K' hK' => ?_)
   (try rw [if_pos (by rfl)])
   go_simp
   refine (IH.out (.node e es) (by simp) 1 1 P _ (.slice B1 e.ms.length m1, .slice B2 e.bys.length m2, .slice B3 es.length m3) (by omega) rfl (HCK.out _ (by simp)) (HPK.out _ (by simp)) HND.out (HT'.out.belo HB1.out)).mono ?_
   rintro e0 w2 ⟨rfl, hb2⟩
   rw [HXB.out]
   have HB2 : Box (Below wr.heap.size wr w2) := ⟨bthen HB1.out hb2 (Nat.le_refl _)⟩
   clear hb2
   go_wp2_with fail
   refine hK'.out _ _ HB2.out (fun hHq => ?_)
   clear hHeld
   have hHeld := hHq
   clear hHq hK' K'
   (try simp only [List.getElem_toArray, List.getElem_cons_zero, List.getElem_cons_succ, Act.put, List.setIfInBounds_toArray, List.set_cons_zero, List.set_cons_succ])
   refine wpAnyH_take (i := 9) (v := ?_) rfl (by kernel_rfl) (by kernel_rfl) (by kernel_rfl) (fun _ _ _ h => h) (Or.inl ⟨by rfl, ?_⟩) (by assumption) ?_
   rotate_left
   ·(intro wq hSw; (try dsimp only at hSw); go_simp)
    all_goals with_reducible rfl
   (try simp only [List.getElem_toArray, List.getElem_cons_zero, List.getElem_cons_succ, Act.put, List.setIfInBounds_toArray, List.set_cons_zero, List.set_cons_succ])
   refine wpAnyH_take (i := 10) (v := ?_) rfl (by kernel_rfl) (by kernel_rfl) (by kernel_rfl) (fun _ _ _ h => h) (Or.inl ⟨by rfl, ?_⟩) (by assumption) ?_
   rotate_left
   ·(intro wq hSw; (try dsimp only at hSw); go_simp)
    all_goals with_reducible rfl
   (try simp only [List.getElem_toArray, List.getElem_cons_zero, List.getElem_cons_succ, Act.put, List.setIfInBounds_toArray, List.set_cons_zero, List.set_cons_succ])
   refine wpAnyH_take (i := 11) (v := ?_) rfl (by kernel_rfl) (by kernel_rfl) (by kernel_rfl) (fun _ _ _ h => h) (Or.inl ⟨by rfl, ?_⟩) (by assumption) ?_
   rotate_left
   ·(intro wq hSw; (try dsimp only at hSw); go_simp)
    all_goals with_reducible rfl
   (try simp only [List.getElem_toArray, List.getElem_cons_zero, List.getElem_cons_succ, Act.put, List.setIfInBounds_toArray, List.set_cons_zero, List.set_cons_succ])
   refine wpAnyH_done (by kernel_rfl) ?_ _
   go_wp2_with fail
   go_meet
   exact ⟨by rw [HOW.out]; rfl, t3, rfl, ⟨by rw [T3.out, HJ.out]; simp⟩, ⟨HN.out.next HB2.out⟩⟩
  ·have z0 : ¬ d.kind = 0 := by omega
   have z1 : ¬ d.kind = 1 := by omega
   have z2 : ¬ d.kind = 2 := by omega
   obtain ⟨fn, hfe⟩ : ∃ k : Nat, d.fn = k := ⟨d.fn.toNat, by omega⟩
   have HFN4 : Box (fn < 4) := ⟨by omega⟩
   have HPK := Box.mk (HPK.out z0)
   obtain ⟨e, es, b, off, B1, m1, B2, m2, B3, m3, hx, hA, hb, -, ⟨k0, k1, k2, k3, k4, k5, k6, k7, k8, k9, k10⟩, hTk⟩ := kid2 HN.out.nod 0 (by omega)
   obtain ⟨e2, es2, b2, off2, C1, p1, C2, p2, C3, p3, hx2, hA2, hb2, -, ⟨j0, j1, j2, j3, j4, j5, j6, j7, j8, j9, j10⟩, hTk2⟩ := kid2 HN.out.nod 1 (by omega)
   have hke := two_of hk.2.1 hx hx2
   subst hke
   cases hA
   cases hA2
   simp only [Nat.zero_mul, Nat.add_zero] at k0 k1 k2 k3 k4 k5 k6 k7 k8 k9 k10
   simp only [Nat.one_mul, Nat.add_assoc, Nat.reduceAdd] at j0 j1 j2 j3 j4 j5 j6 j7 j8 j9 j10
   have HJ : Box (joinR d (showRL full [.node e es, .node e2 es2] (kidPrec d)) = showR full (.node e es) (precT d) ++ (opersT.getD fn [] ++ showR full (.node e2 es2) (precT d + 1))) := ⟨by unfold joinR kidPrec; rw [if_neg z0, if_neg z1, if_neg z2, if_pos hk.1, showRL, showRL, showRL, hfe]; rfl⟩
   have HTa := Box.mk hTk
   have HTb := Box.mk hTk2
   have HNDa : Box (nds (.node e es) ≤ 400) := ⟨by have := HNS.out; simp only [nds, ndsL] at this ⊢; omega⟩
   have HNDb : Box (nds (.node e2 es2) ≤ 400) := ⟨by have := HNS.out; simp only [nds, ndsL] at this ⊢; omega⟩
   have hcl := HN.out.blk.lt
   have hkl := hb
   have HB0 : Box (Below wr.heap.size wr wr.drew) := ⟨below_drewN wr 1⟩
   obtain ⟨ob, hob⟩ : ∃ z, bsL (opersT.getD fn []) = z := ⟨_, rfl⟩
   have HOB := Box.mk hob
   have HO1 := Box.mk (oprSz fn)
   have hfn2 : (fn : Int) < 4 := by omega
   have hfn0 : (0 : Int) ≤ (fn : Int) := by omega
   have e0 : (d.kind == 0) = false := by simp; omega
   have e1 : (d.kind == 1) = false := by simp; omega
   have e2' : (d.kind == 2) = false := by simp; omega
   have e3 : (d.kind == 3) = true := by simp; omega
   simp only [List.length_cons, List.length_nil, Nat.zero_add, Nat.reduceAdd] at c10
   rw [hfe] at c1
   rcases Nat.lt_or_ge fn 2 with hf | hf
   ·have HOW : Box (precT d = 1) := ⟨by unfold precT; rw [if_pos hk.1, if_pos (by omega)]⟩
    rw [HOW.out] at HJ
    have HXLa : Box ((showR full (.node e es) 1).length ≤ 244000) := ⟨by have := showR_len full (.node e es) (HCK.out _ (by simp)) 1; have := HNDa.out; omega⟩
    have HXLb : Box ((showR full (.node e2 es2) 2).length ≤ 244000) := ⟨by have := showR_len full (.node e2 es2) (HCK.out _ (by simp)) 2; have := HNDb.out; omega⟩
    obtain ⟨xa, hxa⟩ : ∃ z, bsL (showR full (.node e es) 1) = z := ⟨_, rfl⟩
    have HXA := Box.mk hxa
    obtain ⟨xb, hxb⟩ : ∃ z, bsL (showR full (.node e2 es2) 2) = z := ⟨_, rfl⟩
    have HXB := Box.mk hxb
    obtain ⟨t1, T1, a1⟩ := add_x xa ob (showR full (.node e es) 1) (opersT.getD fn []) hxa.symm hob.symm (by have := HXLa.out; have := HO1.out; omega)
    obtain ⟨t2, T2', a2⟩ := add_x t1 xb _ (showR full (.node e2 es2) 2) T1.out hxb.symm (by have := HXLa.out; have := HXLb.out; have := HO1.out; simp only [List.length_append]; omega)
    have T2 : Box (t2 = bsL (joinR d (showRL full [.node e es, .node e2 es2] (kidPrec d)))) := ⟨by rw [T2'.out, HJ.out]; simp⟩
    clear hk z0 z1 z2 hTk hTk2 hx hx2 hb hb2 hob hxa hxb HSH HVA hfe HJ T1 T2'
    go_upto_region 16 with (fail)
    refine wp_region_H (S := (fun w' : World => Below wr.heap.size wr w')) (by kernel_rfl) (by exact below_drewN wr 1) (fun hHeld => ?_)
    refine wpAnyH_take (i := 0) (v := ?_) rfl (by kernel_rfl) (by kernel_rfl) (by kernel_rfl) (fun _ _ _ h => h) (Or.inl ⟨by rfl, ?_⟩) (by assumption) ?_
    rotate_left
    ·(intro wq hSw; (try dsimp only at hSw); go_simp)
     all_goals with_reducible rfl
    (try simp only [List.getElem_toArray, List.getElem_cons_zero, List.getElem_cons_succ, Act.put, List.setIfInBounds_toArray, List.set_cons_zero, List.set_cons_succ])
    refine wpAnyH_take (i := 1) (v := ?_) rfl (by kernel_rfl) (by kernel_rfl) (by kernel_rfl) (fun _ _ _ h => h) (Or.inl ⟨by rfl, ?_⟩) (by assumption) ?_
    rotate_left
    ·(intro wq hSw; (try dsimp only at hSw); have f_c10 := bat hSw hcl c10; go_simp)
     all_goals with_reducible rfl
    (try simp only [List.getElem_toArray, List.getElem_cons_zero, List.getElem_cons_succ, Act.put, List.setIfInBounds_toArray, List.set_cons_zero, List.set_cons_succ])
    refine wpAnyH_take (i := 2) (v := ?_) rfl (by kernel_rfl) (by kernel_rfl) (by kernel_rfl) (fun _ _ _ h => h) (Or.inl ⟨by rfl, ?_⟩) (by assumption) ?_
    rotate_left
    ·(intro wq hSw; (try dsimp only at hSw); go_simp)
     all_goals with_reducible rfl
    (try simp only [List.getElem_toArray, List.getElem_cons_zero, List.getElem_cons_succ, Act.put, List.setIfInBounds_toArray, List.set_cons_zero, List.set_cons_succ])
    refine wpAnyH_take (i := 3) (v := ?_) rfl (by kernel_rfl) (by kernel_rfl) (by kernel_rfl) (fun _ _ _ h => h) (Or.inl ⟨by rfl, ?_⟩) (by assumption) ?_
    rotate_left
    ·(intro wq hSw; (try dsimp only at hSw); have f_k0 := bat hSw hkl k0; have f_k1 := bat hSw hkl k1; have f_k2 := bat hSw hkl k2; have f_k3 := bat hSw hkl k3; have f_k4 := bat hSw hkl k4; have f_k5 := bat hSw hkl k5; have f_k6 := bat hSw hkl k6; have f_k7 := bat hSw hkl k7; have f_k8 := bat hSw hkl k8; have f_k9 := bat hSw hkl k9; have f_k10 := bat hSw hkl k10; go_simp)
     all_goals with_reducible rfl
    (try simp only [List.getElem_toArray, List.getElem_cons_zero, List.getElem_cons_succ, Act.put, List.setIfInBounds_toArray, List.set_cons_zero, List.set_cons_succ])
    refine wpAnyH_take (i := 4) (v := ?_) rfl (by kernel_rfl) (by kernel_rfl) (by kernel_rfl) (fun _ _ _ h => h) (Or.inl ⟨by rfl, ?_⟩) (by assumption) ?_
    rotate_left
    ·(intro wq hSw; (try dsimp only at hSw); go_simp)
     all_goals with_reducible rfl
    (try simp only [List.getElem_toArray, List.getElem_cons_zero, List.getElem_cons_succ, Act.put, List.setIfInBounds_toArray, List.set_cons_zero, List.set_cons_succ])
    refine wpAnyH_take (i := 5) (v := ?_) rfl (by kernel_rfl) (by kernel_rfl) (by kernel_rfl) (fun _ _ _ h => h) (Or.inl ⟨by rfl, ?_⟩) (by assumption) ?_
    rotate_left
    ·(intro wq hSw; (try dsimp only at hSw); go_simp)
     all_goals with_reducible rfl
    (try simp only [List.getElem_toArray, List.getElem_cons_zero, List.getElem_cons_succ, Act.put, List.setIfInBounds_toArray, List.set_cons_zero, List.set_cons_succ])
    refine wpAnyH_take (i := 8) (v := ?_) rfl (by kernel_rfl) (by kernel_rfl) (by kernel_rfl) (fun _ _ _ h => h) (Or.inl ⟨by rfl, ?_⟩) (by assumption) ?_
    rotate_left
    ·(intro wq hSw; (try dsimp only at hSw); go_simp)
     all_goals with_reducible rfl
    (try simp only [List.getElem_toArray, List.getElem_cons_zero, List.getElem_cons_succ, Act.put, List.setIfInBounds_toArray, List.set_cons_zero, List.set_cons_succ])
    refine wpAnyH_take (i := 9) (v := ?_) rfl (by kernel_rfl) (by kernel_rfl) (by kernel_rfl) (fun _ _ _ h => h) (Or.inl ⟨by rfl, ?_⟩) (by assumption) ?_
    rotate_left
    ·(intro wq hSw; (try dsimp only at hSw); have f_c1 := bat hSw hcl c1; go_simp)
     all_goals with_reducible rfl
    (try simp only [List.getElem_toArray, List.getElem_cons_zero, List.getElem_cons_succ, Act.put, List.setIfInBounds_toArray, List.set_cons_zero, List.set_cons_succ])
    refine wpAnyH_take (i := 14) (v := ?_) rfl (by kernel_rfl) (by kernel_rfl) (by kernel_rfl) (fun _ _ _ h => h) (Or.inl ⟨by rfl, ?_⟩) (by assumption) ?_
    rotate_left
    ·(intro wq hSw; (try dsimp only at hSw); go_simp)
     all_goals with_reducible rfl
    (try simp only [List.getElem_toArray, List.getElem_cons_zero, List.getElem_cons_succ, Act.put, List.setIfInBounds_toArray, List.set_cons_zero, List.set_cons_succ])
    refine wpAnyH_take (i := 15) (v := ?_) rfl (by kernel_rfl) (by kernel_rfl) (by kernel_rfl) (fun _ _ _ h => h) (Or.inl ⟨by rfl, ?_⟩) (by assumption) ?_
    rotate_left
    ·(intro wq hSw; (try dsimp only at hSw); have f_c10 := bat hSw hcl c10; go_simp)
     all_goals with_reducible rfl
    (try simp only [List.getElem_toArray, List.getElem_cons_zero, List.getElem_cons_succ, Act.put, List.setIfInBounds_toArray, List.set_cons_zero, List.set_cons_succ])
    refine wpAnyH_take (i := 16) (v := ?_) rfl (by kernel_rfl) (by kernel_rfl) (by kernel_rfl) (fun _ _ _ h => h) (Or.inl ⟨by rfl, ?_⟩) (by assumption) ?_
    rotate_left
    ·(intro wq hSw; (try dsimp only at hSw); go_simp)
     all_goals with_reducible rfl
    (try simp only [List.getElem_toArray, List.getElem_cons_zero, List.getElem_cons_succ, Act.put, List.setIfInBounds_toArray, List.set_cons_zero, List.set_cons_succ])
    refine wpAnyH_take (i := 17) (v := ?_) rfl (by kernel_rfl) (by kernel_rfl) (by kernel_rfl) (fun _ _ _ h => h) (Or.inl ⟨by rfl, ?_⟩) (by assumption) ?_
    rotate_left
    ·(intro wq hSw; (try dsimp only at hSw); have f_j0 := bat hSw hkl j0; have f_j1 := bat hSw hkl j1; have f_j2 := bat hSw hkl j2; have f_j3 := bat hSw hkl j3; have f_j4 := bat hSw hkl j4; have f_j5 := bat hSw hkl j5; have f_j6 := bat hSw hkl j6; have f_j7 := bat hSw hkl j7; have f_j8 := bat hSw hkl j8; have f_j9 := bat hSw hkl j9; have f_j10 := bat hSw hkl j10; go_simp)
     all_goals with_reducible rfl
    (try simp only [List.getElem_toArray, List.getElem_cons_zero, List.getElem_cons_succ, Act.put, List.setIfInBounds_toArray, List.set_cons_zero, List.set_cons_succ])
    refine wpAnyH_take (i := 18) (v := ?_) rfl (by kernel_rfl) (by kernel_rfl) (by kernel_rfl) (fun _ _ _ h => h) (Or.inl ⟨by rfl, ?_⟩) (by assumption) ?_
    rotate_left
    ·(intro wq hSw; (try dsimp only at hSw); go_simp)
     all_goals with_reducible rfl
    (try simp only [List.getElem_toArray, List.getElem_cons_zero, List.getElem_cons_succ, Act.put, List.setIfInBounds_toArray, List.set_cons_zero, List.set_cons_succ])
    refine wpAnyH_take (i := 19) (v := ?_) rfl (by kernel_rfl) (by kernel_rfl) (by kernel_rfl) (fun _ _ _ h => h) (Or.inl ⟨by rfl, ?_⟩) (by assumption) ?_
    rotate_left
    ·(intro wq hSw; (try dsimp only at hSw); go_simp)
     all_goals with_reducible rfl
    (try simp only [List.getElem_toArray, List.getElem_cons_zero, List.getElem_cons_succ, Act.put, List.setIfInBounds_toArray, List.set_cons_zero, List.set_cons_succ])
    refine wpAnyH_take (i := 20) (v := ?_) rfl (by kernel_rfl) (by kernel_rfl) (by kernel_rfl) (fun _ _ _ h => h) (Or.inl ⟨by rfl, ?_⟩) (by assumption) ?_
    rotate_left
    ·(intro wq hSw; (try dsimp only at hSw); go_simp)
     all_goals with_reducible rfl
    (try simp only [List.getElem_toArray, List.getElem_cons_zero, List.getElem_cons_succ, Act.put, List.setIfInBounds_toArray, List.set_cons_zero, List.set_cons_succ])
    refine wpAnyH_two 6 7 (by kernel_rfl) rfl rfl (fun K' hK' => ?_) (fun K' hK' => ?_)
    ·(try rw [if_pos (by rfl)])
     go_simp
     refine (IH.out (.node e es) (by simp) 1 1 P _ (.slice B1 e.ms.length m1, .slice B2 e.bys.length m2, .slice B3 es.length m3) (by omega) rfl (HCK.out _ (by simp)) (HPK.out _ (by simp)) HNDa.out (HTa.out.belo HB0.out)).mono ?_
     rintro e0 w1 ⟨rfl, hb1⟩
     rw [HXA.out]
     have HB1 : Box (Below wr.heap.size wr w1) := ⟨bthen HB0.out hb1 (Nat.le_refl _)⟩
     clear hb1
     go_wp2_with fail
     refine hK'.out _ _ HB1.out (fun hHq => ?_)
     clear hHeld
     have hHeld := hHq
     clear hHq hK' K'
     (try simp only [List.getElem_toArray, List.getElem_cons_zero, List.getElem_cons_succ, Act.put, List.setIfInBounds_toArray, List.set_cons_zero, List.set_cons_succ])
     refine wpAnyH_takeQ (i := 10) 18 #[.int .i64 (fn : Int), .int .i64 4] rfl (by kernel_rfl) (by kernel_rfl) (by kernel_rfl) (fun _ _ _ h => h) (by rfl) (by intro wq; go_simp) (fun wq hSw => around_id fn 4 wq hfn2 (by omega)) (by assumption) ?_
     (try simp only [List.getElem_toArray, List.getElem_cons_zero, List.getElem_cons_succ, Act.put, List.setIfInBounds_toArray, List.set_cons_zero, List.set_cons_succ])
     refine wpAnyH_two 7 21 (by kernel_rfl) rfl rfl (fun K' hK' => ?_) (fun K' hK' => ?_)
     ·(try rw [if_pos (by rfl)])
      go_simp
      refine hK'.out _ _ (bthen HB1.out (bel1 w1 (.cells #[.string ⟨#[43]⟩, .string ⟨#[45]⟩, .string ⟨#[42]⟩, .string ⟨#[47]⟩] 9)) (Nat.le_refl _)) (fun hHq => ?_)
      clear hHeld
      have hHeld := hHq
      clear hHq hK' K'
      (try simp only [List.getElem_toArray, List.getElem_cons_zero, List.getElem_cons_succ, Act.put, List.setIfInBounds_toArray, List.set_cons_zero, List.set_cons_succ])
      have HBA : Box (Below wr.heap.size wr (w1.alloc (.cells #[.string ⟨#[43]⟩, .string ⟨#[45]⟩, .string ⟨#[42]⟩, .string ⟨#[47]⟩] 9))) := ⟨bthen HB1.out (bel1 w1 (.cells #[.string ⟨#[43]⟩, .string ⟨#[45]⟩, .string ⟨#[42]⟩, .string ⟨#[47]⟩] 9)) (Nat.le_refl _)⟩
      have HCA : Box ((w1.alloc (.cells #[.string ⟨#[43]⟩, .string ⟨#[45]⟩, .string ⟨#[42]⟩, .string ⟨#[47]⟩] 9)).cell? ⟨w1.heap.size, fn, none⟩ = some (.string ob)) := ⟨by rw [← HOB.out]; exact opr_cell (Blk.new w1 _ _) fn HFN4.out⟩
      have HLA : Box (w1.heap.size < (w1.alloc (.cells #[.string ⟨#[43]⟩, .string ⟨#[45]⟩, .string ⟨#[42]⟩, .string ⟨#[47]⟩] 9)).heap.size) := ⟨by simp⟩
      have hHeld2 : (fun w' : World => Below wr.heap.size wr w' ∧ w'.cell? ⟨w1.heap.size, fn, none⟩ = some (.string ob)) _ := ⟨HBA.out, HCA.out⟩
      clear hHeld
      have hHeld := hHeld2
      clear hHeld2
      refine wpAnyH_grow (S2 := (fun w' : World => Below wr.heap.size wr w' ∧ w'.cell? ⟨w1.heap.size, fn, none⟩ = some (.string ob))) (fun _ h => h.1) ?_
      refine wpAnyH_take (i := 11) (v := ?_) rfl (by kernel_rfl) (by kernel_rfl) (by kernel_rfl) (fun _ _ _ h => h) (Or.inl ⟨by rfl, ?_⟩) (by assumption) ?_
      rotate_left
      ·(intro wq hSw; (try dsimp only at hSw); go_simp)
       all_goals with_reducible rfl
      (try simp only [List.getElem_toArray, List.getElem_cons_zero, List.getElem_cons_succ, Act.put, List.setIfInBounds_toArray, List.set_cons_zero, List.set_cons_succ])
      refine wpAnyH_take (i := 12) (v := ?_) rfl (by kernel_rfl) (by kernel_rfl) (by kernel_rfl) (fun _ _ _ h => h) (Or.inl ⟨by rfl, ?_⟩) (by assumption) ?_
      rotate_left
      ·(intro wq hSw; (try dsimp only at hSw); obtain ⟨hS1, hS2⟩ := hSw; go_simp)
       all_goals with_reducible rfl
      (try simp only [List.getElem_toArray, List.getElem_cons_zero, List.getElem_cons_succ, Act.put, List.setIfInBounds_toArray, List.set_cons_zero, List.set_cons_succ])
      refine wpAnyH_take (i := 13) (v := ?_) rfl (by kernel_rfl) (by kernel_rfl) (by kernel_rfl) (fun _ _ _ h => h) (Or.inl ⟨by rfl, ?_⟩) (by assumption) ?_
      rotate_left
      ·(intro wq hSw; (try dsimp only at hSw); go_simp)
       all_goals with_reducible rfl
      (try simp only [List.getElem_toArray, List.getElem_cons_zero, List.getElem_cons_succ, Act.put, List.setIfInBounds_toArray, List.set_cons_zero, List.set_cons_succ])
      refine wpAnyH_one 21 (by kernel_rfl) rfl (fun K' hK' => ?_)
      (try rw [if_pos (by rfl)])
      go_simp
      refine (IH.out (.node e2 es2) (by simp) 2 2 P _ (.slice C1 e2.ms.length p1, .slice C2 e2.bys.length p2, .slice C3 es2.length p3) (by omega) rfl (HCK.out _ (by simp)) (HPK.out _ (by simp)) HNDb.out (HTb.out.belo HBA.out)).mono ?_
      rintro e0 w2 ⟨rfl, hb2⟩
      rw [HXB.out]
      have HB2 : Box (Below wr.heap.size wr w2) := ⟨bthen HBA.out hb2 (Nat.le_refl _)⟩
      have HC2 : Box (w2.cell? ⟨w1.heap.size, fn, none⟩ = some (.string ob)) := ⟨bat hb2 HLA.out HCA.out⟩
      clear hb2
      go_wp2_with fail
      refine hK'.out _ _ ⟨HB2.out, HC2.out⟩ (fun hHq => ?_)
      clear hHeld
      have hHeld := hHq
      clear hHq hK' K'
      (try simp only [List.getElem_toArray, List.getElem_cons_zero, List.getElem_cons_succ, Act.put, List.setIfInBounds_toArray, List.set_cons_zero, List.set_cons_succ])
      refine wpAnyH_take (i := 22) (v := ?_) rfl (by kernel_rfl) (by kernel_rfl) (by kernel_rfl) (fun _ _ _ h => h) (Or.inl ⟨by rfl, ?_⟩) (by assumption) ?_
      rotate_left
      ·(intro wq hSw; (try dsimp only at hSw); go_simp)
       all_goals with_reducible rfl
      (try simp only [List.getElem_toArray, List.getElem_cons_zero, List.getElem_cons_succ, Act.put, List.setIfInBounds_toArray, List.set_cons_zero, List.set_cons_succ])
      refine wpAnyH_take (i := 23) (v := ?_) rfl (by kernel_rfl) (by kernel_rfl) (by kernel_rfl) (fun _ _ _ h => h) (Or.inl ⟨by rfl, ?_⟩) (by assumption) ?_
      rotate_left
      ·(intro wq hSw; (try dsimp only at hSw); go_simp)
       all_goals with_reducible rfl
      (try simp only [List.getElem_toArray, List.getElem_cons_zero, List.getElem_cons_succ, Act.put, List.setIfInBounds_toArray, List.set_cons_zero, List.set_cons_succ])
      refine wpAnyH_done (by kernel_rfl) ?_ _
      go_wp2_with fail
      go_meet
      exact ⟨by rw [HOW.out]; rfl, t2, rfl, T2, ⟨HN.out.next HB2.out⟩⟩
     ·(try rw [if_pos (by rfl)])
      go_simp
      refine (IH.out (.node e2 es2) (by simp) 2 2 P _ (.slice C1 e2.ms.length p1, .slice C2 e2.bys.length p2, .slice C3 es2.length p3) (by omega) rfl (HCK.out _ (by simp)) (HPK.out _ (by simp)) HNDb.out (HTb.out.belo HB1.out)).mono ?_
      rintro e0 w2 ⟨rfl, hb2⟩
      rw [HXB.out]
      have HB2 : Box (Below wr.heap.size wr w2) := ⟨bthen HB1.out hb2 (Nat.le_refl _)⟩
      clear hb2
      go_wp2_with fail
      refine hK'.out _ _ HB2.out (fun hHq => ?_)
      clear hHeld
      have hHeld := hHq
      clear hHq hK' K'
      (try simp only [List.getElem_toArray, List.getElem_cons_zero, List.getElem_cons_succ, Act.put, List.setIfInBounds_toArray, List.set_cons_zero, List.set_cons_succ])
      refine wpAnyH_one 7 (by kernel_rfl) rfl (fun K' hK' => ?_)
      (try rw [if_pos (by rfl)])
      go_simp
      refine hK'.out _ _ (bthen HB2.out (bel1 w2 (.cells #[.string ⟨#[43]⟩, .string ⟨#[45]⟩, .string ⟨#[42]⟩, .string ⟨#[47]⟩] 9)) (Nat.le_refl _)) (fun hHq => ?_)
      clear hHeld
      have hHeld := hHq
      clear hHq hK' K'
      (try simp only [List.getElem_toArray, List.getElem_cons_zero, List.getElem_cons_succ, Act.put, List.setIfInBounds_toArray, List.set_cons_zero, List.set_cons_succ])
      have HBA : Box (Below wr.heap.size wr (w2.alloc (.cells #[.string ⟨#[43]⟩, .string ⟨#[45]⟩, .string ⟨#[42]⟩, .string ⟨#[47]⟩] 9))) := ⟨bthen HB2.out (bel1 w2 (.cells #[.string ⟨#[43]⟩, .string ⟨#[45]⟩, .string ⟨#[42]⟩, .string ⟨#[47]⟩] 9)) (Nat.le_refl _)⟩
      have HCA : Box ((w2.alloc (.cells #[.string ⟨#[43]⟩, .string ⟨#[45]⟩, .string ⟨#[42]⟩, .string ⟨#[47]⟩] 9)).cell? ⟨w2.heap.size, fn, none⟩ = some (.string ob)) := ⟨by rw [← HOB.out]; exact opr_cell (Blk.new w2 _ _) fn HFN4.out⟩
      have hHeld2 : (fun w' : World => Below wr.heap.size wr w' ∧ w'.cell? ⟨w2.heap.size, fn, none⟩ = some (.string ob)) _ := ⟨HBA.out, HCA.out⟩
      clear hHeld
      have hHeld := hHeld2
      clear hHeld2
      refine wpAnyH_grow (S2 := (fun w' : World => Below wr.heap.size wr w' ∧ w'.cell? ⟨w2.heap.size, fn, none⟩ = some (.string ob))) (fun _ h => h.1) ?_
      refine wpAnyH_take (i := 11) (v := ?_) rfl (by kernel_rfl) (by kernel_rfl) (by kernel_rfl) (fun _ _ _ h => h) (Or.inl ⟨by rfl, ?_⟩) (by assumption) ?_
      rotate_left
      ·(intro wq hSw; (try dsimp only at hSw); go_simp)
       all_goals with_reducible rfl
      (try simp only [List.getElem_toArray, List.getElem_cons_zero, List.getElem_cons_succ, Act.put, List.setIfInBounds_toArray, List.set_cons_zero, List.set_cons_succ])
      refine wpAnyH_take (i := 12) (v := ?_) rfl (by kernel_rfl) (by kernel_rfl) (by kernel_rfl) (fun _ _ _ h => h) (Or.inl ⟨by rfl, ?_⟩) (by assumption) ?_
      rotate_left
      ·(intro wq hSw; (try dsimp only at hSw); obtain ⟨hS1, hS2⟩ := hSw; go_simp)
       all_goals with_reducible rfl
      (try simp only [List.getElem_toArray, List.getElem_cons_zero, List.getElem_cons_succ, Act.put, List.setIfInBounds_toArray, List.set_cons_zero, List.set_cons_succ])
      refine wpAnyH_take (i := 13) (v := ?_) rfl (by kernel_rfl) (by kernel_rfl) (by kernel_rfl) (fun _ _ _ h => h) (Or.inl ⟨by rfl, ?_⟩) (by assumption) ?_
      rotate_left
      ·(intro wq hSw; (try dsimp only at hSw); go_simp)
       all_goals with_reducible rfl
      (try simp only [List.getElem_toArray, List.getElem_cons_zero, List.getElem_cons_succ, Act.put, List.setIfInBounds_toArray, List.set_cons_zero, List.set_cons_succ])
      refine wpAnyH_take (i := 22) (v := ?_) rfl (by kernel_rfl) (by kernel_rfl) (by kernel_rfl) (fun _ _ _ h => h) (Or.inl ⟨by rfl, ?_⟩) (by assumption) ?_
      rotate_left
      ·(intro wq hSw; (try dsimp only at hSw); go_simp)
       all_goals with_reducible rfl
      (try simp only [List.getElem_toArray, List.getElem_cons_zero, List.getElem_cons_succ, Act.put, List.setIfInBounds_toArray, List.set_cons_zero, List.set_cons_succ])
      refine wpAnyH_take (i := 23) (v := ?_) rfl (by kernel_rfl) (by kernel_rfl) (by kernel_rfl) (fun _ _ _ h => h) (Or.inl ⟨by rfl, ?_⟩) (by assumption) ?_
      rotate_left
      ·(intro wq hSw; (try dsimp only at hSw); go_simp)
       all_goals with_reducible rfl
      (try simp only [List.getElem_toArray, List.getElem_cons_zero, List.getElem_cons_succ, Act.put, List.setIfInBounds_toArray, List.set_cons_zero, List.set_cons_succ])
      refine wpAnyH_done (by kernel_rfl) ?_ _
      go_wp2_with fail
      go_meet
      exact ⟨by rw [HOW.out]; rfl, t2, rfl, T2, ⟨HN.out.next HBA.out⟩⟩
    ·(try rw [if_pos (by rfl)])
     go_simp
     refine hK'.out _ _ (bthen HB0.out (bel1 wr.drew (.cells #[.string ⟨#[43]⟩, .string ⟨#[45]⟩, .string ⟨#[42]⟩, .string ⟨#[47]⟩] 9)) (Nat.le_refl _)) (fun hHq => ?_)
     clear hHeld
     have hHeld := hHq
     clear hHq hK' K'
     (try simp only [List.getElem_toArray, List.getElem_cons_zero, List.getElem_cons_succ, Act.put, List.setIfInBounds_toArray, List.set_cons_zero, List.set_cons_succ])
     have HBA : Box (Below wr.heap.size wr (wr.drew.alloc (.cells #[.string ⟨#[43]⟩, .string ⟨#[45]⟩, .string ⟨#[42]⟩, .string ⟨#[47]⟩] 9))) := ⟨bthen HB0.out (bel1 wr.drew (.cells #[.string ⟨#[43]⟩, .string ⟨#[45]⟩, .string ⟨#[42]⟩, .string ⟨#[47]⟩] 9)) (Nat.le_refl _)⟩
     have HCA : Box ((wr.drew.alloc (.cells #[.string ⟨#[43]⟩, .string ⟨#[45]⟩, .string ⟨#[42]⟩, .string ⟨#[47]⟩] 9)).cell? ⟨wr.heap.size, fn, none⟩ = some (.string ob)) := ⟨by rw [← HOB.out]; exact opr_cell (Blk.new wr.drew _ _) fn HFN4.out⟩
     have HLA : Box (wr.heap.size < (wr.drew.alloc (.cells #[.string ⟨#[43]⟩, .string ⟨#[45]⟩, .string ⟨#[42]⟩, .string ⟨#[47]⟩] 9)).heap.size) := ⟨by show wr.heap.size < (wr.alloc (.cells #[.string ⟨#[43]⟩, .string ⟨#[45]⟩, .string ⟨#[42]⟩, .string ⟨#[47]⟩] 9)).heap.size; simp⟩
     have hHeld2 : (fun w' : World => Below wr.heap.size wr w' ∧ w'.cell? ⟨wr.heap.size, fn, none⟩ = some (.string ob)) _ := ⟨HBA.out, HCA.out⟩
     clear hHeld
     have hHeld := hHeld2
     clear hHeld2
     refine wpAnyH_grow (S2 := (fun w' : World => Below wr.heap.size wr w' ∧ w'.cell? ⟨wr.heap.size, fn, none⟩ = some (.string ob))) (fun _ h => h.1) ?_
     refine wpAnyH_one 6 (by kernel_rfl) rfl (fun K' hK' => ?_)
     (try rw [if_pos (by rfl)])
     go_simp
     refine (IH.out (.node e es) (by simp) 1 1 P _ (.slice B1 e.ms.length m1, .slice B2 e.bys.length m2, .slice B3 es.length m3) (by omega) rfl (HCK.out _ (by simp)) (HPK.out _ (by simp)) HNDa.out (HTa.out.belo HBA.out)).mono ?_
     rintro e0 w1 ⟨rfl, hb1⟩
     rw [HXA.out]
     have HB1 : Box (Below wr.heap.size wr w1) := ⟨bthen HBA.out hb1 (Nat.le_refl _)⟩
     have HC1 : Box (w1.cell? ⟨wr.heap.size, fn, none⟩ = some (.string ob)) := ⟨bat hb1 HLA.out HCA.out⟩
     have HL1 : Box (wr.heap.size < w1.heap.size) := ⟨Nat.lt_of_lt_of_le HLA.out hb1.size⟩
     clear hb1
     go_wp2_with fail
     refine hK'.out _ _ ⟨HB1.out, HC1.out⟩ (fun hHq => ?_)
     clear hHeld
     have hHeld := hHq
     clear hHq hK' K'
     (try simp only [List.getElem_toArray, List.getElem_cons_zero, List.getElem_cons_succ, Act.put, List.setIfInBounds_toArray, List.set_cons_zero, List.set_cons_succ])
     refine wpAnyH_takeQ (i := 10) 18 #[.int .i64 (fn : Int), .int .i64 4] rfl (by kernel_rfl) (by kernel_rfl) (by kernel_rfl) (fun _ _ _ h => h) (by rfl) (by intro wq; go_simp) (fun wq hSw => around_id fn 4 wq hfn2 (by omega)) (by assumption) ?_
     (try simp only [List.getElem_toArray, List.getElem_cons_zero, List.getElem_cons_succ, Act.put, List.setIfInBounds_toArray, List.set_cons_zero, List.set_cons_succ])
     refine wpAnyH_take (i := 11) (v := ?_) rfl (by kernel_rfl) (by kernel_rfl) (by kernel_rfl) (fun _ _ _ h => h) (Or.inl ⟨by rfl, ?_⟩) (by assumption) ?_
     rotate_left
     ·(intro wq hSw; (try dsimp only at hSw); go_simp)
      all_goals with_reducible rfl
     (try simp only [List.getElem_toArray, List.getElem_cons_zero, List.getElem_cons_succ, Act.put, List.setIfInBounds_toArray, List.set_cons_zero, List.set_cons_succ])
     refine wpAnyH_take (i := 12) (v := ?_) rfl (by kernel_rfl) (by kernel_rfl) (by kernel_rfl) (fun _ _ _ h => h) (Or.inl ⟨by rfl, ?_⟩) (by assumption) ?_
     rotate_left
     ·(intro wq hSw; (try dsimp only at hSw); obtain ⟨hS1, hS2⟩ := hSw; go_simp)
      all_goals with_reducible rfl
     (try simp only [List.getElem_toArray, List.getElem_cons_zero, List.getElem_cons_succ, Act.put, List.setIfInBounds_toArray, List.set_cons_zero, List.set_cons_succ])
     refine wpAnyH_take (i := 13) (v := ?_) rfl (by kernel_rfl) (by kernel_rfl) (by kernel_rfl) (fun _ _ _ h => h) (Or.inl ⟨by rfl, ?_⟩) (by assumption) ?_
     rotate_left
     ·(intro wq hSw; (try dsimp only at hSw); go_simp)
      all_goals with_reducible rfl
     (try simp only [List.getElem_toArray, List.getElem_cons_zero, List.getElem_cons_succ, Act.put, List.setIfInBounds_toArray, List.set_cons_zero, List.set_cons_succ])
     refine wpAnyH_one 21 (by kernel_rfl) rfl (fun K' hK' => ?_)
     (try rw [if_pos (by rfl)])
     go_simp
     refine (IH.out (.node e2 es2) (by simp) 2 2 P _ (.slice C1 e2.ms.length p1, .slice C2 e2.bys.length p2, .slice C3 es2.length p3) (by omega) rfl (HCK.out _ (by simp)) (HPK.out _ (by simp)) HNDb.out (HTb.out.belo HB1.out)).mono ?_
     rintro e0 w2 ⟨rfl, hb2⟩
     rw [HXB.out]
     have HB2 : Box (Below wr.heap.size wr w2) := ⟨bthen HB1.out hb2 (Nat.le_refl _)⟩
     have HC2 : Box (w2.cell? ⟨wr.heap.size, fn, none⟩ = some (.string ob)) := ⟨bat hb2 HL1.out HC1.out⟩
     clear hb2
     go_wp2_with fail
     refine hK'.out _ _ ⟨HB2.out, HC2.out⟩ (fun hHq => ?_)
     clear hHeld
     have hHeld := hHq
     clear hHq hK' K'
     (try simp only [List.getElem_toArray, List.getElem_cons_zero, List.getElem_cons_succ, Act.put, List.setIfInBounds_toArray, List.set_cons_zero, List.set_cons_succ])
     refine wpAnyH_take (i := 22) (v := ?_) rfl (by kernel_rfl) (by kernel_rfl) (by kernel_rfl) (fun _ _ _ h => h) (Or.inl ⟨by rfl, ?_⟩) (by assumption) ?_
     rotate_left
     ·(intro wq hSw; (try dsimp only at hSw); go_simp)
      all_goals with_reducible rfl
     (try simp only [List.getElem_toArray, List.getElem_cons_zero, List.getElem_cons_succ, Act.put, List.setIfInBounds_toArray, List.set_cons_zero, List.set_cons_succ])
     refine wpAnyH_take (i := 23) (v := ?_) rfl (by kernel_rfl) (by kernel_rfl) (by kernel_rfl) (fun _ _ _ h => h) (Or.inl ⟨by rfl, ?_⟩) (by assumption) ?_
     rotate_left
     ·(intro wq hSw; (try dsimp only at hSw); go_simp)
      all_goals with_reducible rfl
     (try simp only [List.getElem_toArray, List.getElem_cons_zero, List.getElem_cons_succ, Act.put, List.setIfInBounds_toArray, List.set_cons_zero, List.set_cons_succ])
     refine wpAnyH_done (by kernel_rfl) ?_ _
     go_wp2_with fail
     go_meet
     exact ⟨by rw [HOW.out]; rfl, t2, rfl, T2, ⟨HN.out.next HB2.out⟩⟩
   ·have HOW : Box (precT d = 2) := ⟨by unfold precT; rw [if_pos hk.1, if_neg (by omega)]⟩
    rw [HOW.out] at HJ
    have HXLa : Box ((showR full (.node e es) 2).length ≤ 244000) := ⟨by have := showR_len full (.node e es) (HCK.out _ (by simp)) 2; have := HNDa.out; omega⟩
    have HXLb : Box ((showR full (.node e2 es2) 3).length ≤ 244000) := ⟨by have := showR_len full (.node e2 es2) (HCK.out _ (by simp)) 3; have := HNDb.out; omega⟩
    obtain ⟨xa, hxa⟩ : ∃ z, bsL (showR full (.node e es) 2) = z := ⟨_, rfl⟩
    have HXA := Box.mk hxa
    obtain ⟨xb, hxb⟩ : ∃ z, bsL (showR full (.node e2 es2) 3) = z := ⟨_, rfl⟩
    have HXB := Box.mk hxb
    obtain ⟨t1, T1, a1⟩ := add_x xa ob (showR full (.node e es) 2) (opersT.getD fn []) hxa.symm hob.symm (by have := HXLa.out; have := HO1.out; omega)
    obtain ⟨t2, T2', a2⟩ := add_x t1 xb _ (showR full (.node e2 es2) 3) T1.out hxb.symm (by have := HXLa.out; have := HXLb.out; have := HO1.out; simp only [List.length_append]; omega)
    have T2 : Box (t2 = bsL (joinR d (showRL full [.node e es, .node e2 es2] (kidPrec d)))) := ⟨by rw [T2'.out, HJ.out]; simp⟩
    clear hk z0 z1 z2 hTk hTk2 hx hx2 hb hb2 hob hxa hxb HSH HVA hfe HJ T1 T2'
    go_upto_region 16 with (fail)
    refine wp_region_H (S := (fun w' : World => Below wr.heap.size wr w')) (by kernel_rfl) (by exact below_drewN wr 1) (fun hHeld => ?_)
    refine wpAnyH_take (i := 0) (v := ?_) rfl (by kernel_rfl) (by kernel_rfl) (by kernel_rfl) (fun _ _ _ h => h) (Or.inl ⟨by rfl, ?_⟩) (by assumption) ?_
    rotate_left
    ·(intro wq hSw; (try dsimp only at hSw); go_simp)
     all_goals with_reducible rfl
    (try simp only [List.getElem_toArray, List.getElem_cons_zero, List.getElem_cons_succ, Act.put, List.setIfInBounds_toArray, List.set_cons_zero, List.set_cons_succ])
    refine wpAnyH_take (i := 1) (v := ?_) rfl (by kernel_rfl) (by kernel_rfl) (by kernel_rfl) (fun _ _ _ h => h) (Or.inl ⟨by rfl, ?_⟩) (by assumption) ?_
    rotate_left
    ·(intro wq hSw; (try dsimp only at hSw); have f_c10 := bat hSw hcl c10; go_simp)
     all_goals with_reducible rfl
    (try simp only [List.getElem_toArray, List.getElem_cons_zero, List.getElem_cons_succ, Act.put, List.setIfInBounds_toArray, List.set_cons_zero, List.set_cons_succ])
    refine wpAnyH_take (i := 2) (v := ?_) rfl (by kernel_rfl) (by kernel_rfl) (by kernel_rfl) (fun _ _ _ h => h) (Or.inl ⟨by rfl, ?_⟩) (by assumption) ?_
    rotate_left
    ·(intro wq hSw; (try dsimp only at hSw); go_simp)
     all_goals with_reducible rfl
    (try simp only [List.getElem_toArray, List.getElem_cons_zero, List.getElem_cons_succ, Act.put, List.setIfInBounds_toArray, List.set_cons_zero, List.set_cons_succ])
    refine wpAnyH_take (i := 3) (v := ?_) rfl (by kernel_rfl) (by kernel_rfl) (by kernel_rfl) (fun _ _ _ h => h) (Or.inl ⟨by rfl, ?_⟩) (by assumption) ?_
    rotate_left
    ·(intro wq hSw; (try dsimp only at hSw); have f_k0 := bat hSw hkl k0; have f_k1 := bat hSw hkl k1; have f_k2 := bat hSw hkl k2; have f_k3 := bat hSw hkl k3; have f_k4 := bat hSw hkl k4; have f_k5 := bat hSw hkl k5; have f_k6 := bat hSw hkl k6; have f_k7 := bat hSw hkl k7; have f_k8 := bat hSw hkl k8; have f_k9 := bat hSw hkl k9; have f_k10 := bat hSw hkl k10; go_simp)
     all_goals with_reducible rfl
    (try simp only [List.getElem_toArray, List.getElem_cons_zero, List.getElem_cons_succ, Act.put, List.setIfInBounds_toArray, List.set_cons_zero, List.set_cons_succ])
    refine wpAnyH_take (i := 4) (v := ?_) rfl (by kernel_rfl) (by kernel_rfl) (by kernel_rfl) (fun _ _ _ h => h) (Or.inl ⟨by rfl, ?_⟩) (by assumption) ?_
    rotate_left
    ·(intro wq hSw; (try dsimp only at hSw); go_simp)
     all_goals with_reducible rfl
    (try simp only [List.getElem_toArray, List.getElem_cons_zero, List.getElem_cons_succ, Act.put, List.setIfInBounds_toArray, List.set_cons_zero, List.set_cons_succ])
    refine wpAnyH_take (i := 5) (v := ?_) rfl (by kernel_rfl) (by kernel_rfl) (by kernel_rfl) (fun _ _ _ h => h) (Or.inl ⟨by rfl, ?_⟩) (by assumption) ?_
    rotate_left
    ·(intro wq hSw; (try dsimp only at hSw); go_simp)
     all_goals with_reducible rfl
    (try simp only [List.getElem_toArray, List.getElem_cons_zero, List.getElem_cons_succ, Act.put, List.setIfInBounds_toArray, List.set_cons_zero, List.set_cons_succ])
    refine wpAnyH_take (i := 8) (v := ?_) rfl (by kernel_rfl) (by kernel_rfl) (by kernel_rfl) (fun _ _ _ h => h) (Or.inl ⟨by rfl, ?_⟩) (by assumption) ?_
    rotate_left
    ·(intro wq hSw; (try dsimp only at hSw); go_simp)
     all_goals with_reducible rfl
    (try simp only [List.getElem_toArray, List.getElem_cons_zero, List.getElem_cons_succ, Act.put, List.setIfInBounds_toArray, List.set_cons_zero, List.set_cons_succ])
    refine wpAnyH_take (i := 9) (v := ?_) rfl (by kernel_rfl) (by kernel_rfl) (by kernel_rfl) (fun _ _ _ h => h) (Or.inl ⟨by rfl, ?_⟩) (by assumption) ?_
    rotate_left
    ·(intro wq hSw; (try dsimp only at hSw); have f_c1 := bat hSw hcl c1; go_simp)
     all_goals with_reducible rfl
    (try simp only [List.getElem_toArray, List.getElem_cons_zero, List.getElem_cons_succ, Act.put, List.setIfInBounds_toArray, List.set_cons_zero, List.set_cons_succ])
    refine wpAnyH_take (i := 14) (v := ?_) rfl (by kernel_rfl) (by kernel_rfl) (by kernel_rfl) (fun _ _ _ h => h) (Or.inl ⟨by rfl, ?_⟩) (by assumption) ?_
    rotate_left
    ·(intro wq hSw; (try dsimp only at hSw); go_simp)
     all_goals with_reducible rfl
    (try simp only [List.getElem_toArray, List.getElem_cons_zero, List.getElem_cons_succ, Act.put, List.setIfInBounds_toArray, List.set_cons_zero, List.set_cons_succ])
    refine wpAnyH_take (i := 15) (v := ?_) rfl (by kernel_rfl) (by kernel_rfl) (by kernel_rfl) (fun _ _ _ h => h) (Or.inl ⟨by rfl, ?_⟩) (by assumption) ?_
    rotate_left
    ·(intro wq hSw; (try dsimp only at hSw); have f_c10 := bat hSw hcl c10; go_simp)
     all_goals with_reducible rfl
    (try simp only [List.getElem_toArray, List.getElem_cons_zero, List.getElem_cons_succ, Act.put, List.setIfInBounds_toArray, List.set_cons_zero, List.set_cons_succ])
    refine wpAnyH_take (i := 16) (v := ?_) rfl (by kernel_rfl) (by kernel_rfl) (by kernel_rfl) (fun _ _ _ h => h) (Or.inl ⟨by rfl, ?_⟩) (by assumption) ?_
    rotate_left
    ·(intro wq hSw; (try dsimp only at hSw); go_simp)
     all_goals with_reducible rfl
    (try simp only [List.getElem_toArray, List.getElem_cons_zero, List.getElem_cons_succ, Act.put, List.setIfInBounds_toArray, List.set_cons_zero, List.set_cons_succ])
    refine wpAnyH_take (i := 17) (v := ?_) rfl (by kernel_rfl) (by kernel_rfl) (by kernel_rfl) (fun _ _ _ h => h) (Or.inl ⟨by rfl, ?_⟩) (by assumption) ?_
    rotate_left
    ·(intro wq hSw; (try dsimp only at hSw); have f_j0 := bat hSw hkl j0; have f_j1 := bat hSw hkl j1; have f_j2 := bat hSw hkl j2; have f_j3 := bat hSw hkl j3; have f_j4 := bat hSw hkl j4; have f_j5 := bat hSw hkl j5; have f_j6 := bat hSw hkl j6; have f_j7 := bat hSw hkl j7; have f_j8 := bat hSw hkl j8; have f_j9 := bat hSw hkl j9; have f_j10 := bat hSw hkl j10; go_simp)
     all_goals with_reducible rfl
    (try simp only [List.getElem_toArray, List.getElem_cons_zero, List.getElem_cons_succ, Act.put, List.setIfInBounds_toArray, List.set_cons_zero, List.set_cons_succ])
    refine wpAnyH_take (i := 18) (v := ?_) rfl (by kernel_rfl) (by kernel_rfl) (by kernel_rfl) (fun _ _ _ h => h) (Or.inl ⟨by rfl, ?_⟩) (by assumption) ?_
    rotate_left
    ·(intro wq hSw; (try dsimp only at hSw); go_simp)
     all_goals with_reducible rfl
    (try simp only [List.getElem_toArray, List.getElem_cons_zero, List.getElem_cons_succ, Act.put, List.setIfInBounds_toArray, List.set_cons_zero, List.set_cons_succ])
    refine wpAnyH_take (i := 19) (v := ?_) rfl (by kernel_rfl) (by kernel_rfl) (by kernel_rfl) (fun _ _ _ h => h) (Or.inl ⟨by rfl, ?_⟩) (by assumption) ?_
    rotate_left
    ·(intro wq hSw; (try dsimp only at hSw); go_simp)
     all_goals with_reducible rfl
    (try simp only [List.getElem_toArray, List.getElem_cons_zero, List.getElem_cons_succ, Act.put, List.setIfInBounds_toArray, List.set_cons_zero, List.set_cons_succ])
    refine wpAnyH_take (i := 20) (v := ?_) rfl (by kernel_rfl) (by kernel_rfl) (by kernel_rfl) (fun _ _ _ h => h) (Or.inl ⟨by rfl, ?_⟩) (by assumption) ?_
    rotate_left
    ·(intro wq hSw; (try dsimp only at hSw); go_simp)
     all_goals with_reducible rfl
    (try simp only [List.getElem_toArray, List.getElem_cons_zero, List.getElem_cons_succ, Act.put, List.setIfInBounds_toArray, List.set_cons_zero, List.set_cons_succ])
    refine wpAnyH_two 6 7 (by kernel_rfl) rfl rfl (fun K' hK' => ?_) (fun K' hK' => ?_)
    ·(try rw [if_pos (by rfl)])
     go_simp
     refine (IH.out (.node e es) (by simp) 2 2 P _ (.slice B1 e.ms.length m1, .slice B2 e.bys.length m2, .slice B3 es.length m3) (by omega) rfl (HCK.out _ (by simp)) (HPK.out _ (by simp)) HNDa.out (HTa.out.belo HB0.out)).mono ?_
     rintro e0 w1 ⟨rfl, hb1⟩
     rw [HXA.out]
     have HB1 : Box (Below wr.heap.size wr w1) := ⟨bthen HB0.out hb1 (Nat.le_refl _)⟩
     clear hb1
     go_wp2_with fail
     refine hK'.out _ _ HB1.out (fun hHq => ?_)
     clear hHeld
     have hHeld := hHq
     clear hHq hK' K'
     (try simp only [List.getElem_toArray, List.getElem_cons_zero, List.getElem_cons_succ, Act.put, List.setIfInBounds_toArray, List.set_cons_zero, List.set_cons_succ])
     refine wpAnyH_takeQ (i := 10) 18 #[.int .i64 (fn : Int), .int .i64 4] rfl (by kernel_rfl) (by kernel_rfl) (by kernel_rfl) (fun _ _ _ h => h) (by rfl) (by intro wq; go_simp) (fun wq hSw => around_id fn 4 wq hfn2 (by omega)) (by assumption) ?_
     (try simp only [List.getElem_toArray, List.getElem_cons_zero, List.getElem_cons_succ, Act.put, List.setIfInBounds_toArray, List.set_cons_zero, List.set_cons_succ])
     refine wpAnyH_two 7 21 (by kernel_rfl) rfl rfl (fun K' hK' => ?_) (fun K' hK' => ?_)
     ·(try rw [if_pos (by rfl)])
      go_simp
      refine hK'.out _ _ (bthen HB1.out (bel1 w1 (.cells #[.string ⟨#[43]⟩, .string ⟨#[45]⟩, .string ⟨#[42]⟩, .string ⟨#[47]⟩] 9)) (Nat.le_refl _)) (fun hHq => ?_)
      clear hHeld
      have hHeld := hHq
      clear hHq hK' K'
      (try simp only [List.getElem_toArray, List.getElem_cons_zero, List.getElem_cons_succ, Act.put, List.setIfInBounds_toArray, List.set_cons_zero, List.set_cons_succ])
      have HBA : Box (Below wr.heap.size wr (w1.alloc (.cells #[.string ⟨#[43]⟩, .string ⟨#[45]⟩, .string ⟨#[42]⟩, .string ⟨#[47]⟩] 9))) := ⟨bthen HB1.out (bel1 w1 (.cells #[.string ⟨#[43]⟩, .string ⟨#[45]⟩, .string ⟨#[42]⟩, .string ⟨#[47]⟩] 9)) (Nat.le_refl _)⟩
      have HCA : Box ((w1.alloc (.cells #[.string ⟨#[43]⟩, .string ⟨#[45]⟩, .string ⟨#[42]⟩, .string ⟨#[47]⟩] 9)).cell? ⟨w1.heap.size, fn, none⟩ = some (.string ob)) := ⟨by rw [← HOB.out]; exact opr_cell (Blk.new w1 _ _) fn HFN4.out⟩
      have HLA : Box (w1.heap.size < (w1.alloc (.cells #[.string ⟨#[43]⟩, .string ⟨#[45]⟩, .string ⟨#[42]⟩, .string ⟨#[47]⟩] 9)).heap.size) := ⟨by simp⟩
      have hHeld2 : (fun w' : World => Below wr.heap.size wr w' ∧ w'.cell? ⟨w1.heap.size, fn, none⟩ = some (.string ob)) _ := ⟨HBA.out, HCA.out⟩
      clear hHeld
      have hHeld := hHeld2
      clear hHeld2
      refine wpAnyH_grow (S2 := (fun w' : World => Below wr.heap.size wr w' ∧ w'.cell? ⟨w1.heap.size, fn, none⟩ = some (.string ob))) (fun _ h => h.1) ?_
      refine wpAnyH_take (i := 11) (v := ?_) rfl (by kernel_rfl) (by kernel_rfl) (by kernel_rfl) (fun _ _ _ h => h) (Or.inl ⟨by rfl, ?_⟩) (by assumption) ?_
      rotate_left
      ·(intro wq hSw; (try dsimp only at hSw); go_simp)
       all_goals with_reducible rfl
      (try simp only [List.getElem_toArray, List.getElem_cons_zero, List.getElem_cons_succ, Act.put, List.setIfInBounds_toArray, List.set_cons_zero, List.set_cons_succ])
      refine wpAnyH_take (i := 12) (v := ?_) rfl (by kernel_rfl) (by kernel_rfl) (by kernel_rfl) (fun _ _ _ h => h) (Or.inl ⟨by rfl, ?_⟩) (by assumption) ?_
      rotate_left
      ·(intro wq hSw; (try dsimp only at hSw); obtain ⟨hS1, hS2⟩ := hSw; go_simp)
       all_goals with_reducible rfl
      (try simp only [List.getElem_toArray, List.getElem_cons_zero, List.getElem_cons_succ, Act.put, List.setIfInBounds_toArray, List.set_cons_zero, List.set_cons_succ])
      refine wpAnyH_take (i := 13) (v := ?_) rfl (by kernel_rfl) (by kernel_rfl) (by kernel_rfl) (fun _ _ _ h => h) (Or.inl ⟨by rfl, ?_⟩) (by assumption) ?_
      rotate_left
      ·(intro wq hSw; (try dsimp only at hSw); go_simp)
       all_goals with_reducible rfl
      (try simp only [List.getElem_toArray, List.getElem_cons_zero, List.getElem_cons_succ, Act.put, List.setIfInBounds_toArray, List.set_cons_zero, List.set_cons_succ])
      refine wpAnyH_one 21 (by kernel_rfl) rfl (fun K' hK' => ?_)
      (try rw [if_pos (by rfl)])
      go_simp
      refine (IH.out (.node e2 es2) (by simp) 3 3 P _ (.slice C1 e2.ms.length p1, .slice C2 e2.bys.length p2, .slice C3 es2.length p3) (by omega) rfl (HCK.out _ (by simp)) (HPK.out _ (by simp)) HNDb.out (HTb.out.belo HBA.out)).mono ?_
      rintro e0 w2 ⟨rfl, hb2⟩
      rw [HXB.out]
      have HB2 : Box (Below wr.heap.size wr w2) := ⟨bthen HBA.out hb2 (Nat.le_refl _)⟩
      have HC2 : Box (w2.cell? ⟨w1.heap.size, fn, none⟩ = some (.string ob)) := ⟨bat hb2 HLA.out HCA.out⟩
      clear hb2
      go_wp2_with fail
      refine hK'.out _ _ ⟨HB2.out, HC2.out⟩ (fun hHq => ?_)
      clear hHeld
      have hHeld := hHq
      clear hHq hK' K'
      (try simp only [List.getElem_toArray, List.getElem_cons_zero, List.getElem_cons_succ, Act.put, List.setIfInBounds_toArray, List.set_cons_zero, List.set_cons_succ])
      refine wpAnyH_take (i := 22) (v := ?_) rfl (by kernel_rfl) (by kernel_rfl) (by kernel_rfl) (fun _ _ _ h => h) (Or.inl ⟨by rfl, ?_⟩) (by assumption) ?_
      rotate_left
      ·(intro wq hSw; (try dsimp only at hSw); go_simp)
       all_goals with_reducible rfl
      (try simp only [List.getElem_toArray, List.getElem_cons_zero, List.getElem_cons_succ, Act.put, List.setIfInBounds_toArray, List.set_cons_zero, List.set_cons_succ])
      refine wpAnyH_take (i := 23) (v := ?_) rfl (by kernel_rfl) (by kernel_rfl) (by kernel_rfl) (fun _ _ _ h => h) (Or.inl ⟨by rfl, ?_⟩) (by assumption) ?_
      rotate_left
      ·(intro wq hSw; (try dsimp only at hSw); go_simp)
       all_goals with_reducible rfl
      (try simp only [List.getElem_toArray, List.getElem_cons_zero, List.getElem_cons_succ, Act.put, List.setIfInBounds_toArray, List.set_cons_zero, List.set_cons_succ])
      refine wpAnyH_done (by kernel_rfl) ?_ _
      go_wp2_with fail
      go_meet
      exact ⟨by rw [HOW.out]; rfl, t2, rfl, T2, ⟨HN.out.next HB2.out⟩⟩
     ·(try rw [if_pos (by rfl)])
      go_simp
      refine (IH.out (.node e2 es2) (by simp) 3 3 P _ (.slice C1 e2.ms.length p1, .slice C2 e2.bys.length p2, .slice C3 es2.length p3) (by omega) rfl (HCK.out _ (by simp)) (HPK.out _ (by simp)) HNDb.out (HTb.out.belo HB1.out)).mono ?_
      rintro e0 w2 ⟨rfl, hb2⟩
      rw [HXB.out]
      have HB2 : Box (Below wr.heap.size wr w2) := ⟨bthen HB1.out hb2 (Nat.le_refl _)⟩
      clear hb2
      go_wp2_with fail
      refine hK'.out _ _ HB2.out (fun hHq => ?_)
      clear hHeld
      have hHeld := hHq
      clear hHq hK' K'
      (try simp only [List.getElem_toArray, List.getElem_cons_zero, List.getElem_cons_succ, Act.put, List.setIfInBounds_toArray, List.set_cons_zero, List.set_cons_succ])
      refine wpAnyH_one 7 (by kernel_rfl) rfl (fun K' hK' => ?_)
      (try rw [if_pos (by rfl)])
      go_simp
      refine hK'.out _ _ (bthen HB2.out (bel1 w2 (.cells #[.string ⟨#[43]⟩, .string ⟨#[45]⟩, .string ⟨#[42]⟩, .string ⟨#[47]⟩] 9)) (Nat.le_refl _)) (fun hHq => ?_)
      clear hHeld
      have hHeld := hHq
      clear hHq hK' K'
      (try simp only [List.getElem_toArray, List.getElem_cons_zero, List.getElem_cons_succ, Act.put, List.setIfInBounds_toArray, List.set_cons_zero, List.set_cons_succ])
      have HBA : Box (Below wr.heap.size wr (w2.alloc (.cells #[.string ⟨#[43]⟩, .string ⟨#[45]⟩, .string ⟨#[42]⟩, .string ⟨#[47]⟩] 9))) := ⟨bthen HB2.out (bel1 w2 (.cells #[.string ⟨#[43]⟩, .string ⟨#[45]⟩, .string ⟨#[42]⟩, .string ⟨#[47]⟩] 9)) (Nat.le_refl _)⟩
      have HCA : Box ((w2.alloc (.cells #[.string ⟨#[43]⟩, .string ⟨#[45]⟩, .string ⟨#[42]⟩, .string ⟨#[47]⟩] 9)).cell? ⟨w2.heap.size, fn, none⟩ = some (.string ob)) := ⟨by rw [← HOB.out]; exact opr_cell (Blk.new w2 _ _) fn HFN4.out⟩
      have hHeld2 : (fun w' : World => Below wr.heap.size wr w' ∧ w'.cell? ⟨w2.heap.size, fn, none⟩ = some (.string ob)) _ := ⟨HBA.out, HCA.out⟩
      clear hHeld
      have hHeld := hHeld2
      clear hHeld2
      refine wpAnyH_grow (S2 := (fun w' : World => Below wr.heap.size wr w' ∧ w'.cell? ⟨w2.heap.size, fn, none⟩ = some (.string ob))) (fun _ h => h.1) ?_
      refine wpAnyH_take (i := 11) (v := ?_) rfl (by kernel_rfl) (by kernel_rfl) (by kernel_rfl) (fun _ _ _ h => h) (Or.inl ⟨by rfl, ?_⟩) (by assumption) ?_
      rotate_left
      ·(intro wq hSw; (try dsimp only at hSw); go_simp)
       all_goals with_reducible rfl
      (try simp only [List.getElem_toArray, List.getElem_cons_zero, List.getElem_cons_succ, Act.put, List.setIfInBounds_toArray, List.set_cons_zero, List.set_cons_succ])
      refine wpAnyH_take (i := 12) (v := ?_) rfl (by kernel_rfl) (by kernel_rfl) (by kernel_rfl) (fun _ _ _ h => h) (Or.inl ⟨by rfl, ?_⟩) (by assumption) ?_
      rotate_left
      ·(intro wq hSw; (try dsimp only at hSw); obtain ⟨hS1, hS2⟩ := hSw; go_simp)
       all_goals with_reducible rfl
      (try simp only [List.getElem_toArray, List.getElem_cons_zero, List.getElem_cons_succ, Act.put, List.setIfInBounds_toArray, List.set_cons_zero, List.set_cons_succ])
      refine wpAnyH_take (i := 13) (v := ?_) rfl (by kernel_rfl) (by kernel_rfl) (by kernel_rfl) (fun _ _ _ h => h) (Or.inl ⟨by rfl, ?_⟩) (by assumption) ?_
      rotate_left
      ·(intro wq hSw; (try dsimp only at hSw); go_simp)
       all_goals with_reducible rfl
      (try simp only [List.getElem_toArray, List.getElem_cons_zero, List.getElem_cons_succ, Act.put, List.setIfInBounds_toArray, List.set_cons_zero, List.set_cons_succ])
      refine wpAnyH_take (i := 22) (v := ?_) rfl (by kernel_rfl) (by kernel_rfl) (by kernel_rfl) (fun _ _ _ h => h) (Or.inl ⟨by rfl, ?_⟩) (by assumption) ?_
      rotate_left
      ·(intro wq hSw; (try dsimp only at hSw); go_simp)
       all_goals with_reducible rfl
      (try simp only [List.getElem_toArray, List.getElem_cons_zero, List.getElem_cons_succ, Act.put, List.setIfInBounds_toArray, List.set_cons_zero, List.set_cons_succ])
      refine wpAnyH_take (i := 23) (v := ?_) rfl (by kernel_rfl) (by kernel_rfl) (by kernel_rfl) (fun _ _ _ h => h) (Or.inl ⟨by rfl, ?_⟩) (by assumption) ?_
      rotate_left
      ·(intro wq hSw; (try dsimp only at hSw); go_simp)
       all_goals with_reducible rfl
      (try simp only [List.getElem_toArray, List.getElem_cons_zero, List.getElem_cons_succ, Act.put, List.setIfInBounds_toArray, List.set_cons_zero, List.set_cons_succ])
      refine wpAnyH_done (by kernel_rfl) ?_ _
      go_wp2_with fail
      go_meet
      exact ⟨by rw [HOW.out]; rfl, t2, rfl, T2, ⟨HN.out.next HBA.out⟩⟩
    ·(try rw [if_pos (by rfl)])
     go_simp
     refine hK'.out _ _ (bthen HB0.out (bel1 wr.drew (.cells #[.string ⟨#[43]⟩, .string ⟨#[45]⟩, .string ⟨#[42]⟩, .string ⟨#[47]⟩] 9)) (Nat.le_refl _)) (fun hHq => ?_)
     clear hHeld
     have hHeld := hHq
     clear hHq hK' K'
     (try simp only [List.getElem_toArray, List.getElem_cons_zero, List.getElem_cons_succ, Act.put, List.setIfInBounds_toArray, List.set_cons_zero, List.set_cons_succ])
     have HBA : Box (Below wr.heap.size wr (wr.drew.alloc (.cells #[.string ⟨#[43]⟩, .string ⟨#[45]⟩, .string ⟨#[42]⟩, .string ⟨#[47]⟩] 9))) := ⟨bthen HB0.out (bel1 wr.drew (.cells #[.string ⟨#[43]⟩, .string ⟨#[45]⟩, .string ⟨#[42]⟩, .string ⟨#[47]⟩] 9)) (Nat.le_refl _)⟩
     have HCA : Box ((wr.drew.alloc (.cells #[.string ⟨#[43]⟩, .string ⟨#[45]⟩, .string ⟨#[42]⟩, .string ⟨#[47]⟩] 9)).cell? ⟨wr.heap.size, fn, none⟩ = some (.string ob)) := ⟨by rw [← HOB.out]; exact opr_cell (Blk.new wr.drew _ _) fn HFN4.out⟩
     have HLA : Box (wr.heap.size < (wr.drew.alloc (.cells #[.string ⟨#[43]⟩, .string ⟨#[45]⟩, .string ⟨#[42]⟩, .string ⟨#[47]⟩] 9)).heap.size) := ⟨by show wr.heap.size < (wr.alloc (.cells #[.string ⟨#[43]⟩, .string ⟨#[45]⟩, .string ⟨#[42]⟩, .string ⟨#[47]⟩] 9)).heap.size; simp⟩
     have hHeld2 : (fun w' : World => Below wr.heap.size wr w' ∧ w'.cell? ⟨wr.heap.size, fn, none⟩ = some (.string ob)) _ := ⟨HBA.out, HCA.out⟩
     clear hHeld
     have hHeld := hHeld2
     clear hHeld2
     refine wpAnyH_grow (S2 := (fun w' : World => Below wr.heap.size wr w' ∧ w'.cell? ⟨wr.heap.size, fn, none⟩ = some (.string ob))) (fun _ h => h.1) ?_
     refine wpAnyH_one 6 (by kernel_rfl) rfl (fun K' hK' => ?_)
     (try rw [if_pos (by rfl)])
     go_simp
     refine (IH.out (.node e es) (by simp) 2 2 P _ (.slice B1 e.ms.length m1, .slice B2 e.bys.length m2, .slice B3 es.length m3) (by omega) rfl (HCK.out _ (by simp)) (HPK.out _ (by simp)) HNDa.out (HTa.out.belo HBA.out)).mono ?_
     rintro e0 w1 ⟨rfl, hb1⟩
     rw [HXA.out]
     have HB1 : Box (Below wr.heap.size wr w1) := ⟨bthen HBA.out hb1 (Nat.le_refl _)⟩
     have HC1 : Box (w1.cell? ⟨wr.heap.size, fn, none⟩ = some (.string ob)) := ⟨bat hb1 HLA.out HCA.out⟩
     have HL1 : Box (wr.heap.size < w1.heap.size) := ⟨Nat.lt_of_lt_of_le HLA.out hb1.size⟩
     clear hb1
     go_wp2_with fail
     refine hK'.out _ _ ⟨HB1.out, HC1.out⟩ (fun hHq => ?_)
     clear hHeld
     have hHeld := hHq
     clear hHq hK' K'
     (try simp only [List.getElem_toArray, List.getElem_cons_zero, List.getElem_cons_succ, Act.put, List.setIfInBounds_toArray, List.set_cons_zero, List.set_cons_succ])
     refine wpAnyH_takeQ (i := 10) 18 #[.int .i64 (fn : Int), .int .i64 4] rfl (by kernel_rfl) (by kernel_rfl) (by kernel_rfl) (fun _ _ _ h => h) (by rfl) (by intro wq; go_simp) (fun wq hSw => around_id fn 4 wq hfn2 (by omega)) (by assumption) ?_
     (try simp only [List.getElem_toArray, List.getElem_cons_zero, List.getElem_cons_succ, Act.put, List.setIfInBounds_toArray, List.set_cons_zero, List.set_cons_succ])
     refine wpAnyH_take (i := 11) (v := ?_) rfl (by kernel_rfl) (by kernel_rfl) (by kernel_rfl) (fun _ _ _ h => h) (Or.inl ⟨by rfl, ?_⟩) (by assumption) ?_
     rotate_left
     ·(intro wq hSw; (try dsimp only at hSw); go_simp)
      all_goals with_reducible rfl
     (try simp only [List.getElem_toArray, List.getElem_cons_zero, List.getElem_cons_succ, Act.put, List.setIfInBounds_toArray, List.set_cons_zero, List.set_cons_succ])
     refine wpAnyH_take (i := 12) (v := ?_) rfl (by kernel_rfl) (by kernel_rfl) (by kernel_rfl) (fun _ _ _ h => h) (Or.inl ⟨by rfl, ?_⟩) (by assumption) ?_
     rotate_left
     ·(intro wq hSw; (try dsimp only at hSw); obtain ⟨hS1, hS2⟩ := hSw; go_simp)
      all_goals with_reducible rfl
     (try simp only [List.getElem_toArray, List.getElem_cons_zero, List.getElem_cons_succ, Act.put, List.setIfInBounds_toArray, List.set_cons_zero, List.set_cons_succ])
     refine wpAnyH_take (i := 13) (v := ?_) rfl (by kernel_rfl) (by kernel_rfl) (by kernel_rfl) (fun _ _ _ h => h) (Or.inl ⟨by rfl, ?_⟩) (by assumption) ?_
     rotate_left
     ·(intro wq hSw; (try dsimp only at hSw); go_simp)
      all_goals with_reducible rfl
     (try simp only [List.getElem_toArray, List.getElem_cons_zero, List.getElem_cons_succ, Act.put, List.setIfInBounds_toArray, List.set_cons_zero, List.set_cons_succ])
     refine wpAnyH_one 21 (by kernel_rfl) rfl (fun K' hK' => ?_)
     (try rw [if_pos (by rfl)])
     go_simp
     refine (IH.out (.node e2 es2) (by simp) 3 3 P _ (.slice C1 e2.ms.length p1, .slice C2 e2.bys.length p2, .slice C3 es2.length p3) (by omega) rfl (HCK.out _ (by simp)) (HPK.out _ (by simp)) HNDb.out (HTb.out.belo HB1.out)).mono ?_
     rintro e0 w2 ⟨rfl, hb2⟩
     rw [HXB.out]
     have HB2 : Box (Below wr.heap.size wr w2) := ⟨bthen HB1.out hb2 (Nat.le_refl _)⟩
     have HC2 : Box (w2.cell? ⟨wr.heap.size, fn, none⟩ = some (.string ob)) := ⟨bat hb2 HL1.out HC1.out⟩
     clear hb2
     go_wp2_with fail
     refine hK'.out _ _ ⟨HB2.out, HC2.out⟩ (fun hHq => ?_)
     clear hHeld
     have hHeld := hHq
     clear hHq hK' K'
     (try simp only [List.getElem_toArray, List.getElem_cons_zero, List.getElem_cons_succ, Act.put, List.setIfInBounds_toArray, List.set_cons_zero, List.set_cons_succ])
     refine wpAnyH_take (i := 22) (v := ?_) rfl (by kernel_rfl) (by kernel_rfl) (by kernel_rfl) (fun _ _ _ h => h) (Or.inl ⟨by rfl, ?_⟩) (by assumption) ?_
     rotate_left
     ·(intro wq hSw; (try dsimp only at hSw); go_simp)
      all_goals with_reducible rfl
     (try simp only [List.getElem_toArray, List.getElem_cons_zero, List.getElem_cons_succ, Act.put, List.setIfInBounds_toArray, List.set_cons_zero, List.set_cons_succ])
     refine wpAnyH_take (i := 23) (v := ?_) rfl (by kernel_rfl) (by kernel_rfl) (by kernel_rfl) (fun _ _ _ h => h) (Or.inl ⟨by rfl, ?_⟩) (by assumption) ?_
     rotate_left
     ·(intro wq hSw; (try dsimp only at hSw); go_simp)
      all_goals with_reducible rfl
     (try simp only [List.getElem_toArray, List.getElem_cons_zero, List.getElem_cons_succ, Act.put, List.setIfInBounds_toArray, List.set_cons_zero, List.set_cons_succ])
     refine wpAnyH_done (by kernel_rfl) ?_ _
     go_wp2_with fail
     go_meet
     exact ⟨by rw [HOW.out]; rfl, t2, rfl, T2, ⟨HN.out.next HB2.out⟩⟩
 case rest =>
  obtain ⟨rfl, s, rfl, S, HN2⟩ := hcut
  rename World => wr
  clear HN
  have HE : Box (bsL (showR full (.node d ks) prec) = bsL (encl (decide (precT d < prec) || full) (joinR d (showRL full ks (kidPrec d))))) := ⟨by rw [showR_node]⟩
  obtain ⟨J, hJ⟩ : ∃ J, joinR d (showRL full ks (kidPrec d)) = J := ⟨_, rfl⟩
  have HJL : Box (J.length ≤ 250000) := ⟨by
   have h1 := HLEN.out
   have h2 := HNS.out
   rw [showR_node, hJ] at h1
   have : J.length ≤ (encl (decide (precT d < prec) || full) J).length := by unfold encl; split <;> simp; omega
   omega⟩
  rw [hJ] at HE S
  obtain ⟨o, HO⟩ : ∃ o : Nat, Box (precT d = o) := ⟨_, ⟨rfl⟩⟩
  rw [HO.out] at HE ⊢
  clear hJ
  obtain ⟨s1, S1, g1⟩ := add_x ⟨#[40]⟩ s [40] J rfl S.out (by have := HJL.out; simp only [List.length_cons, List.length_nil]; omega)
  obtain ⟨s2, S2, g2⟩ := add_x s1 ⟨#[41]⟩ ([40] ++ J) [41] S1.out rfl (by have := HJL.out; simp only [List.length_append, List.length_cons, List.length_nil]; omega)
  by_cases hlt : o < prec
  ·have HF : Box (s2 = bsL (showR full (.node d ks) prec)) := ⟨by rw [HE.out, decide_eq_true hlt, S2.out]; simp [encl]⟩
   have hlt2 : (o : Int) < (prec : Int) := by omega
   go_wp2_with fail
   go_ret
   exact ⟨ret_str HF.out, HN2.out.below⟩
  ·cases full
   ·have HF : Box (s = bsL (showR false (.node d ks) prec)) := ⟨by rw [HE.out, decide_eq_false hlt, S.out]; simp [encl]⟩
    have hlt2 : ¬ (o : Int) < (prec : Int) := by omega
    go_wp2_with fail
    go_ret
    exact ⟨ret_str HF.out, HN2.out.below⟩
   ·have HF : Box (s2 = bsL (showR true (.node d ks) prec)) := ⟨by rw [HE.out, Bool.or_true, S2.out]; simp [encl]⟩
    have hlt2 : ¬ (o : Int) < (prec : Int) := by omega
    go_wp2_with fail
    go_ret
    exact ⟨ret_str HF.out, HN2.out.below⟩
end
end Go.Proofs.YthoibeajhdhdhaaGreatDoor
