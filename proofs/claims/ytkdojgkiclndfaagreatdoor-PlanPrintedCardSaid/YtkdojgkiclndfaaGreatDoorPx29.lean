/- Contracts, packed: Je. -/
import Derived.Test.YtkdojgkiclndfaaGreatDoorPx21
import Derived.Test.YtkdojgkiclndfaaGreatDoorPx28
set_option linter.unusedVariables false
set_option linter.unusedSimpArgs false
namespace Go.Proofs.YtkdojgkiclndfaaGreatDoor
section
open Go.RowKit FracM
theorem chk1_all {d : Nd} {n : Nat} (h : chk1 d n = 0) : shapedB d n = true ∧ namedB d = true ∧ d.ms.length ≤ 8 ∧ d.bys.length ≤ 8 ∧ rangedB d = true := by
 unfold chk1 at h
 cases h1 : shapedB d n
 ·rw [h1] at h; simp at h
 cases h2 : namedB d
 ·rw [h1, h2] at h; simp at h
 by_cases h3 : 8 < d.ms.length ∨ 8 < d.bys.length
 ·rw [h1, h2, if_pos h3] at h; simp at h
 cases h4 : rangedB d
 ·rw [h1, h2, if_neg h3, h4] at h; simp at h
 exact ⟨rfl, rfl, by omega, by omega, rfl⟩
theorem named_kinds {d : Nd} (h : namedB d = true) : ∀ m ∈ d.ms, 0 ≤ m.2.1 ∧ m.2.1 ≤ 2 := by
 intro m hm
 unfold namedB at h
 simp only [Bool.and_eq_true, List.all_eq_true] at h
 have := h.1.2 m hm
 unfold vmatB at this
 simp only [Bool.and_eq_true, decide_eq_true_eq] at this
 exact this.1.2
theorem shaped_num {d : Nd} {n : Nat} (h : shapedB d n = true) (hk : d.kind = 0) : validB d.num d.den = true := by
 unfold shapedB at h
 rw [if_pos hk] at h
 simp only [Bool.and_eq_true] at h
 exact h.2
theorem bysR_eq (l : List ByteArray) : bysR l = Lib.joinTail [44] (l.map fun x => x.data.toList) ++ [41] := by
 induction l with
 | nil => rfl
 | cons x xs ih =>
  rw [bysR, ih]
  simp [Lib.joinTail]
theorem bysL_eq {l : List ByteArray} (h : l ≠ []) : bysL l = [98, 121, 40] ++ (Lib.join (l.map (·.data.toList)) [44] ++ [41]) := by
 cases l with
 | nil => exact absurd rfl h
 | cons x xs =>
  rw [bysL, bysR_eq, List.map_cons, Lib.join_cons]
  simp
def WrOk (t : Tree) : Prop := ∀ (P : Nat → Nat → Prop) (w : World) (s : Sl) (b : Nat) (l : List UInt8), TreeAt w P t s → (∀ k e, P k e → k < b) → Bd w b l → LibQ b w → chk t = 0 → prtB t = true → l.length + (showT t).length ≤ 1000000000 →
 Calls Tryz.prog 33 #[.pointer (some ⟨b, 0, none⟩), .agg (ndC t.d s.1 s.2.1 s.2.2)] w (RetBd b (l ++ showT t) (.tuple #[]) w)
set_option maxHeartbeats 1000000 in
set_option maxRecDepth 100000 in
theorem pprec_any (d : Nd) (mv bv kv : Value) (w : World) : Calls Tryz.prog 68 #[.agg (ndC d mv bv kv)] w (RetB (.int .i64 (precT d : Int)) w) := by
 by_cases hk : d.kind = 3
 ·by_cases h0 : d.fn = 0
  ·have E : Box (precT d = 1) := ⟨by unfold precT; rw [if_pos hk, if_pos (.inl h0)]⟩
   rw [E.out]
   obtain ⟨kd, f, wi, of, k, nu, de, na, ms, bys⟩ := d
   simp only at hk h0
   subst hk h0
   clear E
   go_enter Tryz.func68, Tryz.ntmps68
   go_wp2_with fail
   go_ret
   exact ⟨rfl, bel1 _ _⟩
  by_cases h1 : d.fn = 1
  ·have E : Box (precT d = 1) := ⟨by unfold precT; rw [if_pos hk, if_pos (.inr h1)]⟩
   rw [E.out]
   obtain ⟨kd, f, wi, of, k, nu, de, na, ms, bys⟩ := d
   simp only at hk h0 h1
   subst hk h1
   clear E h0
   go_enter Tryz.func68, Tryz.ntmps68
   go_wp2_with fail
   go_ret
   exact ⟨rfl, bel1 _ _⟩
  ·have E : Box (precT d = 2) := ⟨by unfold precT; rw [if_pos hk, if_neg (by omega)]⟩
   rw [E.out]
   have t0 : (d.fn == 0) = false := by simpa using h0
   have t1 : (d.fn == 1) = false := by simpa using h1
   obtain ⟨kd, f, wi, of, k, nu, de, na, ms, bys⟩ := d
   simp only at hk h0 h1 t0 t1
   subst hk
   clear E h0 h1
   go_enter Tryz.func68, Tryz.ntmps68
   go_wp2_with fail
   go_ret
   exact ⟨rfl, bel1 _ _⟩
 ·have E : Box (precT d = 3) := ⟨by unfold precT; rw [if_neg hk]⟩
  rw [E.out]
  have t0 : (d.kind != 3) = true := by simpa using hk
  clear E hk
  go_enter Tryz.func68, Tryz.ntmps68
  go_wp2_with fail
  go_ret
  exact ⟨rfl, bel1 _ _⟩
set_option maxHeartbeats 4000000 in
set_option maxRecDepth 100000 in
theorem poper_any (q : Bool) (d : Nd) (ks : List Tree) (H : WrOk (.node d ks)) (P : Nat → Nat → Prop) (w : World) (mv bv kv : Value) (b : Nat) (l : List UInt8) (hT : TreeAt w P (.node d ks) (mv, bv, kv)) (hP : ∀ k e, P k e → k < b) (h : Bd w b l) (hl : LibQ b w) (hc : chk (.node d ks) = 0) (hp : prtB (.node d ks) = true)
  (hlen : l.length + (encl q (showT (.node d ks))).length ≤ 1000000000) :
  Calls Tryz.prog 69 #[.pointer (some ⟨b, 0, none⟩), .agg (ndC d mv bv kv), .bool q] w (RetBd b (l ++ encl q (showT (.node d ks))) (.tuple #[]) w) := by
 have HN := Box.mk (Wt.start h hl hT hP)
 have HL := Box.mk hlen
 have HC := Box.mk hc
 have HPR := Box.mk hp
 clear hT h hl hlen hc hp
 obtain ⟨tx, htx⟩ : ∃ x, showT (.node d ks) = x := ⟨_, rfl⟩
 have HTX := Box.mk htx
 rw [htx] at HL ⊢
 clear htx
 cases q
 ·have HLL : Box (l.length + tx.length ≤ 1000000000) := ⟨by simpa [encl] using HL.out⟩
  go_enter Tryz.func69, Tryz.ntmps69
  go_upto_region 1 with (fail)
  generalize w.alloc (.cells (ndC d _ _ _) exT) = W0 at HN ⊢
  obtain ⟨c0, c1, c2, c3, c4, c5, c6, c7, c8, c9, c10⟩ := HN.out.c
  simp only [Nat.zero_add] at c1 c2 c3 c4 c5 c6 c7 c8 c9 c10
  go_wp2_with fail
  refine (H P _ (mv, bv, kv) b l HN.out.tr HN.out.hP HN.out.wp.bd HN.out.wp.lib HC.out HPR.out (by rw [HTX.out]; exact HLL.out)).mono ?_
  rintro e w1 ⟨rfl, hd, hk⟩
  rw [HTX.out] at hd
  have HN1 := Box.mk (HN.out.wrote hd hk)
  clear hd hk c0 c1 c2 c3 c4 c5 c6 c7 c8 c9 c10
  go_wp2_with fail
  go_end0
  exact HN1.out.fin
 ·have HLL : Box (l.length + (tx.length + 2) ≤ 1000000000) := ⟨by have := HL.out; simp [encl] at this; omega⟩
  go_enter Tryz.func69, Tryz.ntmps69
  go_upto_region 1 with (fail)
  generalize w.alloc (.cells (ndC d _ _ _) exT) = W0 at HN ⊢
  go_wp2_with fail
  refine (bbyte_any b _ 40 40 _ HN.out.wp.bd rfl (by have := HLL.out; omega)).mono ?_
  rintro e w1 ⟨rfl, hd, hk⟩
  have HN1 := Box.mk (HN.out.wrote hd hk)
  clear hd hk
  obtain ⟨c0, c1, c2, c3, c4, c5, c6, c7, c8, c9, c10⟩ := HN1.out.c
  simp only [Nat.zero_add] at c1 c2 c3 c4 c5 c6 c7 c8 c9 c10
  go_wp2_with fail
  refine (H P _ (mv, bv, kv) b _ HN1.out.tr HN1.out.hP HN1.out.wp.bd HN1.out.wp.lib HC.out HPR.out (by rw [HTX.out]; have := HLL.out; simp only [List.length_append, List.length_cons, List.length_nil]; omega)).mono ?_
  rintro e w2 ⟨rfl, hd, hk⟩
  rw [HTX.out] at hd
  have HN2 := Box.mk (HN1.out.wrote hd hk)
  clear hd hk c0 c1 c2 c3 c4 c5 c6 c7 c8 c9 c10
  go_wp2_with fail
  refine (bbyte_any b _ 41 41 _ HN2.out.wp.bd rfl (by have := HLL.out; simp only [List.length_append, List.length_cons, List.length_nil]; omega)).mono ?_
  rintro e w3 ⟨rfl, hd, hk⟩
  have HN3 : Box (Wt b P d ks mv bv kv w w3 (l ++ encl true tx)) := ⟨by have h := HN2.out.wrote hd hk; simpa [encl] using h⟩
  clear hd hk
  go_wp2_with fail
  go_end0
  exact HN3.out.fin
set_option maxHeartbeats 4000000 in
set_option maxRecDepth 100000 in
theorem pgrp_any (d : Nd) (ks : List Tree) (hk1 : ks.length = 1) (H : ∀ t ∈ ks, WrOk t) (P : Nat → Nat → Prop) (w : World) (mv bv kv : Value) (b : Nat) (l : List UInt8) (hT : TreeAt w P (.node d ks) (mv, bv, kv)) (hP : ∀ k e, P k e → k < b) (h : Bd w b l) (hl : LibQ b w)
  (hc : ∀ t ∈ ks, chk t = 0) (hp : ∀ t ∈ ks, prtB t = true) (hfn : 0 ≤ d.fn ∧ d.fn ≤ 4) (hby : d.bys.length ≤ 8) (hlen : l.length + (grpL d ++ (40 :: ((showL ks).headD [] ++ [41]))).length ≤ 1000000000) :
  Calls Tryz.prog 67 #[.pointer (some ⟨b, 0, none⟩), .agg (ndC d mv bv kv)] w (RetBd b (l ++ (grpL d ++ (40 :: ((showL ks).headD [] ++ [41])))) (.tuple #[]) w) := by
 have HN := Box.mk (Wt.start h hl hT hP)
 obtain ⟨A1, n1, rfl, l1⟩ := hT.nod.ms.form
 obtain ⟨A2, n2, rfl, l2⟩ := hT.nod.bys.form
 obtain ⟨A3, n3, rfl, l3⟩ := hT.nod.kform
 have HO := Box.mk hT.nod.ok
 have HL := Box.mk hlen
 obtain ⟨fn, hfe⟩ : ∃ k : Nat, d.fn = k := ⟨d.fn.toNat, by omega⟩
 have HFN : Box (d.fn = (fn : Int) ∧ fn < 5) := ⟨hfe, by omega⟩
 have HK1 := Box.mk hk1
 obtain ⟨t0, ht0⟩ : ∃ t, ks = [t] := by match ks, hk1 with | [t], _ => exact ⟨t, rfl⟩
 have HT0 := Box.mk ht0
 have HWR : Box (WrOk t0 ∧ chk t0 = 0 ∧ prtB t0 = true) := ⟨H t0 (by rw [ht0]; simp), hc t0 (by rw [ht0]; simp), hp t0 (by rw [ht0]; simp)⟩
 have HSH : Box ((showL ks).headD [] = showT t0) := ⟨by rw [ht0]; rfl⟩
 clear hT h hl hlen hfe hfn hk1 ht0 H hc hp
 rw [HSH.out] at HL ⊢
 obtain ⟨gw, hgw⟩ : ∃ x : ByteArray, x = bsL (groupsT.getD fn []) := ⟨_, rfl⟩
 have HGW : Box (bsL (groupsT.getD fn []) = gw ∧ gw.data.toList = groupsT.getD fn []) := ⟨hgw.symm, by rw [hgw, bsL_lst]⟩
 clear hgw
 obtain ⟨KX, hKX⟩ : ∃ x : List UInt8, (if d.fn = 4 then 40 :: (Lib.itoa d.k ++ [41]) else []) = x := ⟨_, rfl⟩
 obtain ⟨BX, hBX⟩ : ∃ x : List UInt8, (if d.bys = [] then [] else (if d.fn = 4 then [] else [32]) ++ bysL d.bys) = x := ⟨_, rfl⟩
 have HKX := Box.mk hKX
 have HBX := Box.mk hBX
 have HGR : Box (grpL d = gw.data.toList ++ (KX ++ BX)) := ⟨by
  rw [← hKX, ← hBX, HGW.out.2]
  unfold grpL
  rw [show d.fn.toNat = fn by rw [HFN.out.1]; rfl]
  by_cases h4 : d.fn = 4
  ·rw [if_pos h4, if_pos h4, if_pos h4]
   by_cases hb : d.bys = []
   ·rw [if_pos hb, hb]; simp [bysL]
   ·rw [if_neg hb]; simp
  ·rw [if_neg h4, if_neg h4, if_neg h4]
   by_cases hb : d.bys = []
   ·rw [if_pos hb, hb]; simp [bysL]
   ·rw [if_neg hb, if_neg (by simpa using hb)]; simp⟩
 clear hKX hBX
 have HX : Box (l.length + (gw.data.toList.length + (KX.length + (BX.length + ((showT t0).length + 2)))) ≤ 1000000000) := ⟨by have := HL.out; rw [HGR.out] at this; simp only [List.length_append, List.length_cons, List.length_nil] at this; omega⟩
 go_enter Tryz.func67, Tryz.ntmps67
 go_upto_region 1 with (fail)
 generalize w.alloc (.cells (ndC d _ _ _) exT) = W0 at HN ⊢
 obtain ⟨c0, c1, c2, c3, c4, c5, c6, c7, c8, c9, c10⟩ := HN.out.c
 simp only [Nat.zero_add] at c1
 clear c0 c2 c3 c4 c5 c6 c7 c8 c9 c10
 rw [HFN.out.1] at c1
 have y1 := grpAt HN.out.wp.lib.here fn HFN.out.2
 rw [HGW.out.1] at y1
 have hfn2 : (fn : Int) < 5 := by have := HFN.out.2; omega
 have hfn0 : (0 : Int) ≤ (fn : Int) := by omega
 go_wp2_with fail
 refine (bstr_any b l gw _ HN.out.wp.bd (by have := HX.out; have h2 := data_size gw; omega)).mono ?_
 rintro e w1 ⟨rfl, hd, hk⟩
 have HN1 := Box.mk (HN.out.wrote hd hk)
 clear HN hd hk c1 y1
 obtain ⟨c0, c1, c2, c3, c4, c5, c6, c7, c8, c9, c10⟩ := HN1.out.c
 simp only [Nat.zero_add] at c1 c4
 clear c0 c2 c3 c5 c6 c7 c8 c9 c10
 rw [HFN.out.1] at c1
 have hkI := HO.out.ints.2.2.2.2.1
 unfold I64 at hkI
 obtain ⟨q, hq⟩ : ∃ q : Bool, ((fn : Int) == 4) = q := ⟨_, rfl⟩
 go_upto_region 2 with (fail)
 go_upto_if 12 with (fail)
 have HQ : Box (q = decide (d.fn = 4)) := ⟨by rw [← hq, HFN.out.1]; rfl⟩
 clear hq
 go_cut [] (fun wx => Box (Wt b P d ks (.slice A1 d.ms.length n1) (.slice A2 d.bys.length n2) (.slice A3 ks.length n3) w wx ((l ++ gw.data.toList) ++ KX)))
 case first =>
  cases q
  ·have HE : Box (KX = []) := ⟨by rw [← HKX.out, if_neg (of_decide_eq_false HQ.out.symm)]⟩
   go_wp2_with fail
   go_meet
   exact ⟨by rw [HE.out, List.append_nil]; exact HN1.out⟩
  ·have HE : Box (KX = 40 :: (Lib.itoa d.k ++ [41])) := ⟨by rw [← HKX.out, if_pos (of_decide_eq_true HQ.out.symm)]⟩
   obtain ⟨kb, hkb⟩ : ∃ x : ByteArray, x = bsL (Lib.itoa d.k) := ⟨_, rfl⟩
   have HKB : Box (bsL (Lib.itoa d.k) = kb) := ⟨hkb.symm⟩
   have hks : kb.size ≤ 21 := by rw [hkb, bsL_sz]; exact itoa_sz d.k hkI.1 hkI.2
   clear hkb
   have s1 : (⟨#[40]⟩ : ByteArray).size = 1 := rfl
   have s2 : (⟨#[41]⟩ : ByteArray).size = 1 := rfl
   have a1 := fun W => run_string_add_sum (P := Tryz.prog) (w := W) ⟨#[40]⟩ kb (by rw [s1]; omega)
   have a2 := fun W => run_string_add_sum (P := Tryz.prog) (w := W) (⟨#[40]⟩ ++ kb) ⟨#[41]⟩ (by rw [ByteArray.size_append, s1, s2]; omega)
   have HZ2 : Box ((({ data := #[40] } : ByteArray) ++ kb ++ { data := #[41] }).data.toList = KX) := ⟨by rw [lst_app, lst_app, ← HKB.out, bsL_lst, HE.out]; rfl⟩
   clear s1 s2
   go_wp2_with fail
   refine (pitoa_any d.k _ hkI.1 hkI.2 HN1.out.wp.lib.here).mono ?_
   rintro e w6 ⟨rfl, hb6⟩
   rw [HKB.out]
   have HN4 := Box.mk (HN1.out.below hb6)
   clear hb6 c1 c4
   go_wp2_with fail
   clear a1 a2
   generalize ({ data := #[40] } : ByteArray) ++ kb ++ { data := #[41] } = z at HZ2 ⊢
   refine (bstr_any b _ z _ HN4.out.wp.bd (by have h1 := HX.out; have h2 := data_size z; rw [HZ2.out] at h2; simp only [List.length_append]; omega)).mono ?_
   rintro e w7 ⟨rfl, hd, hk2⟩
   rw [HZ2.out] at hd
   have HN5 := Box.mk (HN4.out.wrote hd hk2)
   clear hd hk2
   go_wp2_with fail
   go_meet
   exact HN5
 rename World => wd1
 have HN2 := hcut; clear hcut HN1 HQ c1 c4
 obtain ⟨c0, c1, c2, c3, c4, c5, c6, c7, c8, c9, c10⟩ := HN2.out.c
 simp only [Nat.zero_add] at c1 c9
 clear c0 c2 c3 c4 c5 c6 c7 c8 c10
 rw [HFN.out.1] at c1
 obtain ⟨q2, hq2⟩ : ∃ q : Bool, decide (0 < d.bys.length) = q := ⟨_, rfl⟩
 go_upto_region 4 with (fail)
 go_upto_if 23 with (fail)
 have HQ : Box (q2 = decide (0 < d.bys.length)) := ⟨hq2.symm⟩
 clear hq2
 go_cut [] (fun wx => Box (Wt b P d ks (.slice A1 d.ms.length n1) (.slice A2 d.bys.length n2) (.slice A3 ks.length n3) w wx (((l ++ gw.data.toList) ++ KX) ++ BX)))
 case first =>
  cases q2
  ·have HE : Box (BX = []) := ⟨by rw [← HBX.out, if_pos (List.eq_nil_of_length_eq_zero (by have := of_decide_eq_false HQ.out.symm; omega))]⟩
   go_wp2_with fail
   go_meet
   exact ⟨by rw [HE.out, List.append_nil]; exact HN2.out⟩
  ·have HNE : Box (d.bys ≠ []) := ⟨fun h => by have := of_decide_eq_true HQ.out.symm; rw [h] at this; simp at this⟩
   obtain ⟨PX, hPX⟩ : ∃ x : List UInt8, (if d.fn = 4 then [] else [32]) = x := ⟨_, rfl⟩
   have HPX := Box.mk hPX
   have HBE : Box (BX = PX ++ ([98, 121, 40] ++ (Lib.join (d.bys.map (·.data.toList)) [44] ++ [41]))) := ⟨by rw [← HBX.out, if_neg HNE.out, hPX, bysL_eq HNE.out]⟩
   clear hPX
   obtain ⟨g, off, rfl, hgl, hgc, hcap⟩ : ∃ g off, A2 = some ⟨g, off, none⟩ ∧ (∃ z, P g z) ∧ (∀ (W : World) l', Wt b P d ks (.slice A1 d.ms.length n1) (.slice A2 d.bys.length n2) (.slice A3 ks.length n3) w W l' → g < W.heap.size ∧ ∀ (j : Nat) x, d.bys[j]? = some x → W.cell? ⟨g, off + j, none⟩ = some (.string x)) ∧ d.bys.length ≤ n2 := by
    obtain ⟨_, A', c', hv, hn1, hn2, hx⟩ := HN2.out.tr.nod.bys
    cases hv
    obtain ⟨g, off, rfl, hg1, hg2, hg3⟩ := hx (List.length_pos_iff.2 HNE.out)
    refine ⟨g, off, rfl, ⟨_, hg2⟩, fun W l' hW => ?_, hn1⟩
    obtain ⟨_, A', c', hv, hn1, hn2, hx⟩ := hW.tr.nod.bys
    cases hv
    obtain ⟨g', off', he, hg1, hg2, hg3⟩ := hx (List.length_pos_iff.2 HNE.out)
    cases he
    exact ⟨hg1, fun j x hj => hg3 j _ (by rw [List.getElem?_map, hj]; rfl)⟩
   have HG := Box.mk hgc
   clear hgc hgl
   obtain ⟨q3, hq3⟩ : ∃ q : Bool, ((fn : Int) != 4) = q := ⟨_, rfl⟩
   go_upto_region 5 with (fail)
   go_upto_if 26 with (fail)
   have HQ3 : Box (q3 = decide (¬ d.fn = 4)) := ⟨by rw [← hq3, HFN.out.1]; by_cases h0 : (fn : Int) = 4 <;> simp [h0]⟩
   clear hq3 c1 c9
   go_cut [] (fun wx => Box (Wt b P d ks (.slice A1 d.ms.length n1) (.slice (some ⟨g, off, none⟩) d.bys.length n2) (.slice A3 ks.length n3) w wx (((l ++ gw.data.toList) ++ KX) ++ PX)))
   case first =>
    cases q3
    ·have HE : Box (PX = []) := ⟨by rw [← HPX.out, if_pos (by simpa using HQ3.out)]⟩
     go_wp2_with fail
     go_meet
     exact ⟨by rw [HE.out, List.append_nil]; exact HN2.out⟩
    ·have HE : Box (PX = [32]) := ⟨by rw [← HPX.out, if_neg (by simpa using HQ3.out)]⟩
     go_wp2_with fail
     refine (bbyte_any b _ 32 32 _ HN2.out.wp.bd rfl (by have h1 := HX.out; rw [HBE.out, HE.out] at h1; simp only [List.length_append, List.length_cons, List.length_nil] at h1 ⊢; omega)).mono ?_
     rintro e w3 ⟨rfl, hd, hk2⟩
     have HN3 : Box (Wt b P d ks (.slice A1 d.ms.length n1) (.slice (some ⟨g, off, none⟩) d.bys.length n2) (.slice A3 ks.length n3) w w3 (((l ++ gw.data.toList) ++ KX) ++ PX)) := ⟨by rw [HE.out]; exact HN2.out.wrote hd hk2⟩
     clear hd hk2
     go_wp2_with fail
     go_meet
     exact HN3
   rename World => wd2
   have HN3 := hcut; clear hcut HN2 HQ HQ3
   obtain ⟨c0, c1, c2, c3, c4, c5, c6, c7, c8, c9, c10⟩ := HN3.out.c
   simp only [Nat.zero_add] at c9
   clear c0 c1 c2 c3 c4 c5 c6 c7 c8 c10
   have HJL : Box ((Lib.join (d.bys.map (·.data.toList)) [44]).length + 4 ≤ BX.length ∧ BX.length ≤ 1000000000) := ⟨by rw [HBE.out]; simp only [List.length_append, List.length_cons, List.length_nil]; omega, by have := HX.out; omega⟩
   obtain ⟨jb, hjb⟩ : ∃ x : ByteArray, x = ⟨(Lib.join (d.bys.map (·.data.toList)) [44]).toArray⟩ := ⟨_, rfl⟩
   have HJB : Box (jb.data.toList = Lib.join (d.bys.map (·.data.toList)) [44]) := ⟨by rw [hjb]⟩
   have HJ2 : Box ((⟨(Lib.join (d.bys.map (·.data.toList)) [44]).toArray⟩ : ByteArray) = jb) := ⟨hjb.symm⟩
   have hjs : jb.size ≤ 1000000000 := by rw [← data_size, HJB.out]; have := HJL.out; omega
   clear hjb
   have s1 : (⟨#[98, 121, 40]⟩ : ByteArray).size = 3 := rfl
   have s2 : (⟨#[41]⟩ : ByteArray).size = 1 := rfl
   have a1 := fun W => run_string_add_sum (P := Tryz.prog) (w := W) ⟨#[98, 121, 40]⟩ jb (by rw [s1]; omega)
   have a2 := fun W => run_string_add_sum (P := Tryz.prog) (w := W) (⟨#[98, 121, 40]⟩ ++ jb) ⟨#[41]⟩ (by rw [ByteArray.size_append, s1, s2]; omega)
   have HZ2 : Box ((({ data := #[98, 121, 40] } : ByteArray) ++ jb ++ { data := #[41] }).data.toList = [98, 121, 40] ++ (Lib.join (d.bys.map (·.data.toList)) [44] ++ [41])) := ⟨by rw [lst_app, lst_app, HJB.out, List.append_assoc]⟩
   clear s1 s2
   go_wp2_with fail
   refine (Tryz.strings_Join g off n2 d.bys ⟨#[44]⟩ _ (HG.out _ _ HN3.out).2 (HG.out _ _ HN3.out).1 (by omega) hcap (by have := HJL.out; show (Lib.join (d.bys.map (·.data.toList)) [44]).length ≤ _; omega)).mono ?_
   rintro e w6 ⟨rfl, hb6⟩
   rw [show (⟨(Lib.join (d.bys.map (·.data.toList)) (⟨#[44]⟩ : ByteArray).data.toList).toArray⟩ : ByteArray) = jb from HJ2.out]
   have HN4 := Box.mk (HN3.out.below hb6)
   clear hb6 c9
   go_wp2_with fail
   clear a1 a2
   generalize ({ data := #[98, 121, 40] } : ByteArray) ++ jb ++ { data := #[41] } = z at HZ2 ⊢
   refine (bstr_any b _ z _ HN4.out.wp.bd (by have h1 := HX.out; rw [HBE.out, ← HZ2.out] at h1; have h2 := data_size z; simp only [List.length_append] at h1 ⊢; omega)).mono ?_
   rintro e w7 ⟨rfl, hd, hk2⟩
   rw [HZ2.out] at hd
   have HN5 : Box (Wt b P d ks (.slice A1 d.ms.length n1) (.slice (some ⟨g, off, none⟩) d.bys.length n2) (.slice A3 ks.length n3) w w7 (((l ++ gw.data.toList) ++ KX) ++ BX)) := ⟨by have h := HN4.out.wrote hd hk2; rw [HBE.out]; simpa [List.append_assoc] using h⟩
   clear hd hk2
   go_wp2_with fail
   go_meet
   exact HN5
 rename World => wd3
 have HN3 := hcut; clear hcut HN2 HQ c1 c9
 go_wp2_with fail
 refine (bbyte_any b _ 40 40 _ HN3.out.wp.bd rfl (by have h1 := HX.out; simp only [List.length_append, List.length_cons, List.length_nil]; omega)).mono ?_
 rintro e w8 ⟨rfl, hd, hk2⟩
 have HN4 := Box.mk (HN3.out.wrote hd hk2)
 clear hd hk2 HN3
 obtain ⟨c0, c1, c2, c3, c4, c5, c6, c7, c8, c9, c10⟩ := HN4.out.c
 simp only [Nat.zero_add] at c10
 clear c0 c1 c2 c3 c4 c5 c6 c7 c8 c9
 obtain ⟨e, es, kb, off, B1, m1, B2, m2, B3, m3, hx, rfl, hb, ⟨z, hpb⟩, h11, hT'⟩ := kid2 HN4.out.tr.nod 0 (by have := HK1.out; omega)
 have HTE : Box (t0 = .node e es) := ⟨by rw [HT0.out] at hx; simpa using hx⟩
 obtain ⟨k0, k1, k2, k3, k4, k5, k6, k7, k8, k9, k10⟩ := h11
 simp only [Nat.zero_mul, Nat.add_zero] at k0 k1 k2 k3 k4 k5 k6 k7 k8 k9 k10
 have HTK := Box.mk hT'
 have hkl : (0 : Int) < (ks.length : Int) := by have := HK1.out; omega
 have hkl2 : 0 < ks.length := by omega
 clear hx hT'
 obtain ⟨sx, hsx⟩ : ∃ x, showT t0 = x := ⟨_, rfl⟩
 have HSX := Box.mk hsx
 rw [hsx] at HX ⊢
 clear hsx
 go_wp2_with fail
 refine ((HTE.out ▸ HWR.out.1) P _ (.slice B1 e.ms.length m1, .slice B2 e.bys.length m2, .slice B3 es.length m3) b _ HTK.out HN4.out.hP HN4.out.wp.bd HN4.out.wp.lib (HTE.out ▸ HWR.out.2.1) (HTE.out ▸ HWR.out.2.2) (by rw [← HTE.out, HSX.out]; have h1 := HX.out; simp only [List.length_append, List.length_cons, List.length_nil]; omega)).mono ?_
 rintro e' w9 ⟨rfl, hd, hk2⟩
 rw [← HTE.out, HSX.out] at hd
 have HN5 := Box.mk (HN4.out.wrote hd hk2)
 clear hd hk2 HN4 c10 k0 k1 k2 k3 k4 k5 k6 k7 k8 k9 k10 hb
 go_wp2_with fail
 refine (bbyte_any b _ 41 41 _ HN5.out.wp.bd rfl (by have h1 := HX.out; simp only [List.length_append, List.length_cons, List.length_nil]; omega)).mono ?_
 rintro e' w10 ⟨rfl, hd, hk2⟩
 have HN6 := Box.mk (HN5.out.wrote hd hk2)
 clear hd hk2 HN5
 go_wp2_with fail
 go_end0
 have hfin := HN6.out.fin (v := .tuple #[])
 rw [HGR.out, HSX.out]
 simpa [List.append_assoc] using hfin
end
end Go.Proofs.YtkdojgkiclndfaaGreatDoor
