/- Contracts, packed: Qm Rb Rc Sa Jf Sf. -/
import Derived.Test.YthoibeajhdhdhaaGreatDoorPy4
import Derived.Test.YthoibeajhdhdhaaGreatDoorPy10
import Derived.Test.YthoibeajhdhdhaaGreatDoorPy11
import Derived.Test.YthoibeajhdhdhaaGreatDoorPy12
import Derived.Test.YthoibeajhdhdhaaGreatDoorPy13
import Derived.Test.YthoibeajhdhdhaaGreatDoorPy16
import Derived.Test.YthoibeajhdhdhaaGreatDoorPy21
set_option linter.unusedVariables false
set_option linter.unusedSimpArgs false
namespace Go.Proofs.YthoibeajhdhdhaaGreatDoor
section
open Go.RowKit FracM
end
section
open Go.RowKit FracM
end
section
open Go.RowKit FracM
theorem blk11z {W : World} {g : Nat} {t : TypeId} {d : Nd} {mv bv kv : Value} (h : Blk W g t (ndC d mv bv kv)) : W.cell? ⟨g, 0, none⟩ = some (.int .i64 d.kind) ∧ W.cell? ⟨g, 1, none⟩ = some (.int .i64 d.fn) ∧ W.cell? ⟨g, 2, none⟩ = some (.int .i64 d.win) ∧ W.cell? ⟨g, 3, none⟩ = some (.int .i64 d.off) ∧ W.cell? ⟨g, 4, none⟩ = some (.int .i64 d.k) ∧ W.cell? ⟨g, 5, none⟩ = some (.int .i64 d.num) ∧ W.cell? ⟨g, 6, none⟩ = some (.int .i64 d.den) ∧ W.cell? ⟨g, 7, none⟩ = some (.string d.name) ∧ W.cell? ⟨g, 8, none⟩ = some mv ∧ W.cell? ⟨g, 9, none⟩ = some bv ∧ W.cell? ⟨g, 10, none⟩ = some kv := by
 unfold Blk at h
 refine ⟨?_, ?_, ?_, ?_, ?_, ?_, ?_, ?_, ?_, ?_, ?_⟩ <;> simp [World.cell?, h]
end
section
open Go.RowKit FracM
theorem ndsL_drop (ks : List Tree) (k : Nat) (x : Tree) (hx : ks[k]? = some x) : ndsL (ks.drop k) = nds x + ndsL (ks.drop (k + 1)) := by
 obtain ⟨h1, h2⟩ := List.getElem?_eq_some_iff.1 hx
 rw [List.drop_eq_getElem_cons h1, h2, ndsL]
theorem nds_mem {ks : List Tree} {x : Tree} (hx : x ∈ ks) : nds x ≤ ndsL ks := by
 induction ks with
 | nil => simp at hx
 | cons t ts ih =>
  rw [ndsL]
  rcases List.mem_cons.1 hx with e | e
  ·subst e; omega
  ·have := ih e; omega
set_option maxHeartbeats 2000000 in
set_option maxRecDepth 100000 in
theorem nodes_any : ∀ t, ∀ (P : Nat → Nat → Prop) (w : World) (s : Sl), TreeAt w P t s → nds t ≤ 1000000 → Calls Tryz.prog 38 #[.agg (ndC t.d s.1 s.2.1 s.2.2)] w (RetB (.int .i64 (nds t)) w) := by
 refine Tree.ind ?_
 intro d ks ih P w ⟨mv, bv, kv⟩ hT hn
 have IH := Box.mk ih
 have HN := Lib.hid (N1.start hT)
 obtain ⟨A1, n1, hmv, l1⟩ := hT.nod.ms.form
 obtain ⟨A2, n2, hbv, l2⟩ := hT.nod.bys.form
 obtain ⟨A3, n3, hkv, l3⟩ := hT.nod.kform
 subst hmv hbv hkv
 rw [nds] at hn ⊢
 obtain ⟨N, hN⟩ : ∃ N, N = ndsL ks := ⟨_, rfl⟩
 rw [← hN] at hn ⊢
 have HNN := Box.mk hN
 clear hT ih hN
 simp only [Tree.d]
 go_enter Tryz.func38, Tryz.ntmps38
 go_upto_region 1 with (fail)
 generalize w.alloc (.cells (ndC d _ _ _) 29) = W at HN ⊢
 go_wp2_with fail
 go_loopw [3, 4] (fun n v wr => ∃ k m : Nat, k ≤ ks.length ∧ v = .int .i64 (k : Nat) ∧ n = .int .i64 (m : Nat) ∧ m + ndsL (ks.drop k) = N + 1 ∧ N1 w wr P d ks (.slice A1 d.ms.length n1) (.slice A2 d.bys.length n2) (.slice A3 ks.length n3)) (fun _ v _ => ks.length - (intOf v).toNat)
 case atStart => exact ⟨0, 1, by omega, rfl, rfl, by rw [List.drop_zero, ← HNN.out]; omega, HN.out⟩
 case round =>
  clear HN
  obtain ⟨k, m, hk, rfl, rfl, hm, hN⟩ := hrel
  have HN := Lib.hid hN; clear hN
  have c10 := (blk11z HN.out.blk).2.2.2.2.2.2.2.2.2.2
  by_cases hlt : k < ks.length
  ·obtain ⟨x, hx⟩ : ∃ x, ks[k]? = some x := ⟨ks[k], List.getElem?_eq_getElem _⟩
   obtain ⟨e, es⟩ := x
   obtain ⟨b, off, mv', bv', kv', rfl, hb, hpb, ⟨k0, k1, k2, k3, k4, k5, k6, k7, k8, k9, k10⟩, hT'⟩ := HN.out.nod.kid k e es hx
   obtain ⟨B1, m1, rfl, -⟩ := hT'.nod.ms.form
   obtain ⟨B2, m2, rfl, -⟩ := hT'.nod.bys.form
   obtain ⟨B3, m3, rfl, -⟩ := hT'.nod.kform
   have HT' := Box.mk hT'
   have HX := Box.mk hx
   have hlt2 : (k : Int) < (ks.length : Int) := by omega
   have hstep := ndsL_drop ks k _ hx
   have hle := nds_mem (List.mem_of_getElem? hx)
   rw [← HNN.out] at hle
   have HM := Box.mk (And.intro hm hstep)
   have hq : nds (.node e es) ≤ 1000000 := by omega
   have hm2 : m + nds (.node e es) ≤ 1000001 := by omega
   clear hT' hx hm hstep hle
   go_wp2_with fail
   refine (IH.out (.node e es) (List.mem_of_getElem? HX.out) P _ (.slice B1 e.ms.length m1, .slice B2 e.bys.length m2, .slice B3 es.length m3) HT'.out hq).mono ?_
   rintro e1 w1 ⟨rfl, hb1⟩
   have HN2 := Lib.hid (HN.out.next hb1)
   generalize nds (.node e es) = q at hq hm2 HM ⊢
   clear HN hb1 k0 k1 k2 k3 k4 k5 k6 k7 k8 k9 k10 c10
   go_wp2_with fail
   go_roundw
   case rel => exact ⟨k + 1, m + q, by omega, by go_num, by go_num, by have := HM.out; omega, HN2.out⟩
   case measure => simp [intOf]; omega
  ·have hlt2 : ¬ (k : Int) < (ks.length : Int) := by omega
   rw [List.drop_eq_nil_of_le (by omega), ndsL] at hm
   go_wp2_with fail
   go_ret
   exact ⟨ret_int (by omega), HN.out.below⟩
theorem depL_drop (ks : List Tree) (k : Nat) (x : Tree) (hx : ks[k]? = some x) : depL (ks.drop k) = max (dep x) (depL (ks.drop (k + 1))) := by
 obtain ⟨h1, h2⟩ := List.getElem?_eq_some_iff.1 hx
 rw [List.drop_eq_getElem_cons h1, h2, depL]
theorem dep_mem {ks : List Tree} {x : Tree} (hx : x ∈ ks) : dep x ≤ depL ks := by
 induction ks with
 | nil => simp at hx
 | cons t ts ih =>
  rw [depL]
  rcases List.mem_cons.1 hx with e | e
  ·subst e; omega
  ·have := ih e; omega
set_option maxHeartbeats 2000000 in
set_option maxRecDepth 100000 in
theorem depth_any : ∀ t, ∀ (P : Nat → Nat → Prop) (w : World) (s : Sl), TreeAt w P t s → dep t ≤ 1000000 → Calls Tryz.prog 36 #[.agg (ndC t.d s.1 s.2.1 s.2.2)] w (RetB (.int .i64 (dep t)) w) := by
 refine Tree.ind ?_
 intro d ks ih P w ⟨mv, bv, kv⟩ hT hn
 have IH := Box.mk ih
 have HN := Lib.hid (N1.start hT)
 obtain ⟨A1, n1, hmv, l1⟩ := hT.nod.ms.form
 obtain ⟨A2, n2, hbv, l2⟩ := hT.nod.bys.form
 obtain ⟨A3, n3, hkv, l3⟩ := hT.nod.kform
 subst hmv hbv hkv
 rw [dep] at hn ⊢
 obtain ⟨N, hN⟩ : ∃ N, N = depL ks := ⟨_, rfl⟩
 rw [← hN] at hn ⊢
 have HNN := Box.mk hN
 clear hT ih hN
 simp only [Tree.d]
 go_enter Tryz.func36, Tryz.ntmps36
 go_upto_region 1 with (fail)
 generalize w.alloc (.cells (ndC d _ _ _) 29) = W at HN ⊢
 go_wp2_with fail
 go_loopw [3, 4] (fun n v wr => ∃ k m : Nat, k ≤ ks.length ∧ v = .int .i64 (k : Nat) ∧ n = .int .i64 (m : Nat) ∧ max m (depL (ks.drop k)) = N ∧ N1 w wr P d ks (.slice A1 d.ms.length n1) (.slice A2 d.bys.length n2) (.slice A3 ks.length n3)) (fun _ v _ => ks.length - (intOf v).toNat)
 case atStart => exact ⟨0, 0, by omega, rfl, rfl, by rw [List.drop_zero, ← HNN.out]; omega, HN.out⟩
 case round =>
  clear HN
  obtain ⟨k, m, hk, rfl, rfl, hm, hN⟩ := hrel
  have HN := Lib.hid hN; clear hN
  have c10 := (blk11z HN.out.blk).2.2.2.2.2.2.2.2.2.2
  by_cases hlt : k < ks.length
  ·obtain ⟨x, hx⟩ : ∃ x, ks[k]? = some x := ⟨ks[k], List.getElem?_eq_getElem _⟩
   obtain ⟨e, es⟩ := x
   obtain ⟨b, off, mv', bv', kv', rfl, hb, hpb, ⟨k0, k1, k2, k3, k4, k5, k6, k7, k8, k9, k10⟩, hT'⟩ := HN.out.nod.kid k e es hx
   obtain ⟨B1, m1, rfl, -⟩ := hT'.nod.ms.form
   obtain ⟨B2, m2, rfl, -⟩ := hT'.nod.bys.form
   obtain ⟨B3, m3, rfl, -⟩ := hT'.nod.kform
   have HT' := Box.mk hT'
   have HX := Box.mk hx
   have hlt2 : (k : Int) < (ks.length : Int) := by omega
   have hstep := depL_drop ks k _ hx
   have hle := dep_mem (List.mem_of_getElem? hx)
   rw [← HNN.out] at hle
   have HM := Box.mk (And.intro hm hstep)
   have hq : dep (.node e es) ≤ 1000000 := by omega
   have hm2 : m ≤ 1000001 := by omega
   clear hT' hx hm hstep hle
   go_wp2_with fail
   refine (IH.out (.node e es) (List.mem_of_getElem? HX.out) P _ (.slice B1 e.ms.length m1, .slice B2 e.bys.length m2, .slice B3 es.length m3) HT'.out hq).mono ?_
   rintro e1 w1 ⟨rfl, hb1⟩
   have HN2 := Lib.hid (HN.out.next hb1)
   generalize dep (.node e es) = q at hq hm2 HM ⊢
   clear HN hb1 k0 k1 k2 k3 k4 k5 k6 k7 k8 k9 k10 c10
   rcases Nat.le_total q m with hqm | hqm
   ·have hqm2 : (q : Int) ≤ (m : Int) := by omega
    have hmx : max (m : Int) (q : Int) = (m : Int) := by omega
    go_wp2_with fail
    all_goals
     go_roundw
     case rel => exact ⟨k + 1, m, by omega, by go_num, by first | rfl | (congr 1; omega), by have := HM.out; omega, HN2.out⟩
     case measure => simp [intOf]; omega
   ·have hqm2 : (m : Int) ≤ (q : Int) := by omega
    have hmx : max (m : Int) (q : Int) = (q : Int) := by omega
    go_wp2_with fail
    all_goals
     go_roundw
     case rel => exact ⟨k + 1, q, by omega, by go_num, by first | rfl | (congr 1; omega), by have := HM.out; omega, HN2.out⟩
     case measure => simp [intOf]; omega
  ·have hlt2 : ¬ (k : Int) < (ks.length : Int) := by omega
   rw [List.drop_eq_nil_of_le (by omega), depL] at hm
   go_wp2_with fail
   go_ret
   exact ⟨ret_int (by omega), HN.out.below⟩
end
section
open Go.RowKit FracM
theorem prtL_all {ks : List Tree} (h : prtL ks = true) : ∀ t ∈ ks, prtB t = true := by
 induction ks with
 | nil => intro t ht; cases ht
 | cons x xs ih =>
  intro t ht
  rw [prtL, Bool.and_eq_true] at h
  rcases List.mem_cons.1 ht with rfl | ht
  ·exact h.1
  ·exact ih h.2 t ht
theorem At11.keep {w w' : World} {g o B : Nat} {d : Nd} {m1 m2 m3 : Value} (h : At11 w g o d m1 m2 m3) (hb : Below B w w') (hg : g < B) : At11 w' g o d m1 m2 m3 :=
 ⟨(hb.cell hg).trans h.1, (hb.cell hg).trans h.2.1, (hb.cell hg).trans h.2.2.1, (hb.cell hg).trans h.2.2.2.1, (hb.cell hg).trans h.2.2.2.2.1, (hb.cell hg).trans h.2.2.2.2.2.1, (hb.cell hg).trans h.2.2.2.2.2.2.1, (hb.cell hg).trans h.2.2.2.2.2.2.2.1, (hb.cell hg).trans h.2.2.2.2.2.2.2.2.1, (hb.cell hg).trans h.2.2.2.2.2.2.2.2.2.1, (hb.cell hg).trans h.2.2.2.2.2.2.2.2.2.2⟩
set_option maxHeartbeats 4000000 in
set_option maxRecDepth 100000 in
theorem pwrite_0 (d : Nd) (ks : List Tree) (hk : d.kind = 0) : WrOk (.node d ks) := by
 intro P w ⟨mv, bv, kv⟩ b l hT hP h hl hc hp hlen
 obtain ⟨hc1, hc2⟩ := chk_ok hc
 obtain ⟨a1, a2, a3, a4, a5⟩ := chk1_all hc1
 have hv := (valid_iff.1 (shaped_num a1 hk)).1
 have E : Box (showT (.node d ks) = numL d.num d.den) := ⟨by rw [showT]; unfold joinN; rw [if_pos hk]⟩
 have HW : Box (writB d.num d.den = true) := ⟨by rw [prtB, if_pos hk] at hp; exact hp⟩
 have HN := Box.mk (Wt.start h hl hT hP)
 rw [E.out] at hlen ⊢
 have HL := Box.mk hlen
 clear hT h hl hc hp hlen hc1 hc2 a1 a2 a3 a4 a5
 have HK := Box.mk hk
 clear hk
 show Calls _ _ #[_, .agg (ndC d mv bv kv)] _ _
 go_enter Tryz.func51, Tryz.ntmps51
 go_upto_region 1 with (fail)
 generalize w.alloc (.cells (ndC d _ _ _) exT) = W0 at HN ⊢
 obtain ⟨c0, c1, c2, c3, c4, c5, c6, c7, c8, c9, c10⟩ := HN.out.c
 simp only [Nat.zero_add] at c5 c6
 clear c1 c2 c3 c4 c7 c8 c9 c10
 rw [HK.out] at c0
 go_wp2_with fail
 refine (pnum_any b l d.num d.den _ HN.out.wp.bd HN.out.wp.lib HW.out (by omega) HL.out).mono ?_
 rintro e w1 ⟨rfl, hd, hk⟩
 have HN1 := Box.mk (HN.out.wrote hd hk)
 clear hd hk c0 c5 c6
 go_wp2_with fail
 go_end0
 exact HN1.out.fin
set_option maxHeartbeats 4000000 in
set_option maxRecDepth 100000 in
theorem pwrite_1 (d : Nd) (ks : List Tree) (hk : d.kind = 1) : WrOk (.node d ks) := by
 intro P w ⟨mv, bv, kv⟩ b l hT hP h hl hc hp hlen
 obtain ⟨hc1, hc2⟩ := chk_ok hc
 obtain ⟨a1, a2, a3, a4, a5⟩ := chk1_all hc1
 have E : Box (showT (.node d ks) = selL d) := ⟨by rw [showT]; unfold joinN; rw [if_neg (by omega), if_pos hk]⟩
 have HMS := Box.mk (named_kinds a2)
 have HF : Box (0 ≤ d.fn ∧ d.fn ≤ 7) := ⟨by rcases shape_cases a1 with h | h | h | h <;> omega⟩
 have HN := Box.mk (Wt.start h hl hT hP)
 rw [E.out] at hlen ⊢
 have HL := Box.mk hlen
 clear hT h hl hc hp hlen hc1 hc2 a1 a2 a3 a4 a5
 have HK := Box.mk hk
 clear hk
 show Calls _ _ #[_, .agg (ndC d mv bv kv)] _ _
 go_enter Tryz.func51, Tryz.ntmps51
 go_upto_region 1 with (fail)
 generalize w.alloc (.cells (ndC d _ _ _) exT) = W0 at HN ⊢
 obtain ⟨c0, c1, c2, c3, c4, c5, c6, c7, c8, c9, c10⟩ := HN.out.c
 simp only [Nat.zero_add] at c1 c2 c3 c4 c5 c6 c7 c8 c9 c10
 have t0 : (d.kind == 0) = false := by rw [HK.out]; rfl
 have t1 : (d.kind == 1) = true := by rw [HK.out]; rfl
 go_wp2_with fail
 refine (psel_any b l d ks P _ mv bv kv HN.out.tr HN.out.hP HN.out.wp.bd HN.out.wp.lib HF.out HMS.out HL.out).mono ?_
 rintro e w1 ⟨rfl, hd, hk⟩
 have HN1 := Box.mk (HN.out.wrote hd hk)
 clear hd hk c0 c1 c2 c3 c4 c5 c6 c7 c8 c9 c10
 go_wp2_with fail
 go_end0
 exact HN1.out.fin
set_option maxHeartbeats 4000000 in
set_option maxRecDepth 100000 in
theorem pwrite_2 (d : Nd) (ks : List Tree) (hk : d.kind = 2) (H : ∀ t ∈ ks, WrOk t) : WrOk (.node d ks) := by
 intro P w ⟨mv, bv, kv⟩ b l hT hP h hl hc hp hlen
 obtain ⟨hc1, hc2⟩ := chk_ok hc
 obtain ⟨a1, a2, a3, a4, a5⟩ := chk1_all hc1
 have E : Box (showT (.node d ks) = grpL d ++ (40 :: ((showL ks).headD [] ++ [41]))) := ⟨by rw [showT]; unfold joinN; rw [if_neg (by omega), if_neg (by omega), if_pos hk]⟩
 have HF : Box (ks.length = 1 ∧ 0 ≤ d.fn ∧ d.fn ≤ 4) := ⟨by rcases shape_cases a1 with h | h | h | h <;> omega⟩
 have HPR : Box (∀ t ∈ ks, prtB t = true) := ⟨by rw [prtB, if_neg (by omega)] at hp; exact prtL_all hp⟩
 have HN := Box.mk (Wt.start h hl hT hP)
 rw [E.out] at hlen ⊢
 have HL := Box.mk hlen
 have HC2 := Box.mk hc2
 clear hT h hl hc hp hlen hc1 hc2 a1 a2 a3 a5
 have HK := Box.mk hk
 clear hk
 show Calls _ _ #[_, .agg (ndC d mv bv kv)] _ _
 go_enter Tryz.func51, Tryz.ntmps51
 go_upto_region 1 with (fail)
 generalize w.alloc (.cells (ndC d _ _ _) exT) = W0 at HN ⊢
 obtain ⟨c0, c1, c2, c3, c4, c5, c6, c7, c8, c9, c10⟩ := HN.out.c
 simp only [Nat.zero_add] at c1 c2 c3 c4 c5 c6 c7 c8 c9 c10
 have t0 : (d.kind == 0) = false := by rw [HK.out]; rfl
 have t1 : (d.kind == 1) = false := by rw [HK.out]; rfl
 have t2 : (d.kind == 2) = true := by rw [HK.out]; rfl
 go_wp2_with fail
 refine (pgrp_any d ks HF.out.1 H P _ mv bv kv b l HN.out.tr HN.out.hP HN.out.wp.bd HN.out.wp.lib HC2.out HPR.out HF.out.2 a4 HL.out).mono ?_
 rintro e w1 ⟨rfl, hd, hk⟩
 have HN1 := Box.mk (HN.out.wrote hd hk)
 clear hd hk c0 c1 c2 c3 c4 c5 c6 c7 c8 c9 c10
 go_wp2_with fail
 go_end0
 exact HN1.out.fin
set_option maxHeartbeats 4000000 in
set_option maxRecDepth 100000 in
theorem pwrite_3 (d : Nd) (ks : List Tree) (hk : d.kind = 3) (H : ∀ t ∈ ks, WrOk t) : WrOk (.node d ks) := by
 intro P w ⟨mv, bv, kv⟩ b l hT hP h hl hc hp hlen
 obtain ⟨hc1, hc2⟩ := chk_ok hc
 obtain ⟨a1, a2, a3, a4, a5⟩ := chk1_all hc1
 have HF : Box (ks.length = 2 ∧ 0 ≤ d.fn ∧ d.fn ≤ 3) := ⟨by rcases shape_cases a1 with h | h | h | h <;> omega⟩
 have HPR : Box (∀ t ∈ ks, prtB t = true) := ⟨by rw [prtB, if_neg (by omega)] at hp; exact prtL_all hp⟩
 obtain ⟨A1, n1, rfl, l1⟩ := hT.nod.ms.form
 obtain ⟨A2, n2, rfl, l2⟩ := hT.nod.bys.form
 obtain ⟨A3, n3, rfl, l3⟩ := hT.nod.kform
 have HN := Box.mk (Wt.start h hl hT hP)
 obtain ⟨dx, xs, dy, ys, hks⟩ : ∃ dx xs dy ys, ks = [.node dx xs, .node dy ys] := by
  match ks, HF.out.1 with
  | [.node dx xs, .node dy ys], _ => exact ⟨dx, xs, dy, ys, rfl⟩
 obtain ⟨fn, hfe⟩ : ∃ k : Nat, d.fn = k := ⟨d.fn.toNat, by have := HF.out; omega⟩
 have HFN : Box (d.fn = (fn : Int) ∧ fn < 4) := ⟨hfe, by have := HF.out; omega⟩
 obtain ⟨q1, hq1⟩ : ∃ q : Bool, decide (precT dx < precT d) = q := ⟨_, rfl⟩
 obtain ⟨q2, hq2⟩ : ∃ q : Bool, decide (precT dy ≤ precT d) = q := ⟨_, rfl⟩
 obtain ⟨sx, hsx⟩ : ∃ x, encl q1 (showT (.node dx xs)) = x := ⟨_, rfl⟩
 obtain ⟨sy, hsy⟩ : ∃ x, encl q2 (showT (.node dy ys)) = x := ⟨_, rfl⟩
 obtain ⟨ob, hob⟩ : ∃ x : ByteArray, x = bsL (opersT.getD fn []) := ⟨_, rfl⟩
 have E : Box (showT (.node d ks) = sx ++ (ob.data.toList ++ sy)) := ⟨by
  rw [showT, hks]
  unfold joinN
  rw [if_neg (by omega), if_neg (by omega), if_neg (by omega)]
  simp only [List.map_cons, List.map_nil, showL, Tree.d]
  rw [hq1, hq2, hsx, hsy, hob, bsL_lst, hfe]
  rfl⟩
 have HOB : Box (bsL (opersT.getD fn []) = ob) := ⟨hob.symm⟩
 have HSX := Box.mk hsx
 have HSY := Box.mk hsy
 have HQ1 := Box.mk hq1
 have HQ2 := Box.mk hq2
 have HX : Box (WrOk (.node dx xs) ∧ chk (.node dx xs) = 0 ∧ prtB (.node dx xs) = true) := ⟨H _ (by rw [hks]; simp), hc2 _ (by rw [hks]; simp), HPR.out _ (by rw [hks]; simp)⟩
 have HY : Box (WrOk (.node dy ys) ∧ chk (.node dy ys) = 0 ∧ prtB (.node dy ys) = true) := ⟨H _ (by rw [hks]; simp), hc2 _ (by rw [hks]; simp), HPR.out _ (by rw [hks]; simp)⟩
 rw [E.out] at hlen ⊢
 have HL : Box (l.length + (sx.length + (ob.data.toList.length + sy.length)) ≤ 1000000000) := ⟨by simpa [List.length_append] using hlen⟩
 have HKS : Box (ks[0]? = some (.node dx xs) ∧ ks[1]? = some (.node dy ys) ∧ ks.length = 2) := ⟨by rw [hks]; rfl, by rw [hks]; rfl, by rw [hks]; rfl⟩
 have HK := Box.mk hk
 clear hT h hl hc hp hlen hc1 hc2 a1 a2 a3 a5 hks hfe hq1 hq2 hsx hsy hob H HPR hk
 show Calls _ _ #[_, .agg (ndC d _ _ _)] _ _
 go_enter Tryz.func51, Tryz.ntmps51
 go_upto_region 1 with (fail)
 generalize w.alloc (.cells (ndC d _ _ _) exT) = W0 at HN ⊢
 obtain ⟨c0, c1, c2, c3, c4, c5, c6, c7, c8, c9, c10⟩ := HN.out.c
 simp only [Nat.zero_add] at c1 c2 c3 c4 c5 c6 c7 c8 c9 c10
 have t0 : (d.kind == 0) = false := by rw [HK.out]; rfl
 have t1 : (d.kind == 1) = false := by rw [HK.out]; rfl
 have t2 : (d.kind == 2) = false := by rw [HK.out]; rfl
 have t3 : (d.kind == 3) = true := by rw [HK.out]; rfl
 go_wp2_with fail
 refine (pprec_any d _ _ _ _).mono ?_
 rintro e w1 ⟨rfl, hb1⟩
 have HN1 := Box.mk (HN.out.below hb1)
 clear hb1 c0 c1 c2 c3 c4 c5 c6 c7 c8 c9 c10 HN t0 t1 t2 t3
 obtain ⟨c0, c1, c2, c3, c4, c5, c6, c7, c8, c9, c10⟩ := HN1.out.c
 simp only [Nat.zero_add] at c10
 clear c0 c1 c2 c3 c4 c5 c6 c7 c8 c9
 obtain ⟨g, off, kx1, kx2, kx3, rfl, hgl, hgp, k11, hTx⟩ := HN1.out.tr.nod.kid 0 dx xs HKS.out.1
 simp only [Nat.zero_mul, Nat.add_zero] at k11
 have HGP := Box.mk hgp
 have HG11 := Box.mk k11
 have HTX := Box.mk hTx
 obtain ⟨k0, k1, k2, k3, k4, k5, k6, k7, k8, k9, k10⟩ := k11
 have HKL : (0 : Int) < (ks.length : Int) := by have := HKS.out.2.2; omega
 have HKL2 : 0 < ks.length := by omega
 have HGL : Box (g < w1.heap.size ∧ g < b) := ⟨hgl, by obtain ⟨z, hz⟩ := hgp; exact hP _ _ hz⟩
 clear hgp hTx hgl
 obtain ⟨pl, hpl⟩ : ∃ x : Nat, precT d = x := ⟨_, rfl⟩
 obtain ⟨px, hpx⟩ : ∃ x : Nat, precT dx = x := ⟨_, rfl⟩
 have HPL := Box.mk hpl
 have HPX := Box.mk hpx
 have HQ1' : Box (decide ((px : Int) < (pl : Int)) = q1 ∧ decide (px < pl) = q1) := ⟨by rw [← HQ1.out, hpl, hpx]; simp, by rw [← HQ1.out, hpl, hpx]⟩
 rw [hpl]
 clear hpl hpx
 obtain ⟨u1, u2⟩ := HQ1'.out
 have HK1 : Box (w1.drew.cell? ⟨w.heap.size, 10, none⟩ = some (.slice (some ⟨g, off, none⟩) ks.length n3) ∧ At11 w1.drew g off dx kx1 kx2 kx3) := ⟨c10, HG11.out⟩
 go_upto_region 10 with (fail)
 go_region_held3 (fun w' => w'.cell? ⟨w.heap.size, 10, none⟩ = some (.slice (some ⟨g, off, none⟩) ks.length n3) ∧ At11 w' g off dx kx1 kx2 kx3)
  (first | with_reducible exact HK1.out | with_reducible exact HK2.out | with_reducible exact HK3.out | go_keep)
  (first
   | (go_at_call 88; refine (pprec_any dx _ _ _ _).mono ?_; rintro e w4 ⟨rfl, hb4⟩; rw [HPX.out]; have HN2 : Box (Wt b P d ks (.slice A1 d.ms.length n1) (.slice A2 d.bys.length n2) (.slice (some ⟨g, off, none⟩) ks.length n3) w w4 (l)) := ⟨by first | exact HN1.out.below hb4 | exact HN1.out.drew.below hb4⟩; have HT2 : Box (TreeAt w4 P (.node dx xs) (kx1, kx2, kx3)) := ⟨(HTX.out.belo (below_drewN _ 1)).belo hb4⟩; have HK2 : Box (w4.cell? ⟨w.heap.size, 10, none⟩ = some (.slice (some ⟨g, off, none⟩) ks.length n3) ∧ At11 w4 g off dx kx1 kx2 kx3) := ⟨by have h := HN2.out.c.2.2.2.2.2.2.2.2.2.2; simpa using h, At11.keep (w := w1.drew) HG11.out hb4 HGL.out.1⟩; clear hb4)
   | (go_at_call 89; refine (poper_any q1 dx xs HX.out.1 P _ kx1 kx2 kx3 b (l) HT2.out hP HN2.out.wp.bd HN2.out.wp.lib HX.out.2.1 HX.out.2.2 (by rw [HSX.out]; have := HL.out; omega)).mono ?_; rintro e w5 ⟨rfl, hd, hk2⟩; rw [HSX.out] at hd; have HN3 : Box (Wt b P d ks (.slice A1 d.ms.length n1) (.slice A2 d.bys.length n2) (.slice (some ⟨g, off, none⟩) ks.length n3) w w5 ((l) ++ sx)) := ⟨HN2.out.wrote hd hk2⟩; have HK3 : Box (w5.cell? ⟨w.heap.size, 10, none⟩ = some (.slice (some ⟨g, off, none⟩) ks.length n3) ∧ At11 w5 g off dx kx1 kx2 kx3) := ⟨by have h := HN3.out.c.2.2.2.2.2.2.2.2.2.2; simpa using h, HK2.out.2.keep hk2.below HGL.out.2⟩; clear hd hk2))
 have HNA := HN3
 clear HK1 HK2 HK3 HN2 HN3 HT2 HTX HG11 u1 u2 HQ1' k0 k1 k2 k3 k4 k5 k6 k7 k8 k9 k10 c10
 rename World => wa
 obtain ⟨c0, c1, c2, c3, c4, c5, c6, c7, c8, c9, c10⟩ := HNA.out.c
 simp only [Nat.zero_add] at c1
 clear c0 c2 c3 c4 c5 c6 c7 c8 c9 c10
 rw [HFN.out.1] at c1
 have y1 := oprAt HNA.out.wp.lib.here fn HFN.out.2
 rw [HOB.out] at y1
 have hfn2 : (fn : Int) < 4 := by have := HFN.out.2; omega
 have hfn0 : (0 : Int) ≤ (fn : Int) := by omega
 go_wp2_with fail
 refine (bstr_any b _ ob _ HNA.out.wp.bd (by have := HL.out; have h2 := data_size ob; simp only [List.length_append]; omega)).mono ?_
 rintro e w6 ⟨rfl, hd, hk⟩
 have HNB := Box.mk (HNA.out.wrote hd hk)
 clear hd hk c1 y1 HNA hfn2 hfn0
 obtain ⟨c0, c1, c2, c3, c4, c5, c6, c7, c8, c9, c10⟩ := HNB.out.c
 simp only [Nat.zero_add] at c10
 clear c0 c1 c2 c3 c4 c5 c6 c7 c8 c9
 obtain ⟨g', off', ky1, ky2, ky3, hA, hgl, hgp, k11, hTx⟩ := HNB.out.tr.nod.kid 1 dy ys HKS.out.2.1
 cases hA
 rw [Nat.one_mul] at k11
 have HG11 := Box.mk k11
 have HTX := Box.mk hTx
 obtain ⟨k0, k1, k2, k3, k4, k5, k6, k7, k8, k9, k10⟩ := k11
 have HKL3 : (1 : Int) < (ks.length : Int) := by have := HKS.out.2.2; omega
 have HKL4 : 1 < ks.length := by omega
 have HGLB := HGL
 clear HGL
 have HGL : Box (g < w6.heap.size ∧ g < b) := ⟨hgl, HGLB.out.2⟩
 clear hgp hTx hgl
 obtain ⟨py, hpy⟩ : ∃ x : Nat, precT dy = x := ⟨_, rfl⟩
 have HPY := Box.mk hpy
 have HQ2' : Box (decide ((py : Int) ≤ (pl : Int)) = q2 ∧ decide (py ≤ pl) = q2) := ⟨by rw [← HQ2.out, HPL.out, hpy]; simp, by rw [← HQ2.out, HPL.out, hpy]⟩
 clear hpy
 obtain ⟨u1, u2⟩ := HQ2'.out
 have HK1 : Box (w6.drew.cell? ⟨w.heap.size, 10, none⟩ = some (.slice (some ⟨g, off, none⟩) ks.length n3) ∧ At11 w6.drew g (off + 11) dy ky1 ky2 ky3) := ⟨c10, HG11.out⟩
 go_upto_region 12 with (fail)
 go_region_held3 (fun w' => w'.cell? ⟨w.heap.size, 10, none⟩ = some (.slice (some ⟨g, off, none⟩) ks.length n3) ∧ At11 w' g (off + 11) dy ky1 ky2 ky3)
  (first | with_reducible exact HK1.out | with_reducible exact HK2.out | with_reducible exact HK3.out | go_keep)
  (first
   | (go_at_call 88; refine (pprec_any dy _ _ _ _).mono ?_; rintro e w4 ⟨rfl, hb4⟩; rw [HPY.out]; have HN2 : Box (Wt b P d ks (.slice A1 d.ms.length n1) (.slice A2 d.bys.length n2) (.slice (some ⟨g, off, none⟩) ks.length n3) w w4 ((l ++ sx) ++ ob.data.toList)) := ⟨by first | exact HNB.out.below hb4 | exact HNB.out.drew.below hb4⟩; have HT2 : Box (TreeAt w4 P (.node dy ys) (ky1, ky2, ky3)) := ⟨(HTX.out.belo (below_drewN _ 1)).belo hb4⟩; have HK2 : Box (w4.cell? ⟨w.heap.size, 10, none⟩ = some (.slice (some ⟨g, off, none⟩) ks.length n3) ∧ At11 w4 g (off + 11) dy ky1 ky2 ky3) := ⟨by have h := HN2.out.c.2.2.2.2.2.2.2.2.2.2; simpa using h, At11.keep (w := w6.drew) HG11.out hb4 HGL.out.1⟩; clear hb4)
   | (go_at_call 89; refine (poper_any q2 dy ys HY.out.1 P _ ky1 ky2 ky3 b ((l ++ sx) ++ ob.data.toList) HT2.out hP HN2.out.wp.bd HN2.out.wp.lib HY.out.2.1 HY.out.2.2 (by rw [HSY.out]; have := HL.out; simp only [List.length_append]; omega)).mono ?_; rintro e w5 ⟨rfl, hd, hk2⟩; rw [HSY.out] at hd; have HN3 : Box (Wt b P d ks (.slice A1 d.ms.length n1) (.slice A2 d.bys.length n2) (.slice (some ⟨g, off, none⟩) ks.length n3) w w5 (((l ++ sx) ++ ob.data.toList) ++ sy)) := ⟨HN2.out.wrote hd hk2⟩; have HK3 : Box (w5.cell? ⟨w.heap.size, 10, none⟩ = some (.slice (some ⟨g, off, none⟩) ks.length n3) ∧ At11 w5 g (off + 11) dy ky1 ky2 ky3) := ⟨by have h := HN3.out.c.2.2.2.2.2.2.2.2.2.2; simpa using h, HK2.out.2.keep hk2.below HGL.out.2⟩; clear hd hk2))
 go_wp2_with fail
 go_end0
 have hfin := HN3.out.fin (v := .tuple #[])
 simpa [List.append_assoc] using hfin
theorem pwrite_any : ∀ t, WrOk t := Tree.ind fun d ks ih => by
 by_cases h0 : d.kind = 0
 ·exact pwrite_0 d ks h0
 by_cases h1 : d.kind = 1
 ·exact pwrite_1 d ks h1
 by_cases h2 : d.kind = 2
 ·exact pwrite_2 d ks h2 ih
 by_cases h3 : d.kind = 3
 ·exact pwrite_3 d ks h3 ih
 intro P w s b l hT hP h hl hc hp hlen
 obtain ⟨hc1, hc2⟩ := chk_ok hc
 obtain ⟨a1, _⟩ := chk1_all hc1
 rcases shape_cases a1 with h | h | h | h <;> omega
end
section
open Go.RowKit FracM
/-- the index of a string in a list, or -1 -/
def findI (s : ByteArray) : List ByteArray → Nat → Int
 | [], _ => -1
 | x :: xs, k => if x.toList == s.toList then k else findI s xs (k + 1)
set_option maxHeartbeats 400000 in
theorem rfind_any (A : Option Addr) (n c : Nat) (l : List ByteArray) (s : ByteArray) (w : World) (h : StrsP w (.slice A n c) l) : Calls Tryz.prog 114 #[.slice A n c, .string s] w fun e w' => e = .returned (.int .i64 (findI s l 0)) ∧ w' = w := by
 obtain ⟨A', c', hv, hn⟩ := h.form
 cases hv
 have HW := Box.mk h; clear h
 go_enter Tryz.func114, Tryz.ntmps114
 go_wp2
 go_loop [5] (fun v => ∃ k : Nat, k ≤ l.length ∧ v = .int .i64 (k : Nat) ∧ Box (findI s (l.drop k) k = findI s l 0)) (fun v => l.length - (intOf v).toNat)
 case atStart => exact ⟨0, by omega, rfl, ⟨rfl⟩⟩
 case round =>
  obtain ⟨k, hk, rfl, HI⟩ := hrel
  by_cases h5 : k = l.length
  ·have h6 : ¬ (k : Int) < (l.length : Int) := by omega
   go_wp2
   go_ret
   exact ⟨ret_int (by rw [← HI.out, List.drop_eq_nil_of_le (by omega)]; rfl), rfl⟩
  ·obtain ⟨x, hx⟩ : ∃ x, l[k]? = some x := ⟨l[k]'(by omega), List.getElem?_eq_getElem _⟩
   obtain ⟨b, off, rfl, hb, hs⟩ := SeqP.at1 HW.out k (.string x) (by simp [hx])
   have hk2 : (k : Int) < (l.length : Int) := by omega
   have HD : Box (l.drop k = x :: l.drop (k + 1)) := ⟨by
    rw [List.drop_eq_getElem_cons (by omega : k < l.length)]
    rw [(List.getElem?_eq_some_iff.1 hx).2]⟩
   have hk3 : k < l.length := by omega
   clear h5 hx
   by_cases hn2 : (x.toList == s.toList) = true
   ·go_wp2
    go_ret
    exact ⟨ret_int (by rw [← HI.out, HD.out, findI, if_pos hn2]), rfl⟩
   ·have hn1 : (x.toList == s.toList) = false := by simpa using hn2
    clear hn2
    go_wp2
    go_round
    case rel => exact ⟨k + 1, by omega, by go_num, ⟨by rw [← HI.out, HD.out, findI, if_neg (by rw [hn1]; simp)]⟩⟩
    case measure => simp [intOf]; omega
end
end Go.Proofs.YthoibeajhdhdhaaGreatDoor
