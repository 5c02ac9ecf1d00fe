/- Contracts, packed: Jp Jq. -/
import Derived.Test.YthoibeajhdhdhaaGreatDoorPe17
import Derived.Test.YthoibeajhdhdhaaGreatDoorPe31
import Derived.Test.YthoibeajhdhdhaaGreatDoorPe50
set_option linter.unusedVariables false
set_option linter.unusedSimpArgs false
namespace Go.Proofs.YthoibeajhdhdhaaGreatDoor
section
open Go.RowKit FracM
set_option maxHeartbeats 2000000 in
set_option maxRecDepth 100000 in
theorem pnodes_any : ∀ t, ∀ (P : Nat → Nat → Prop) (w : World) (s : Sl), TreeAt w P t s → nds t ≤ 1000000 → Calls Tryz.prog 37 #[.agg (ndC t.d s.1 s.2.1 s.2.2)] w (RetB (.int .i64 (nds t)) w) := by
 refine Tree.ind ?_
 intro d ks ih P w ⟨mv, bv, kv⟩ hT hn
 have IH := Box.mk ih
 have HN := Lib.hid (N1.start hT)
 obtain ⟨A1, n1, hmv, l1⟩ := hT.nod.ms.form
 obtain ⟨A2, n2, hbv, l2⟩ := hT.nod.bys.form
 obtain ⟨A3, n3, hkv, l3⟩ := hT.nod.kform
 subst hmv hbv hkv
 rw [nds] at hn ⊢
 obtain ⟨N, hN⟩ : ∃ N, N = ndsL ks := ⟨_, rfl⟩
 rw [← hN] at hn ⊢
 have HNN := Box.mk hN
 clear hT ih hN
 simp only [Tree.d]
 go_enter Tryz.func37, Tryz.ntmps37
 go_upto_region 1 with (fail)
 generalize w.alloc (.cells (ndC d _ _ _) 29) = W at HN ⊢
 have c10 := (blk11z HN.out.blk).2.2.2.2.2.2.2.2.2.2
 go_wp2_with fail
 go_loopw [3, 9] (fun n v wr => ∃ k m : Nat, k ≤ ks.length ∧ v = .int .i64 (k : Nat) ∧ n = .int .i64 (m : Nat) ∧ m + ndsL (ks.drop k) = N + 1 ∧ N1 w wr P d ks (.slice A1 d.ms.length n1) (.slice A2 d.bys.length n2) (.slice A3 ks.length n3)) (fun _ v _ => ks.length - (intOf v).toNat)
 case atStart => exact ⟨0, 1, by omega, rfl, rfl, by rw [List.drop_zero, ← HNN.out]; omega, HN.out⟩
 case round =>
  clear HN c10
  obtain ⟨k, m, hk, rfl, rfl, hm, hN⟩ := hrel
  have HN := Lib.hid hN; clear hN
  by_cases hlt : k < ks.length
  ·obtain ⟨x, hx⟩ : ∃ x, ks[k]? = some x := ⟨ks[k], List.getElem?_eq_getElem _⟩
   obtain ⟨e, es⟩ := x
   obtain ⟨b, off, mv', bv', kv', rfl, hb, hpb, ⟨k0, k1, k2, k3, k4, k5, k6, k7, k8, k9, k10⟩, hT'⟩ := HN.out.nod.kid k e es hx
   obtain ⟨B1, m1, rfl, -⟩ := hT'.nod.ms.form
   obtain ⟨B2, m2, rfl, -⟩ := hT'.nod.bys.form
   obtain ⟨B3, m3, rfl, -⟩ := hT'.nod.kform
   have HT' := Box.mk hT'
   have HX := Box.mk hx
   have hlt2 : (k : Int) < (ks.length : Int) := by omega
   have hstep := ndsL_drop ks k _ hx
   have hle := nds_mem (List.mem_of_getElem? hx)
   rw [← HNN.out] at hle
   have HM := Box.mk (And.intro hm hstep)
   have hq : nds (.node e es) ≤ 1000000 := by omega
   have hm2 : m + nds (.node e es) ≤ 1000001 := by omega
   clear hT' hx hm hstep hle
   go_upto_region 5 with (fail)
   have HN3 := Lib.hid (HN.out.next (bel1 wr (.cells (ndC e (.slice B1 e.ms.length m1) (.slice B2 e.bys.length m2) (.slice B3 es.length m3)) 29)))
   have HT3 := Box.mk (HT'.out.belo (bel1 wr (.cells (ndC e (.slice B1 e.ms.length m1) (.slice B2 e.bys.length m2) (.slice B3 es.length m3)) 29)))
   have HK3 : Hid (Blk (wr.alloc (.cells (ndC e (.slice B1 e.ms.length m1) (.slice B2 e.bys.length m2) (.slice B3 es.length m3)) 29)) wr.heap.size 29 (ndC e (.slice B1 e.ms.length m1) (.slice B2 e.bys.length m2) (.slice B3 es.length m3))) := Blk.new _ _ _
   clear HN HT' k0 k1 k2 k3 k4 k5 k6 k7 k8 k9 k10
   generalize wr.heap.size = G at *
   generalize wr.alloc (.cells (ndC e (.slice B1 e.ms.length m1) (.slice B2 e.bys.length m2) (.slice B3 es.length m3)) 29) = W3 at *
   obtain ⟨k0, k1, k2, k3, k4, k5, k6, k7, k8, k9, k10⟩ := blk11z HK3.out
   go_wp2_with fail
   refine (IH.out (.node e es) (List.mem_of_getElem? HX.out) P _ (.slice B1 e.ms.length m1, .slice B2 e.bys.length m2, .slice B3 es.length m3) HT3.out hq).mono ?_
   rintro e1 w1 ⟨rfl, hb1⟩
   have HN2 := Lib.hid (HN3.out.next hb1)
   generalize nds (.node e es) = q at hq hm2 HM ⊢
   clear HN3 HK3 hb1 k0 k1 k2 k3 k4 k5 k6 k7 k8 k9 k10
   go_wp2_with fail
   go_roundw
   case rel => exact ⟨k + 1, m + q, by omega, by go_num, by go_num, by have := HM.out; omega, HN2.out⟩
   case measure => simp [intOf]; omega
  ·have hlt2 : ¬ (k : Int) < (ks.length : Int) := by omega
   rw [List.drop_eq_nil_of_le (by omega), ndsL] at hm
   go_wp2_with fail
   go_ret
   exact ⟨ret_int (by omega), HN.out.below⟩
set_option maxHeartbeats 2000000 in
set_option maxRecDepth 100000 in
theorem pdepth_any : ∀ t, ∀ (P : Nat → Nat → Prop) (w : World) (s : Sl), TreeAt w P t s → dep t ≤ 1000000 → Calls Tryz.prog 35 #[.agg (ndC t.d s.1 s.2.1 s.2.2)] w (RetB (.int .i64 (dep t)) w) := by
 refine Tree.ind ?_
 intro d ks ih P w ⟨mv, bv, kv⟩ hT hn
 have IH := Box.mk ih
 have HN := Lib.hid (N1.start hT)
 obtain ⟨A1, n1, hmv, l1⟩ := hT.nod.ms.form
 obtain ⟨A2, n2, hbv, l2⟩ := hT.nod.bys.form
 obtain ⟨A3, n3, hkv, l3⟩ := hT.nod.kform
 subst hmv hbv hkv
 rw [dep] at hn ⊢
 obtain ⟨N, hN⟩ : ∃ N, N = depL ks := ⟨_, rfl⟩
 rw [← hN] at hn ⊢
 have HNN := Box.mk hN
 clear hT ih hN
 simp only [Tree.d]
 go_enter Tryz.func35, Tryz.ntmps35
 go_upto_region 1 with (fail)
 generalize w.alloc (.cells (ndC d _ _ _) 29) = W at HN ⊢
 have c10 := (blk11z HN.out.blk).2.2.2.2.2.2.2.2.2.2
 go_wp2_with fail
 go_loopw [3, 9] (fun n v wr => ∃ k m : Nat, k ≤ ks.length ∧ v = .int .i64 (k : Nat) ∧ n = .int .i64 (m : Nat) ∧ max m (depL (ks.drop k)) = N ∧ N1 w wr P d ks (.slice A1 d.ms.length n1) (.slice A2 d.bys.length n2) (.slice A3 ks.length n3)) (fun _ v _ => ks.length - (intOf v).toNat)
 case atStart => exact ⟨0, 0, by omega, rfl, rfl, by rw [List.drop_zero, ← HNN.out]; omega, HN.out⟩
 case round =>
  clear HN c10
  obtain ⟨k, m, hk, rfl, rfl, hm, hN⟩ := hrel
  have HN := Lib.hid hN; clear hN
  by_cases hlt : k < ks.length
  ·obtain ⟨x, hx⟩ : ∃ x, ks[k]? = some x := ⟨ks[k], List.getElem?_eq_getElem _⟩
   obtain ⟨e, es⟩ := x
   obtain ⟨b, off, mv', bv', kv', rfl, hb, hpb, ⟨k0, k1, k2, k3, k4, k5, k6, k7, k8, k9, k10⟩, hT'⟩ := HN.out.nod.kid k e es hx
   obtain ⟨B1, m1, rfl, -⟩ := hT'.nod.ms.form
   obtain ⟨B2, m2, rfl, -⟩ := hT'.nod.bys.form
   obtain ⟨B3, m3, rfl, -⟩ := hT'.nod.kform
   have HT' := Box.mk hT'
   have HX := Box.mk hx
   have hlt2 : (k : Int) < (ks.length : Int) := by omega
   have hstep := depL_drop ks k _ hx
   have hle := dep_mem (List.mem_of_getElem? hx)
   rw [← HNN.out] at hle
   have HM := Box.mk (And.intro hm hstep)
   have hq : dep (.node e es) ≤ 1000000 := by omega
   have hm2 : m ≤ 1000001 := by omega
   clear hT' hx hm hstep hle
   go_upto_region 5 with (fail)
   have HN3 := Lib.hid (HN.out.next (bel1 wr (.cells (ndC e (.slice B1 e.ms.length m1) (.slice B2 e.bys.length m2) (.slice B3 es.length m3)) 29)))
   have HT3 := Box.mk (HT'.out.belo (bel1 wr (.cells (ndC e (.slice B1 e.ms.length m1) (.slice B2 e.bys.length m2) (.slice B3 es.length m3)) 29)))
   have HK3 : Hid (Blk (wr.alloc (.cells (ndC e (.slice B1 e.ms.length m1) (.slice B2 e.bys.length m2) (.slice B3 es.length m3)) 29)) wr.heap.size 29 (ndC e (.slice B1 e.ms.length m1) (.slice B2 e.bys.length m2) (.slice B3 es.length m3))) := Blk.new _ _ _
   clear HN HT' k0 k1 k2 k3 k4 k5 k6 k7 k8 k9 k10
   generalize wr.heap.size = G at *
   generalize wr.alloc (.cells (ndC e (.slice B1 e.ms.length m1) (.slice B2 e.bys.length m2) (.slice B3 es.length m3)) 29) = W3 at *
   obtain ⟨k0, k1, k2, k3, k4, k5, k6, k7, k8, k9, k10⟩ := blk11z HK3.out
   go_wp2_with fail
   refine (IH.out (.node e es) (List.mem_of_getElem? HX.out) P _ (.slice B1 e.ms.length m1, .slice B2 e.bys.length m2, .slice B3 es.length m3) HT3.out hq).mono ?_
   rintro e1 w1 ⟨rfl, hb1⟩
   have HN2 := Lib.hid (HN3.out.next hb1)
   generalize dep (.node e es) = q at hq hm2 HM ⊢
   clear HN3 HK3 hb1 k0 k1 k2 k3 k4 k5 k6 k7 k8 k9 k10
   rcases Nat.le_total q m with hqm | hqm
   ·have hqm2 : (q : Int) ≤ (m : Int) := by omega
    have hmx : max (m : Int) (q : Int) = (m : Int) := by omega
    go_wp2_with fail
    all_goals
     go_roundw
     case rel => exact ⟨k + 1, m, by omega, by go_num, by first | rfl | (congr 1; omega), by have := HM.out; omega, HN2.out⟩
     case measure => simp [intOf]; omega
   ·have hqm2 : (m : Int) ≤ (q : Int) := by omega
    have hmx : max (m : Int) (q : Int) = (q : Int) := by omega
    go_wp2_with fail
    all_goals
     go_roundw
     case rel => exact ⟨k + 1, q, by omega, by go_num, by first | rfl | (congr 1; omega), by have := HM.out; omega, HN2.out⟩
     case measure => simp [intOf]; omega
  ·have hlt2 : ¬ (k : Int) < (ks.length : Int) := by omega
   rw [List.drop_eq_nil_of_le (by omega), depL] at hm
   go_wp2_with fail
   go_ret
   exact ⟨ret_int (by omega), HN.out.below⟩
end
section
open Go.RowKit FracM
set_option maxHeartbeats 1000000 in
theorem sameTexts_any (A : Option Addr) (n c : Nat) (A' : Option Addr) (n' c' : Nat) (l l' : List ByteArray) (w : World) (h : StrsP w (.slice A n c) l) (h' : StrsP w (.slice A' n' c') l') :
  Calls Tryz.prog 63 #[.slice A n c, .slice A' n' c'] w (RetB (.bool (sameB l l')) w) := by
 obtain ⟨hn, hm⟩ := h.len
 obtain ⟨hn', hm'⟩ := h'.len
 have HS := Box.mk (And.intro h h')
 clear h h'
 by_cases hl : n = n'
 ·subst hl
  have HN := Box.mk (And.intro hn hn')
  clear hn hn'
  have hne : ((n : Int) != (n : Int)) = false := by simp
  go_enter Tryz.func63, Tryz.ntmps63
  go_wp2_with fail
  go_loopw [5] (fun v wr => ∃ k : Nat, k ≤ n ∧ v = .int .i64 (k : Nat) ∧ Below w.heap.size w wr ∧ Box (sameB (l.drop k) (l'.drop k) = sameB l l')) (fun v _ => n - (intOf v).toNat)
  case atStart => exact ⟨0, by omega, rfl, Below.refl _ _, ⟨rfl⟩⟩
  case round =>
   obtain ⟨k, hk, rfl, hb, HA⟩ := hrel
   have HB := Lib.hid hb
   by_cases hlt : k < n
   ·obtain ⟨x, b1, off1, hx, rfl, hb1, p1⟩ := (HS.out.1.below hb).at_ k (by rw [← HN.out.1]; exact hlt)
    obtain ⟨y, b2, off2, hy, rfl, hb2, p2⟩ := (HS.out.2.below hb).at_ k (by rw [← HN.out.2]; exact hlt)
    have HD := Box.mk (And.intro (drop_at hx) (drop_at hy))
    have hlt2 : (k : Int) < (n : Int) := by omega
    clear hb hx hy
    obtain ⟨q, E⟩ : ∃ z, Box ((x.toList == y.toList) = z) := ⟨_, ⟨rfl⟩⟩
    cases q
    ·have hq := E.out
     have hq2 : (x.toList != y.toList) = true := by rw [bne, hq]; rfl
     go_wp2_with fail
     first | go_region | skip
     all_goals
      go_wp2_with fail
      go_ret
      exact ⟨ret_bool (by rw [← HA.out, HD.out.1, HD.out.2, sameB, E.out]; rfl), by first | exact HB.out | exact bdrew HB.out 1⟩
    ·have hq := E.out
     have hq2 : (x.toList != y.toList) = false := by rw [bne, hq]; rfl
     go_wp2_with fail
     first | go_region | skip
     all_goals
      go_wp2_with fail
      go_roundw
      case rel => exact ⟨k + 1, by omega, by go_num, by first | exact HB.out | exact bdrew HB.out 1, ⟨by rw [← HA.out, HD.out.1, HD.out.2, sameB, E.out]; rfl⟩⟩
      case measure => simp [intOf]; omega
   ·have hlt2 : ¬ (k : Int) < (n : Int) := by omega
    clear hb
    go_wp2_with fail
    go_ret
    exact ⟨ret_bool (by rw [← HA.out, List.drop_eq_nil_of_le (by rw [← HN.out.1]; omega), List.drop_eq_nil_of_le (by rw [← HN.out.2]; omega)]; rfl), HB.out⟩
 ·have hne : ((n : Int) != (n' : Int)) = true := by simp; omega
  have E : Box (sameB l l' = false) := ⟨by rw [same_eq]; apply decide_eq_false; intro h; rw [h] at hn; omega⟩
  go_enter Tryz.func63, Tryz.ntmps63
  go_wp2_with fail
  go_ret
  exact ⟨ret_bool E.out.symm, Below.refl _ _⟩
set_option maxHeartbeats 2000000 in
set_option maxRecDepth 100000 in
theorem rmats_any (A1 A2 : Option Addr) (c1 c2 : Nat) (P Q : Nat → Nat → Prop) (a b : List Mat) (w : World) (ha : SeqP w P 3 (.slice A1 a.length c1) a.length (a.flatMap matCells)) (hb : SeqP w Q 3 (.slice A2 b.length c2) b.length (b.flatMap matCells)) :
  Calls Tryz.prog 62 #[.slice A1 a.length c1, .slice A2 b.length c2] w (RetB (.bool (matsB a b)) w) := by
 have l1 := ha.form
 have l2 : a.length ≤ 9223372036854775807 := by obtain ⟨_, _, e, h⟩ := l1; cases e; exact h
 have l3 : b.length ≤ 9223372036854775807 := by obtain ⟨_, _, e, h⟩ := hb.form; cases e; exact h
 clear l1
 have HA := Box.mk ha
 have HB := Box.mk hb
 clear ha hb
 obtain ⟨q, hq⟩ : ∃ q, matsB a b = q := ⟨_, rfl⟩
 have HQ := Box.mk hq
 rw [hq]
 by_cases hn : a.length = b.length
 ·have HN := Box.mk hn
  obtain ⟨m, hm⟩ : ∃ m, a.length = m := ⟨_, rfl⟩
  have hm2 : b.length = m := by omega
  have HM := Box.mk (And.intro hm hm2)
  rw [hm, hm2]
  rw [hm] at HA l2
  rw [hm2] at HB
  clear hn hm hm2 hq l3
  go_enter Tryz.func62, Tryz.ntmps62
  go_wp2_with fail
  go_loopw [5] (fun v wr => ∃ k n : Nat, k ≤ m ∧ v = .int .i64 (k : Nat) ∧ wr = w.drewN n ∧ Box (matsB (a.drop k) (b.drop k) = q)) (fun v _ => m - (intOf v).toNat)
  case atStart => exact ⟨0, 0, by omega, rfl, rfl, HQ⟩
  case round =>
   obtain ⟨k, n, hk, rfl, rfl, HD⟩ := hrel
   by_cases hlt : k < m
   ·obtain ⟨x, hx⟩ : ∃ x, a[k]? = some x := ⟨a[k]'(by have := HM.out; omega), List.getElem?_eq_getElem _⟩
    obtain ⟨y, hy⟩ : ∃ y, b[k]? = some y := ⟨b[k]'(by have := HM.out; omega), List.getElem?_eq_getElem _⟩
    obtain ⟨g1, o1, rfl, x0, x1, x2⟩ := SeqP.mat HA.out k x hx
    obtain ⟨g2, o2, rfl, y0, y1, y2⟩ := SeqP.mat HB.out k y hy
    have HDD : Box (a.drop k = x :: a.drop (k + 1) ∧ b.drop k = y :: b.drop (k + 1)) := ⟨by rw [List.drop_eq_getElem_cons (by have := HM.out; omega), (List.getElem?_eq_some_iff.1 hx).2], by rw [List.drop_eq_getElem_cons (by have := HM.out; omega), (List.getElem?_eq_some_iff.1 hy).2]⟩
    obtain ⟨z, hz⟩ : ∃ z, matB x y = z := ⟨_, rfl⟩
    have HZ := Box.mk hz
    obtain ⟨xa, xb, xc⟩ := x
    obtain ⟨ya, yb, yc⟩ := y
    simp only at x0 x1 x2 y0 y1 y2
    have hlt2 : (k : Int) < (m : Int) := by omega
    have hlt0 : (0 : Int) ≤ (k : Int) := by omega
    have hqq : ∀ W : World, (Op.equalIn 10000 91 (.agg #[.string xa, .int .i64 xb, .string xc]) (.agg #[.string ya, .int .i64 yb, .string yc])).run Tryz.prog W = .ok z W := fun W => by rw [eq_mat, HZ.out]
    clear hx hy hz
    go_upto_region 6 with (fail)
    go_quiet (fail)
    cases z
    ·go_wp2_with fail
     go_ret
     exact ⟨ret_bool (by rw [← HD.out, HDD.out.1, HDD.out.2, matsB, HZ.out]; rfl), bdrew (below_drewN w n) _⟩
    ·go_wp2_with fail
     go_roundw
     case rel => exact ⟨k + 1, n + nq, by omega, by go_num, rfl, ⟨by rw [← HD.out, HDD.out.1, HDD.out.2, matsB, HZ.out]; simp⟩⟩
     case measure => simp [intOf]; omega
   ·have hlt2 : ¬ (k : Int) < (m : Int) := by omega
    go_wp2_with fail
    go_ret
    exact ⟨ret_bool (by rw [← HD.out, List.drop_eq_nil_of_le (by have := HM.out; omega), List.drop_eq_nil_of_le (by have := HM.out; omega)]; rfl), below_drewN w n⟩
 ·have hn2 : ((a.length : Int) != (b.length : Int)) = true := by simp; omega
  have hq2 := matsB_len hn
  have HE : Box (q = false) := ⟨by rw [← hq, hq2]⟩
  clear hn hq hq2
  go_enter Tryz.func62, Tryz.ntmps62
  go_wp2_with fail
  go_ret
  exact ⟨ret_bool HE.out.symm, Below.refl _ _⟩
end
end Go.Proofs.YthoibeajhdhdhaaGreatDoor
