/- Contracts, packed: Jk Jd Je Jf Qm Rb Rc Sa. -/
import Derived.Test.YtkdojgkiclndfaaGreatDoorPz10
import Derived.Test.YtkdojgkiclndfaaGreatDoorPz11
import Derived.Test.YtkdojgkiclndfaaGreatDoorPz18
import Derived.Test.YtkdojgkiclndfaaGreatDoorPz20
import Derived.Test.YtkdojgkiclndfaaGreatDoorPz21
import Derived.Deep.RegionHeld3
import Derived.Deep.CutBlock
import Derived.Deep.DeepCutAuto
set_option linter.unusedVariables false
set_option linter.unusedSimpArgs false
namespace Go.Proofs.YtkdojgkiclndfaaGreatDoor
section
open Go.RowKit FracM
def ns6 : List ByteArray := [⟨#[99, 112, 117]⟩, ⟨#[109, 101, 109]⟩, ⟨#[97]⟩, ⟨#[108, 97, 115, 116]⟩, ⟨#[98, 121]⟩, ⟨#[120, 95, 49]⟩]
theorem ns6_ok : NamesOk ns6 := by unfold NamesOk; decide +kernel
set_option maxHeartbeats 4000000 in
set_option maxRecDepth 100000 in
theorem expr0_any (lv : Value) (l : List Int) (w : World) (h1 : IntsP w lv l) :
  Calls Tryz.prog 7 #[lv] w (RetT2 ns6 4096 w) := by
 obtain ⟨A1, c1, rfl, hlen⟩ := h1.1.form
 have HI0 := Box.mk h1
 clear h1
 go_enter Tryz.func7, Tryz.ntmps7
 have HP : Box (Blk ((w.alloc (.cells zeroC 33)).alloc (.cells #[.string ⟨#[99, 112, 117]⟩, .string ⟨#[109, 101, 109]⟩, .string ⟨#[97]⟩, .string ⟨#[108, 97, 115, 116]⟩, .string ⟨#[98, 121]⟩, .string ⟨#[120, 95, 49]⟩] 9)) w.heap.size 33 zeroC ∧ Below w.heap.size w ((w.alloc (.cells zeroC 33)).alloc (.cells #[.string ⟨#[99, 112, 117]⟩, .string ⟨#[109, 101, 109]⟩, .string ⟨#[97]⟩, .string ⟨#[108, 97, 115, 116]⟩, .string ⟨#[98, 121]⟩, .string ⟨#[120, 95, 49]⟩] 9))) := ⟨(Blk.new _ _ _).alloc _, bel2 _ _ _⟩
 have HI : Box (IntsP ((w.alloc (.cells zeroC 33)).alloc (.cells #[.string ⟨#[99, 112, 117]⟩, .string ⟨#[109, 101, 109]⟩, .string ⟨#[97]⟩, .string ⟨#[108, 97, 115, 116]⟩, .string ⟨#[98, 121]⟩, .string ⟨#[120, 95, 49]⟩] 9)) (.slice A1 l.length c1) l) := ⟨IntsP.belo HI0.out (bel2 _ _ _)⟩
 have HS : Box (StrsL ((w.alloc (.cells zeroC 33)).alloc (.cells #[.string ⟨#[99, 112, 117]⟩, .string ⟨#[109, 101, 109]⟩, .string ⟨#[97]⟩, .string ⟨#[108, 97, 115, 116]⟩, .string ⟨#[98, 121]⟩, .string ⟨#[120, 95, 49]⟩] 9)) (.slice (some ⟨w.heap.size + 1, 0, none⟩) 6 6) ns6) := ⟨SeqP.of_blk (n := 6) (size := 1) (Blk.newAt _ _ (by simp)) rfl (by omega) (by simp)⟩
 go_wp2_with fail
 (with_reducible refine (make_any (.slice A1 l.length c1) (.slice (some ⟨w.heap.size + 1, 0, none⟩) 6 6) l ns6 4096 _ HI.out HS.out ns6_ok (by decide) (by decide) (by omega) (by omega)).mono ?_)
 rintro e w2 ⟨t, s, rfl, ht8, hgd8, hd8, hn8, ho8⟩
 obtain ⟨d, ks⟩ := t
 obtain ⟨mv, bv, kv⟩ := s
 obtain ⟨A1, n1, rfl, -⟩ := ht8.form.1
 obtain ⟨A2, n2, rfl, -⟩ := ht8.form.2.1
 obtain ⟨A3, n3, rfl, -⟩ := ht8.form.2.2
 simp only [Tree.d]
 have HR := Box.mk (HP.out.1.below ho8)
 have HT := Box.mk (ht8.lower (B' := w.heap.size + 1) (by simp))
 have HO := Box.mk (HP.out.2.trans (ho8.mono HP.out.2.size))
 have HD := Box.mk (And.intro hgd8 (And.intro hd8 hn8))
 clear ht8 hgd8 hd8 hn8 ho8 HP
 obtain ⟨z0, z1, z2, z3, z4, z5, z6, z7, z8, z9, z10⟩ := blk11 HR.out
 simp only [Nat.zero_add] at z1 z2 z3 z4 z5 z6 z7 z8 z9 z10
 have zf := HR.out.frozen
 go_wp2_with fail
 have HF : Box (Blk (put11 w2 w.heap.size (.int .i64 d.kind) (.int .i64 d.fn) (.int .i64 d.win) (.int .i64 d.off) (.int .i64 d.k) (.int .i64 d.num) (.int .i64 d.den) (.string d.name) (.slice A1 d.ms.length n1) (.slice A2 d.bys.length n2) (.slice A3 ks.length n3)) w.heap.size 33 (ndC d (.slice A1 d.ms.length n1) (.slice A2 d.bys.length n2) (.slice A3 ks.length n3))) := ⟨put11_blk HR.out⟩
 have HA : Box (Below w.heap.size w (put11 w2 w.heap.size (.int .i64 d.kind) (.int .i64 d.fn) (.int .i64 d.win) (.int .i64 d.off) (.int .i64 d.k) (.int .i64 d.num) (.int .i64 d.den) (.string d.name) (.slice A1 d.ms.length n1) (.slice A2 d.bys.length n2) (.slice A3 ks.length n3)) ∧ TreeF (put11 w2 w.heap.size (.int .i64 d.kind) (.int .i64 d.fn) (.int .i64 d.win) (.int .i64 d.off) (.int .i64 d.k) (.int .i64 d.num) (.int .i64 d.den) (.string d.name) (.slice A1 d.ms.length n1) (.slice A2 d.bys.length n2) (.slice A3 ks.length n3)) (w.heap.size + 1) (.node d ks) (.slice A1 d.ms.length n1, .slice A2 d.bys.length n2, .slice A3 ks.length n3)) := ⟨HO.out.trans (put11_below (Nat.le_refl _) ..), HT.out.far (put11_only ..) (by omega)⟩
 show bodyPost _ _ _ _ _ (put11 w2 w.heap.size (.int .i64 d.kind) (.int .i64 d.fn) (.int .i64 d.win) (.int .i64 d.off) (.int .i64 d.k) (.int .i64 d.num) (.int .i64 d.den) (.string d.name) (.slice A1 d.ms.length n1) (.slice A2 d.bys.length n2) (.slice A3 ks.length n3))
 generalize (put11 w2 w.heap.size (.int .i64 d.kind) (.int .i64 d.fn) (.int .i64 d.win) (.int .i64 d.off) (.int .i64 d.k) (.int .i64 d.num) (.int .i64 d.den) (.string d.name) (.slice A1 d.ms.length n1) (.slice A2 d.bys.length n2) (.slice A3 ks.length n3)) = WF at HF HA ⊢
 clear HR HT HO z0 z1 z2 z3 z4 z5 z6 z7 z8 z9 z10 zf
 obtain ⟨e0, e1, e2, e3, e4, e5, e6, e7, e8, e9, e10⟩ := blk11 HF.out
 simp only [Nat.zero_add] at e1 e2 e3 e4 e5 e6 e7 e8 e9 e10
 have ef := HF.out.frozen
 refine bodyPost_ret (v := .agg (ndC d (.slice A1 d.ms.length n1) (.slice A2 d.bys.length n2) (.slice A3 ks.length n3))) (by simp [results, Tryz.results7, go_sem, e0, e1, e2, e3, e4, e5, e6, e7, e8, e9, e10, ef]) rfl ?_
 obtain ⟨y1, y2, y3⟩ := HD.out
 exact ⟨.node d ks, (.slice A1 d.ms.length n1, .slice A2 d.bys.length n2, .slice A3 ks.length n3), rfl, HA.out.2.lower (by omega), y1, y2, y3, HA.out.1⟩
end
section
open Go.RowKit FracM
end
section
open Go.RowKit FracM
end
section
open Go.RowKit FracM
end
section
open Go.RowKit FracM
end
section
open Go.RowKit FracM
end
section
open Go.RowKit FracM
theorem blk11z {W : World} {g : Nat} {t : TypeId} {d : Nd} {mv bv kv : Value} (h : Blk W g t (ndC d mv bv kv)) : W.cell? ⟨g, 0, none⟩ = some (.int .i64 d.kind) ∧ W.cell? ⟨g, 1, none⟩ = some (.int .i64 d.fn) ∧ W.cell? ⟨g, 2, none⟩ = some (.int .i64 d.win) ∧ W.cell? ⟨g, 3, none⟩ = some (.int .i64 d.off) ∧ W.cell? ⟨g, 4, none⟩ = some (.int .i64 d.k) ∧ W.cell? ⟨g, 5, none⟩ = some (.int .i64 d.num) ∧ W.cell? ⟨g, 6, none⟩ = some (.int .i64 d.den) ∧ W.cell? ⟨g, 7, none⟩ = some (.string d.name) ∧ W.cell? ⟨g, 8, none⟩ = some mv ∧ W.cell? ⟨g, 9, none⟩ = some bv ∧ W.cell? ⟨g, 10, none⟩ = some kv := by
 unfold Blk at h
 refine ⟨?_, ?_, ?_, ?_, ?_, ?_, ?_, ?_, ?_, ?_, ?_⟩ <;> simp [World.cell?, h]
end
section
open Go.RowKit FracM
theorem nds_pos (t : Tree) : 1 ≤ nds t := by cases t; rw [nds]; omega
theorem ndsL_drop (ks : List Tree) (k : Nat) (x : Tree) (hx : ks[k]? = some x) : ndsL (ks.drop k) = nds x + ndsL (ks.drop (k + 1)) := by
 obtain ⟨h1, h2⟩ := List.getElem?_eq_some_iff.1 hx
 rw [List.drop_eq_getElem_cons h1, h2, ndsL]
theorem nds_mem {ks : List Tree} {x : Tree} (hx : x ∈ ks) : nds x ≤ ndsL ks := by
 induction ks with
 | nil => simp at hx
 | cons t ts ih =>
  rw [ndsL]
  rcases List.mem_cons.1 hx with e | e
  ·subst e; omega
  ·have := ih e; omega
set_option maxHeartbeats 2000000 in
set_option maxRecDepth 100000 in
theorem nodes_any : ∀ t, ∀ (P : Nat → Nat → Prop) (w : World) (s : Sl), TreeAt w P t s → nds t ≤ 1000000 → Calls Tryz.prog 49 #[.agg (ndC t.d s.1 s.2.1 s.2.2)] w (RetB (.int .i64 (nds t)) w) := by
 refine Tree.ind ?_
 intro d ks ih P w ⟨mv, bv, kv⟩ hT hn
 have IH := Box.mk ih
 have HN := Lib.hid (N1.start hT)
 obtain ⟨A1, n1, hmv, l1⟩ := hT.nod.ms.form
 obtain ⟨A2, n2, hbv, l2⟩ := hT.nod.bys.form
 obtain ⟨A3, n3, hkv, l3⟩ := hT.nod.kform
 subst hmv hbv hkv
 rw [nds] at hn ⊢
 obtain ⟨N, hN⟩ : ∃ N, N = ndsL ks := ⟨_, rfl⟩
 rw [← hN] at hn ⊢
 have HNN := Box.mk hN
 clear hT ih hN
 simp only [Tree.d]
 go_enter Tryz.func49, Tryz.ntmps49
 go_upto_region 1 with (fail)
 generalize w.alloc (.cells (ndC d _ _ _) 33) = W at HN ⊢
 go_wp2_with fail
 go_loopw [3, 4] (fun n v wr => ∃ k m : Nat, k ≤ ks.length ∧ v = .int .i64 (k : Nat) ∧ n = .int .i64 (m : Nat) ∧ m + ndsL (ks.drop k) = N + 1 ∧ N1 w wr P d ks (.slice A1 d.ms.length n1) (.slice A2 d.bys.length n2) (.slice A3 ks.length n3)) (fun _ v _ => ks.length - (intOf v).toNat)
 case atStart => exact ⟨0, 1, by omega, rfl, rfl, by rw [List.drop_zero, ← HNN.out]; omega, HN.out⟩
 case round =>
  clear HN
  obtain ⟨k, m, hk, rfl, rfl, hm, hN⟩ := hrel
  have HN := Lib.hid hN; clear hN
  have c10 := (blk11z HN.out.blk).2.2.2.2.2.2.2.2.2.2
  by_cases hlt : k < ks.length
  ·obtain ⟨x, hx⟩ : ∃ x, ks[k]? = some x := ⟨ks[k], List.getElem?_eq_getElem _⟩
   obtain ⟨e, es⟩ := x
   obtain ⟨b, off, mv', bv', kv', rfl, hb, hpb, ⟨k0, k1, k2, k3, k4, k5, k6, k7, k8, k9, k10⟩, hT'⟩ := HN.out.nod.kid k e es hx
   obtain ⟨B1, m1, rfl, -⟩ := hT'.nod.ms.form
   obtain ⟨B2, m2, rfl, -⟩ := hT'.nod.bys.form
   obtain ⟨B3, m3, rfl, -⟩ := hT'.nod.kform
   have HT' := Box.mk hT'
   have HX := Box.mk hx
   have hlt2 : (k : Int) < (ks.length : Int) := by omega
   have hstep := ndsL_drop ks k _ hx
   have hle := nds_mem (List.mem_of_getElem? hx)
   rw [← HNN.out] at hle
   have HM := Box.mk (And.intro hm hstep)
   have hq : nds (.node e es) ≤ 1000000 := by omega
   have hm2 : m + nds (.node e es) ≤ 1000001 := by omega
   clear hT' hx hm hstep hle
   go_wp2_with fail
   refine (IH.out (.node e es) (List.mem_of_getElem? HX.out) P _ (.slice B1 e.ms.length m1, .slice B2 e.bys.length m2, .slice B3 es.length m3) HT'.out hq).mono ?_
   rintro e1 w1 ⟨rfl, hb1⟩
   have HN2 := Lib.hid (HN.out.next hb1)
   generalize nds (.node e es) = q at hq hm2 HM ⊢
   clear HN hb1 k0 k1 k2 k3 k4 k5 k6 k7 k8 k9 k10 c10
   go_wp2_with fail
   go_roundw
   case rel => exact ⟨k + 1, m + q, by omega, by go_num, by go_num, by have := HM.out; omega, HN2.out⟩
   case measure => simp [intOf]; omega
  ·have hlt2 : ¬ (k : Int) < (ks.length : Int) := by omega
   rw [List.drop_eq_nil_of_le (by omega), ndsL] at hm
   go_wp2_with fail
   go_ret
   exact ⟨ret_int (by omega), HN.out.below⟩
theorem depL_drop (ks : List Tree) (k : Nat) (x : Tree) (hx : ks[k]? = some x) : depL (ks.drop k) = max (dep x) (depL (ks.drop (k + 1))) := by
 obtain ⟨h1, h2⟩ := List.getElem?_eq_some_iff.1 hx
 rw [List.drop_eq_getElem_cons h1, h2, depL]
theorem dep_mem {ks : List Tree} {x : Tree} (hx : x ∈ ks) : dep x ≤ depL ks := by
 induction ks with
 | nil => simp at hx
 | cons t ts ih =>
  rw [depL]
  rcases List.mem_cons.1 hx with e | e
  ·subst e; omega
  ·have := ih e; omega
set_option maxHeartbeats 2000000 in
set_option maxRecDepth 100000 in
theorem depth_any : ∀ t, ∀ (P : Nat → Nat → Prop) (w : World) (s : Sl), TreeAt w P t s → dep t ≤ 1000000 → Calls Tryz.prog 48 #[.agg (ndC t.d s.1 s.2.1 s.2.2)] w (RetB (.int .i64 (dep t)) w) := by
 refine Tree.ind ?_
 intro d ks ih P w ⟨mv, bv, kv⟩ hT hn
 have IH := Box.mk ih
 have HN := Lib.hid (N1.start hT)
 obtain ⟨A1, n1, hmv, l1⟩ := hT.nod.ms.form
 obtain ⟨A2, n2, hbv, l2⟩ := hT.nod.bys.form
 obtain ⟨A3, n3, hkv, l3⟩ := hT.nod.kform
 subst hmv hbv hkv
 rw [dep] at hn ⊢
 obtain ⟨N, hN⟩ : ∃ N, N = depL ks := ⟨_, rfl⟩
 rw [← hN] at hn ⊢
 have HNN := Box.mk hN
 clear hT ih hN
 simp only [Tree.d]
 go_enter Tryz.func48, Tryz.ntmps48
 go_upto_region 1 with (fail)
 generalize w.alloc (.cells (ndC d _ _ _) 33) = W at HN ⊢
 go_wp2_with fail
 go_loopw [3, 4] (fun n v wr => ∃ k m : Nat, k ≤ ks.length ∧ v = .int .i64 (k : Nat) ∧ n = .int .i64 (m : Nat) ∧ max m (depL (ks.drop k)) = N ∧ N1 w wr P d ks (.slice A1 d.ms.length n1) (.slice A2 d.bys.length n2) (.slice A3 ks.length n3)) (fun _ v _ => ks.length - (intOf v).toNat)
 case atStart => exact ⟨0, 0, by omega, rfl, rfl, by rw [List.drop_zero, ← HNN.out]; omega, HN.out⟩
 case round =>
  clear HN
  obtain ⟨k, m, hk, rfl, rfl, hm, hN⟩ := hrel
  have HN := Lib.hid hN; clear hN
  have c10 := (blk11z HN.out.blk).2.2.2.2.2.2.2.2.2.2
  by_cases hlt : k < ks.length
  ·obtain ⟨x, hx⟩ : ∃ x, ks[k]? = some x := ⟨ks[k], List.getElem?_eq_getElem _⟩
   obtain ⟨e, es⟩ := x
   obtain ⟨b, off, mv', bv', kv', rfl, hb, hpb, ⟨k0, k1, k2, k3, k4, k5, k6, k7, k8, k9, k10⟩, hT'⟩ := HN.out.nod.kid k e es hx
   obtain ⟨B1, m1, rfl, -⟩ := hT'.nod.ms.form
   obtain ⟨B2, m2, rfl, -⟩ := hT'.nod.bys.form
   obtain ⟨B3, m3, rfl, -⟩ := hT'.nod.kform
   have HT' := Box.mk hT'
   have HX := Box.mk hx
   have hlt2 : (k : Int) < (ks.length : Int) := by omega
   have hstep := depL_drop ks k _ hx
   have hle := dep_mem (List.mem_of_getElem? hx)
   rw [← HNN.out] at hle
   have HM := Box.mk (And.intro hm hstep)
   have hq : dep (.node e es) ≤ 1000000 := by omega
   have hm2 : m ≤ 1000001 := by omega
   clear hT' hx hm hstep hle
   go_wp2_with fail
   refine (IH.out (.node e es) (List.mem_of_getElem? HX.out) P _ (.slice B1 e.ms.length m1, .slice B2 e.bys.length m2, .slice B3 es.length m3) HT'.out hq).mono ?_
   rintro e1 w1 ⟨rfl, hb1⟩
   have HN2 := Lib.hid (HN.out.next hb1)
   generalize dep (.node e es) = q at hq hm2 HM ⊢
   clear HN hb1 k0 k1 k2 k3 k4 k5 k6 k7 k8 k9 k10 c10
   rcases Nat.le_total q m with hqm | hqm
   ·have hqm2 : (q : Int) ≤ (m : Int) := by omega
    have hmx : max (m : Int) (q : Int) = (m : Int) := by omega
    go_wp2_with fail
    all_goals
     go_roundw
     case rel => exact ⟨k + 1, m, by omega, by go_num, by first | rfl | (congr 1; omega), by have := HM.out; omega, HN2.out⟩
     case measure => simp [intOf]; omega
   ·have hqm2 : (m : Int) ≤ (q : Int) := by omega
    have hmx : max (m : Int) (q : Int) = (q : Int) := by omega
    go_wp2_with fail
    all_goals
     go_roundw
     case rel => exact ⟨k + 1, q, by omega, by go_num, by first | rfl | (congr 1; omega), by have := HM.out; omega, HN2.out⟩
     case measure => simp [intOf]; omega
  ·have hlt2 : ¬ (k : Int) < (ks.length : Int) := by omega
   rw [List.drop_eq_nil_of_le (by omega), depL] at hm
   go_wp2_with fail
   go_ret
   exact ⟨ret_int (by omega), HN.out.below⟩
end
end Go.Proofs.YtkdojgkiclndfaaGreatDoor
