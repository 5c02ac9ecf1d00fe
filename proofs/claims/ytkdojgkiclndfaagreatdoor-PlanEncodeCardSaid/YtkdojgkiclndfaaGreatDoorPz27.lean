/- Contracts, packed: Kt Sh Sp Sm Sl. -/
import Derived.Test.YtkdojgkiclndfaaGreatDoorPz23
import Derived.Test.YtkdojgkiclndfaaGreatDoorPz24
import Derived.Test.YtkdojgkiclndfaaGreatDoorPz25
import Derived.Test.YtkdojgkiclndfaaGreatDoorPz26
import Derived.Deep.CutBlock
set_option linter.unusedVariables false
set_option linter.unusedSimpArgs false
namespace Go.Proofs.YtkdojgkiclndfaaGreatDoor
section
open Go.RowKit FracM
theorem PS.low {w w' : World} {g B : Nat} {en : Int} {ts : List Tok} (h : PS w g en ts) (hb : Below B w w') (hg : g < B) : PS w' g en ts := by
 obtain ⟨v, h1, h2⟩ := h.mem
 exact ⟨⟨v, (hb.block g hg).trans h1, h2.keep (Agree.of_lt hb (fun b _ hx => by omega))⟩, h.ok, h.en0⟩
theorem WordsAt.low {w w' : World} {g B : Nat} {l : List (List UInt8)} (h : WordsAt w g l) (hb : Below B w w') (hg : g < B) : WordsAt w' g l := ⟨Nat.lt_of_lt_of_le h.1 hb.size, fun k x hx => (World.cell?_of_block (a := ⟨g, k, none⟩) (hb.block g hg)).trans (h.2 k x hx)⟩
theorem WordsP.lows {w w' : World} {q B : Nat} (h : WordsP w q) (hb : Below B w w') (hq : q ≤ B) : WordsP w' q :=
 ⟨h.grp.low hb (Nat.lt_of_lt_of_le h.far.1 hq), h.fn.low hb (Nat.lt_of_lt_of_le h.far.2.1 hq), h.mat.low hb (Nat.lt_of_lt_of_le h.far.2.2.1 hq), h.opr.low hb (Nat.lt_of_lt_of_le h.far.2.2.2 hq), h.far⟩
/-- a function that makes a node: the result's block, then the node's -/
structure E2 (g : Nat) (en : Int) (w W : World) (ts : List Tok) (d : Nd) (mv bv kv : Value) : Prop where
 ps : PS W g en ts
 only : Only g w W
 z : Blk W w.heap.size 33 zeroC
 e : Blk W (w.heap.size + 1) 33 (ndC d mv bv kv)
 g0 : g < w.heap.size
 wp : WordsP W g
section
variable {g : Nat} {en : Int} {w W W' : World} {ts us : List Tok} {d d' : Nd} {mv bv kv mv' bv' kv' : Value}
theorem E2.start (h : PS w g en ts) (hw : WordsP w g) : E2 g en w ((w.alloc (.cells zeroC 33)).alloc (.cells (ndC d mv bv kv) 33)) ts d mv bv kv :=
 ⟨h.below (bel2 _ _ _), Only.of_below (bel2 _ _ _), (Blk.new _ _ _).alloc _, Blk.newAt _ _ (by simp), h.lt, hw.below (bel2 _ _ _)⟩
theorem E2.step (h : E2 g en w W ts d mv bv kv) (ho : Only g W W') (hp : PS W' g en us) : E2 g en w W' us d mv bv kv :=
 ⟨hp, h.only.trans ho, ho.blk h.z (by have := h.g0; omega), ho.blk h.e (by have := h.g0; omega), h.g0, h.wp.only ho h.wp.far⟩
theorem E2.next (h : E2 g en w W ts d mv bv kv) (hb : Below W.heap.size W W') : E2 g en w W' ts d mv bv kv := h.step (Only.of_below hb) (h.ps.below hb)
theorem E2.drew (h : E2 g en w W ts d mv bv kv) : E2 g en w W.drew ts d mv bv kv := h.next (below_drewN _ 1)
theorem E2.low (h : E2 g en w W ts d mv bv kv) (hb : Below (w.heap.size + 2) W W') : E2 g en w W' ts d mv bv kv := by
 have hg := h.g0
 have hs := h.only.size
 refine ⟨h.ps.low hb (by omega), ⟨hb.os.trans h.only.os, hb.tape.trans h.only.tape, hb.output.trans h.only.output, Nat.le_trans h.only.size hb.size, fun k hk hn => (hb.block k (by omega)).trans (h.only.block k hk hn)⟩, (hb.block _ (by omega)).trans h.z, (hb.block _ (by omega)).trans h.e, hg, h.wp.lows hb (by omega)⟩
theorem E2.put (h : E2 g en w W ts d mv bv kv) (i : Nat) (u : Value) (hd : (ndC d mv bv kv).setIfInBounds i u = ndC d' mv' bv' kv') : E2 g en w (W.setCell ⟨w.heap.size + 1, i, none⟩ u) ts d' mv' bv' kv' := by
 have hg := h.g0
 exact ⟨h.ps.only (h := w.heap.size + 1) (Only.setCell i u) (by omega), only_new h.only (by omega) i u, h.z.far (p := ⟨w.heap.size + 1, i, none⟩) (by simp only; omega) u, hd ▸ h.e.set i u, hg, h.wp.only (Only.setCell i u) (h.wp.far.le (by omega))⟩
theorem E2.c (h : E2 g en w W ts d mv bv kv) : At11 W (w.heap.size + 1) 0 d mv bv kv := blk11 h.e
theorem E2.fn (h : E2 g en w W ts d mv bv kv) : FnS g en (w.heap.size + 1) W W ts d mv bv kv := ⟨h.ps, Only2.refl _ _ _, h.e, by have := h.g0; omega, h.wp⟩
theorem E2.of_fn (h : E2 g en w W ts d mv bv kv) (f : FnS g en (w.heap.size + 1) W W' us d' mv' bv' kv') : E2 g en w W' us d' mv' bv' kv' := by
 have hg := h.g0
 have hz := h.z.lt
 have hs := h.only.size
 exact ⟨f.ps, f.only.only h.only (by omega), (f.only.block _ hz (by omega) (by omega)).trans h.z, f.blk, hg, f.wp⟩
end
/-- a tree is returned -/
def VTree (B : Nat) (t : Tree) (e : Ending) (w' : World) : Prop := ∃ mv bv kv, e = .returned (.agg (ndC t.d mv bv kv)) ∧ TreeAt w' (fun b _ => B ≤ b) t (mv, bv, kv)
theorem Only.grown {g : Nat} {w w' : World} {row : Option Nat} (h : w.grownBy w' row) (B : Nat) (hr : ∀ k, row = some k → B ≤ k) (hB : B ≤ w.heap.size) : Below B w w' :=
 ⟨h.os, h.tape, h.output, h.size, fun k hk => h.block k (by omega) (fun e => by have := hr k e.symm; omega)⟩
end
section
open Go.RowKit FracM
theorem shaped_k {d : Nd} {n : Nat} (h : shapedB d n = true) (h1 : d.kind ≠ 1) (h2 : d.kind ≠ 2) : d.k = 0 := by
 rcases shape_cases h with ⟨k1, k2⟩ | ⟨k1, k2, k3, k4⟩ | ⟨k1, k2, k3, k4⟩ | ⟨k1, k2, k3, k4⟩
 ·unfold shapedB at h
  rw [if_pos k1] at h
  simp at h
  omega
 ·omega
 ·omega
 ·unfold shapedB at h
  rw [if_neg (by omega), if_neg (by omega), if_neg (by omega), if_pos k1] at h
  simp at h
  omega
set_option maxHeartbeats 2000000 in
set_option maxRecDepth 100000 in
theorem rcheck_any : ∀ t, ∀ (P : Nat → Nat → Prop) (w : World) (s : Sl), TreeAt w P t s → Calls Tryz.prog 50 #[.agg (ndC t.d s.1 s.2.1 s.2.2)] w (RetB (.int .i64 (chk t)) w) := by
 refine Tree.ind ?_
 intro d ks ih P w ⟨mv, bv, kv⟩ hT
 have IH := Box.mk ih
 have HN := Lib.hid (N1.start hT)
 obtain ⟨A1, n1, hmv, l1⟩ := hT.nod.ms.form
 obtain ⟨A2, n2, hbv, l2⟩ := hT.nod.bys.form
 obtain ⟨A3, n3, hkv, l3⟩ := hT.nod.kform
 subst hmv hbv hkv
 obtain ⟨fin, hfin⟩ : ∃ z, chk (.node d ks) = z := ⟨_, rfl⟩
 rw [hfin]
 rw [chk] at hfin
 have HF := Box.mk hfin
 clear hT ih hfin
 simp only [Tree.d]
 go_enter Tryz.func50, Tryz.ntmps50
 go_upto_region 1 with (fail)
 generalize w.alloc (.cells (ndC d _ _ _) 33) = W at HN ⊢
 obtain ⟨c0, c1, c2, c3, c4, c5, c6, c7, c8, c9, c10⟩ := HN.out.c
 simp only [Nat.zero_add] at c1 c2 c3 c4 c5 c6 c7 c8 c9 c10
 go_wp2_with fail
 refine (rshaped_any d ks P _ _ _ _ HN.out.nod.tree).mono ?_
 rintro e w1 ⟨rfl, hb⟩
 clear c0 c1 c2 c3 c4 c5 c6 c7 c8 c9 c10
 have HN2 := Lib.hid (HN.out.next hb); clear HN hb
 obtain ⟨c0, c1, c2, c3, c4, c5, c6, c7, c8, c9, c10⟩ := HN2.out.c
 simp only [Nat.zero_add] at c1 c2 c3 c4 c5 c6 c7 c8 c9 c10
 obtain ⟨sb, E1⟩ : ∃ z, Box (shapedB d ks.length = z) := ⟨_, ⟨rfl⟩⟩
 rw [E1.out]
 cases sb
 ·go_wp2_with fail
  go_ret
  exact ⟨ret_int (by rw [← HF.out]; unfold chk1; rw [E1.out]; rfl), HN2.out.below⟩
 go_wp2_with fail
 refine (rnamed_any d ks P _ _ _ _ HN2.out.nod.tree).mono ?_
 rintro e w2 ⟨rfl, hb⟩
 clear c0 c1 c2 c3 c4 c5 c6 c7 c8 c9 c10
 have HN := Lib.hid (HN2.out.next hb); clear HN2 hb
 obtain ⟨c0, c1, c2, c3, c4, c5, c6, c7, c8, c9, c10⟩ := HN.out.c
 simp only [Nat.zero_add] at c1 c2 c3 c4 c5 c6 c7 c8 c9 c10
 obtain ⟨nb, E2⟩ : ∃ z, Box (namedB d = z) := ⟨_, ⟨rfl⟩⟩
 rw [E2.out]
 cases nb
 ·go_wp2_with fail
  go_ret
  exact ⟨ret_int (by rw [← HF.out]; unfold chk1; rw [E1.out, E2.out]; rfl), HN.out.below⟩
 by_cases hbig : 8 < d.ms.length ∨ 8 < d.bys.length
 ·have E3 : Box (chk1 d ks.length = 4) := ⟨by unfold chk1; rw [E1.out, E2.out, if_pos hbig]; rfl⟩
  by_cases hb1 : 8 < d.ms.length
  ·go_wp2_with fail
   go_ret
   exact ⟨ret_int (by rw [← HF.out, E3.out]; rfl), HN.out.below⟩
  ·have hb2 : 8 < d.bys.length := by omega
   go_wp2_with fail
   go_ret
   exact ⟨ret_int (by rw [← HF.out, E3.out]; rfl), HN.out.below⟩
 have hb1 : ¬ 8 < d.ms.length := by omega
 have hb2 : ¬ 8 < d.bys.length := by omega
 have HBG := Box.mk hbig
 clear hbig
 go_wp2_with fail
 refine (rwithin_any d ks P _ _ _ _ HN.out.nod.tree ⟨(shaped_kind E1.out).1, (shaped_kind E1.out).2.1⟩ (shaped_k E1.out)).mono ?_
 rintro e w3 ⟨rfl, hb⟩
 clear c0 c1 c2 c3 c4 c5 c6 c7 c8 c9 c10
 have HN2 := Lib.hid (HN.out.next hb); clear HN hb
 obtain ⟨rb, E3⟩ : ∃ z, Box (rangedB d = z) := ⟨_, ⟨rfl⟩⟩
 rw [E3.out]
 cases rb
 ·go_wp2_with fail
  go_ret
  exact ⟨ret_int (by rw [← HF.out]; unfold chk1; rw [E1.out, E2.out, E3.out, if_neg HBG.out]; rfl), HN2.out.below⟩
 have HF2 : Box (chkL ks = fin) := ⟨by rw [← HF.out]; unfold chk1; rw [E1.out, E2.out, E3.out, if_neg HBG.out]; rfl⟩
 clear E1 E2 E3 HBG HF hb1 hb2
 go_wp2_with fail
 go_loopw [3] (fun v wr => ∃ k : Nat, k ≤ ks.length ∧ v = .int .i64 (k : Nat) ∧ N1 w wr P d ks (.slice A1 d.ms.length n1) (.slice A2 d.bys.length n2) (.slice A3 ks.length n3) ∧ Box (chkL (ks.drop k) = fin)) (fun v _ => ks.length - (intOf v).toNat)
 case atStart => exact ⟨0, by omega, rfl, HN2.out, HF2⟩
 case round =>
  clear HN2 HF2
  obtain ⟨k, hk, rfl, hN, HA⟩ := hrel
  have HN := Lib.hid hN; clear hN
  have c10 := (blk11z HN.out.blk).2.2.2.2.2.2.2.2.2.2
  by_cases hlt : k < ks.length
  ·obtain ⟨x, hx⟩ : ∃ x, ks[k]? = some x := ⟨ks[k], List.getElem?_eq_getElem _⟩
   obtain ⟨e, es⟩ := x
   obtain ⟨b, off, mv', bv', kv', rfl, hb, hpb, ⟨k0, k1, k2, k3, k4, k5, k6, k7, k8, k9, k10⟩, hT'⟩ := HN.out.nod.kid k e es hx
   obtain ⟨B1, m1, rfl, -⟩ := hT'.nod.ms.form
   obtain ⟨B2, m2, rfl, -⟩ := hT'.nod.bys.form
   obtain ⟨B3, m3, rfl, -⟩ := hT'.nod.kform
   have HT' := Box.mk hT'
   have HX := Box.mk hx
   have hlt2 : (k : Int) < (ks.length : Int) := by omega
   have HD : Box (ks.drop k = .node e es :: ks.drop (k + 1)) := ⟨by
    rw [List.drop_eq_getElem_cons hlt, (List.getElem?_eq_some_iff.1 hx).2]⟩
   clear hT' hx
   go_wp2_with fail
   refine (IH.out (.node e es) (List.mem_of_getElem? HX.out) P _ (.slice B1 e.ms.length m1, .slice B2 e.bys.length m2, .slice B3 es.length m3) HT'.out).mono ?_
   rintro e1 w1 ⟨rfl, hb1⟩
   have HN4 := Lib.hid (HN.out.next hb1)
   clear HN hb1 k0 k1 k2 k3 k4 k5 k6 k7 k8 k9 k10 c10
   obtain ⟨q, E1⟩ : ∃ z, Box (chk (.node e es) = z) := ⟨_, ⟨rfl⟩⟩
   rw [E1.out]
   by_cases hq : q = 0
   ·subst hq
    go_wp2_with fail
    go_roundw
    case rel => exact ⟨k + 1, by omega, by go_num, HN4.out, ⟨by rw [← HA.out, HD.out, chkL, if_pos E1.out]⟩⟩
    case measure => simp [intOf]; omega
   ·have hq2 : (q != 0) = true := by simpa using hq
    have hq3 : (q == 0) = false := by simpa using hq
    go_wp2_with fail
    go_ret
    exact ⟨ret_int (by rw [← HA.out, HD.out, chkL, E1.out, if_neg hq]), HN4.out.below⟩
  ·have hlt2 : ¬ (k : Int) < (ks.length : Int) := by omega
   go_wp2_with fail
   go_ret
   exact ⟨ret_int (by rw [← HA.out, List.drop_eq_nil_of_le (by omega), chkL]), HN.out.below⟩
set_option maxHeartbeats 1000000 in
theorem rpvalid_any (t : Tree) (P : Nat → Nat → Prop) (w : World) (s : Sl) (hT : TreeAt w P t s) (hn : nds t ≤ 1000000) (hd : dep t ≤ 1000000) : Calls Tryz.prog 21 #[.agg (ndC t.d s.1 s.2.1 s.2.2)] w (RetB (.int .i64 (validE t)) w) := by
 obtain ⟨d, ks⟩ := t
 obtain ⟨mv, bv, kv⟩ := s
 have HN := Lib.hid (N1.start hT)
 clear hT
 simp only [Tree.d]
 go_enter Tryz.func21, Tryz.ntmps21
 go_upto_region 1 with (fail)
 generalize w.alloc (.cells (ndC d _ _ _) 33) = W at HN ⊢
 obtain ⟨c0, c1, c2, c3, c4, c5, c6, c7, c8, c9, c10⟩ := HN.out.c
 simp only [Nat.zero_add] at c1 c2 c3 c4 c5 c6 c7 c8 c9 c10
 go_wp2_with fail
 refine (depth_any (.node d ks) P _ (mv, bv, kv) HN.out.nod.tree hd).mono ?_
 rintro e w1 ⟨rfl, hb⟩
 clear c0 c1 c2 c3 c4 c5 c6 c7 c8 c9 c10
 have HN2 := Lib.hid (HN.out.next hb); clear HN hb
 obtain ⟨c0, c1, c2, c3, c4, c5, c6, c7, c8, c9, c10⟩ := HN2.out.c
 simp only [Nat.zero_add] at c1 c2 c3 c4 c5 c6 c7 c8 c9 c10
 obtain ⟨q, E1⟩ : ∃ z, Box (dep (.node d ks) = z) := ⟨_, ⟨rfl⟩⟩
 rw [E1.out] at hd ⊢
 by_cases hq : 12 < q
 ·have hq2 : 12 < (q : Int) := by omega
  go_wp2_with fail
  go_ret
  exact ⟨ret_int (by unfold validE fitB; rw [E1.out, decide_eq_false (show ¬ q ≤ 12 by omega)]; simp), HN2.out.below⟩
 have hq2 : ¬ 12 < (q : Int) := by omega
 go_wp2_with fail
 refine (nodes_any (.node d ks) P _ (mv, bv, kv) HN2.out.nod.tree hn).mono ?_
 rintro e w1' ⟨rfl, hb⟩
 clear c0 c1 c2 c3 c4 c5 c6 c7 c8 c9 c10
 have HN := Lib.hid (HN2.out.next hb); clear HN2 hb
 obtain ⟨c0, c1, c2, c3, c4, c5, c6, c7, c8, c9, c10⟩ := HN.out.c
 simp only [Nat.zero_add] at c1 c2 c3 c4 c5 c6 c7 c8 c9 c10
 obtain ⟨p, E2⟩ : ∃ z, Box (nds (.node d ks) = z) := ⟨_, ⟨rfl⟩⟩
 rw [E2.out] at hn ⊢
 by_cases hp : 200 < p
 ·have hp2 : 200 < (p : Int) := by omega
  go_wp2_with fail
  go_ret
  exact ⟨ret_int (by unfold validE fitB; rw [E1.out, E2.out, decide_eq_false (show ¬ p ≤ 200 by omega)]; simp), HN.out.below⟩
 have hp2 : ¬ 200 < (p : Int) := by omega
 go_wp2_with fail
 refine (rcheck_any (.node d ks) P _ (mv, bv, kv) HN.out.nod.tree).mono ?_
 rintro e w2 ⟨rfl, hb⟩
 clear c0 c1 c2 c3 c4 c5 c6 c7 c8 c9 c10
 have HB := Lib.hid (HN.out.next hb).below; clear HN hb
 go_wp2_with fail
 go_ret
 exact ⟨ret_int (by unfold validE fitB; rw [E1.out, E2.out, decide_eq_true (show p ≤ 200 by omega), decide_eq_true (show q ≤ 12 by omega)]; rfl), HB.out⟩
end
section
open Go.RowKit FracM
theorem nd_one {w : World} {P : Nat → Nat → Prop} {t : Tree} {s : Sl} (h : TreeAt w P t s) : ∀ u ∈ ndL (t, s), u.oneCell' = true := by
 obtain ⟨d, ks⟩ := t
 obtain ⟨mv, bv, kv⟩ := s
 obtain ⟨A1, n1, rfl, -⟩ := h.nod.ms.form
 obtain ⟨A2, n2, rfl, -⟩ := h.nod.bys.form
 obtain ⟨A3, n3, rfl, -⟩ := h.nod.kform
 intro u hu
 simp [ndL, Tree.d] at hu
 rcases hu with rfl | rfl | rfl | rfl | rfl | rfl | rfl | rfl | rfl | rfl | rfl <;> rfl
end
section
open Go.RowKit FracM
end
section
open Go.RowKit FracM
end
end Go.Proofs.YtkdojgkiclndfaaGreatDoor
