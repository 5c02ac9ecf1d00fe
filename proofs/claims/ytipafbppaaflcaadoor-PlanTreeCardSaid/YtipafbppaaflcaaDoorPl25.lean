/- Contracts, packed: Kt Sh Rh St. -/
import Derived.Test.YtipafbppaaflcaaDoorPl17
import Derived.Test.YtipafbppaaflcaaDoorPl20
import Derived.Test.YtipafbppaaflcaaDoorPl21
import Derived.Test.YtipafbppaaflcaaDoorPl22
import Derived.Test.YtipafbppaaflcaaDoorPl24
import Derived.DataShut
import Derived.OpenShut
import Derived.Deep.Slices
import Derived.Deep.Fields
set_option linter.unusedVariables false
set_option linter.unusedSimpArgs false
namespace Go.Proofs.YtipafbppaaflcaaDoor
section
open Go.RowKit FracM
theorem PS.low {w w' : World} {g B : Nat} {en : Int} {ts : List Tok} (h : PS w g en ts) (hb : Below B w w') (hg : g < B) : PS w' g en ts := by
 obtain ⟨v, h1, h2⟩ := h.mem
 exact ⟨⟨v, (hb.block g hg).trans h1, h2.keep (Agree.of_lt hb (fun b _ hx => by omega))⟩, h.ok, h.en0⟩
theorem WordsAt.low {w w' : World} {g B : Nat} {l : List (List UInt8)} (h : WordsAt w g l) (hb : Below B w w') (hg : g < B) : WordsAt w' g l := ⟨Nat.lt_of_lt_of_le h.1 hb.size, fun k x hx => (World.cell?_of_block (a := ⟨g, k, none⟩) (hb.block g hg)).trans (h.2 k x hx)⟩
theorem WordsP.lows {w w' : World} {q B : Nat} (h : WordsP w q) (hb : Below B w w') (hq : q ≤ B) : WordsP w' q :=
 ⟨h.grp.low hb (Nat.lt_of_lt_of_le h.far.1 hq), h.fn.low hb (Nat.lt_of_lt_of_le h.far.2.1 hq), h.mat.low hb (Nat.lt_of_lt_of_le h.far.2.2.1 hq), h.opr.low hb (Nat.lt_of_lt_of_le h.far.2.2.2 hq), h.far⟩
/-- a function that makes a node: the result's block, then the node's -/
structure E2 (g : Nat) (en : Int) (w W : World) (ts : List Tok) (d : Nd) (mv bv kv : Value) : Prop where
 ps : PS W g en ts
 only : Only g w W
 z : Blk W w.heap.size 29 zeroC
 e : Blk W (w.heap.size + 1) 29 (ndC d mv bv kv)
 g0 : g < w.heap.size
 wp : WordsP W g
section
variable {g : Nat} {en : Int} {w W W' : World} {ts us : List Tok} {d d' : Nd} {mv bv kv mv' bv' kv' : Value}
theorem E2.start (h : PS w g en ts) (hw : WordsP w g) : E2 g en w ((w.alloc (.cells zeroC 29)).alloc (.cells (ndC d mv bv kv) 29)) ts d mv bv kv :=
 ⟨h.below (bel2 _ _ _), Only.of_below (bel2 _ _ _), (Blk.new _ _ _).alloc _, Blk.newAt _ _ (by simp), h.lt, hw.below (bel2 _ _ _)⟩
theorem E2.step (h : E2 g en w W ts d mv bv kv) (ho : Only g W W') (hp : PS W' g en us) : E2 g en w W' us d mv bv kv :=
 ⟨hp, h.only.trans ho, ho.blk h.z (by have := h.g0; omega), ho.blk h.e (by have := h.g0; omega), h.g0, h.wp.only ho h.wp.far⟩
theorem E2.next (h : E2 g en w W ts d mv bv kv) (hb : Below W.heap.size W W') : E2 g en w W' ts d mv bv kv := h.step (Only.of_below hb) (h.ps.below hb)
theorem E2.drew (h : E2 g en w W ts d mv bv kv) : E2 g en w W.drew ts d mv bv kv := h.next (below_drewN _ 1)
theorem E2.low (h : E2 g en w W ts d mv bv kv) (hb : Below (w.heap.size + 2) W W') : E2 g en w W' ts d mv bv kv := by
 have hg := h.g0
 have hs := h.only.size
 refine ⟨h.ps.low hb (by omega), ⟨hb.os.trans h.only.os, hb.tape.trans h.only.tape, hb.output.trans h.only.output, Nat.le_trans h.only.size hb.size, fun k hk hn => (hb.block k (by omega)).trans (h.only.block k hk hn)⟩, (hb.block _ (by omega)).trans h.z, (hb.block _ (by omega)).trans h.e, hg, h.wp.lows hb (by omega)⟩
theorem E2.put (h : E2 g en w W ts d mv bv kv) (i : Nat) (u : Value) (hd : (ndC d mv bv kv).setIfInBounds i u = ndC d' mv' bv' kv') : E2 g en w (W.setCell ⟨w.heap.size + 1, i, none⟩ u) ts d' mv' bv' kv' := by
 have hg := h.g0
 exact ⟨h.ps.only (h := w.heap.size + 1) (Only.setCell i u) (by omega), only_new h.only (by omega) i u, h.z.far (p := ⟨w.heap.size + 1, i, none⟩) (by simp only; omega) u, hd ▸ h.e.set i u, hg, h.wp.only (Only.setCell i u) (h.wp.far.le (by omega))⟩
theorem E2.c (h : E2 g en w W ts d mv bv kv) : At11 W (w.heap.size + 1) 0 d mv bv kv := blk11 h.e
theorem E2.fn (h : E2 g en w W ts d mv bv kv) : FnS g en (w.heap.size + 1) W W ts d mv bv kv := ⟨h.ps, Only2.refl _ _ _, h.e, by have := h.g0; omega, h.wp⟩
theorem E2.of_fn (h : E2 g en w W ts d mv bv kv) (f : FnS g en (w.heap.size + 1) W W' us d' mv' bv' kv') : E2 g en w W' us d' mv' bv' kv' := by
 have hg := h.g0
 have hz := h.z.lt
 have hs := h.only.size
 exact ⟨f.ps, f.only.only h.only (by omega), (f.only.block _ hz (by omega) (by omega)).trans h.z, f.blk, hg, f.wp⟩
end
/-- a tree is returned -/
def VTree (B : Nat) (t : Tree) (e : Ending) (w' : World) : Prop := ∃ mv bv kv, e = .returned (.agg (ndC t.d mv bv kv)) ∧ TreeAt w' (fun b _ => B ≤ b) t (mv, bv, kv)
theorem Only.grown {g : Nat} {w w' : World} {row : Option Nat} (h : w.grownBy w' row) (B : Nat) (hr : ∀ k, row = some k → B ≤ k) (hB : B ≤ w.heap.size) : Below B w w' :=
 ⟨h.os, h.tape, h.output, h.size, fun k hk => h.block k (by omega) (fun e => by have := hr k e.symm; omega)⟩
end
section
open Go.RowKit FracM
theorem shaped_k {d : Nd} {n : Nat} (h : shapedB d n = true) (h1 : d.kind ≠ 1) (h2 : d.kind ≠ 2) : d.k = 0 := by
 rcases shape_cases h with ⟨k1, k2⟩ | ⟨k1, k2, k3, k4⟩ | ⟨k1, k2, k3, k4⟩ | ⟨k1, k2, k3, k4⟩
 ·unfold shapedB at h
  rw [if_pos k1] at h
  simp at h
  omega
 ·omega
 ·omega
 ·unfold shapedB at h
  rw [if_neg (by omega), if_neg (by omega), if_neg (by omega), if_pos k1] at h
  simp at h
  omega
set_option maxHeartbeats 2000000 in
set_option maxRecDepth 100000 in
theorem rcheck_any : ∀ t, ∀ (P : Nat → Nat → Prop) (w : World) (s : Sl), TreeAt w P t s → Calls Tryd.prog 66 #[.agg (ndC t.d s.1 s.2.1 s.2.2)] w (RetB (.int .i64 (chk t)) w) := by
 refine Tree.ind ?_
 intro d ks ih P w ⟨mv, bv, kv⟩ hT
 have IH := Box.mk ih
 have HN := Lib.hid (N1.start hT)
 obtain ⟨A1, n1, hmv, l1⟩ := hT.nod.ms.form
 obtain ⟨A2, n2, hbv, l2⟩ := hT.nod.bys.form
 obtain ⟨A3, n3, hkv, l3⟩ := hT.nod.kform
 subst hmv hbv hkv
 obtain ⟨fin, hfin⟩ : ∃ z, chk (.node d ks) = z := ⟨_, rfl⟩
 rw [hfin]
 rw [chk] at hfin
 have HF := Box.mk hfin
 clear hT ih hfin
 simp only [Tree.d]
 go_enter Tryd.func66, Tryd.ntmps66
 go_upto_region 1 with (fail)
 generalize w.alloc (.cells (ndC d _ _ _) 29) = W at HN ⊢
 obtain ⟨c0, c1, c2, c3, c4, c5, c6, c7, c8, c9, c10⟩ := HN.out.c
 simp only [Nat.zero_add] at c1 c2 c3 c4 c5 c6 c7 c8 c9 c10
 go_wp2_with fail
 refine (rshaped_any d ks P _ _ _ _ HN.out.nod.tree).mono ?_
 rintro e w1 ⟨rfl, hb⟩
 clear c0 c1 c2 c3 c4 c5 c6 c7 c8 c9 c10
 have HN2 := Lib.hid (HN.out.next hb); clear HN hb
 obtain ⟨c0, c1, c2, c3, c4, c5, c6, c7, c8, c9, c10⟩ := HN2.out.c
 simp only [Nat.zero_add] at c1 c2 c3 c4 c5 c6 c7 c8 c9 c10
 obtain ⟨sb, E1⟩ : ∃ z, Box (shapedB d ks.length = z) := ⟨_, ⟨rfl⟩⟩
 rw [E1.out]
 cases sb
 ·go_wp2_with fail
  go_ret
  exact ⟨ret_int (by rw [← HF.out]; unfold chk1; rw [E1.out]; rfl), HN2.out.below⟩
 go_wp2_with fail
 refine (rnamed_any d ks P _ _ _ _ HN2.out.nod.tree).mono ?_
 rintro e w2 ⟨rfl, hb⟩
 clear c0 c1 c2 c3 c4 c5 c6 c7 c8 c9 c10
 have HN := Lib.hid (HN2.out.next hb); clear HN2 hb
 obtain ⟨c0, c1, c2, c3, c4, c5, c6, c7, c8, c9, c10⟩ := HN.out.c
 simp only [Nat.zero_add] at c1 c2 c3 c4 c5 c6 c7 c8 c9 c10
 obtain ⟨nb, E2⟩ : ∃ z, Box (namedB d = z) := ⟨_, ⟨rfl⟩⟩
 rw [E2.out]
 cases nb
 ·go_wp2_with fail
  go_ret
  exact ⟨ret_int (by rw [← HF.out]; unfold chk1; rw [E1.out, E2.out]; rfl), HN.out.below⟩
 by_cases hbig : 8 < d.ms.length ∨ 8 < d.bys.length
 ·have E3 : Box (chk1 d ks.length = 4) := ⟨by unfold chk1; rw [E1.out, E2.out, if_pos hbig]; rfl⟩
  by_cases hb1 : 8 < d.ms.length
  ·go_wp2_with fail
   go_ret
   exact ⟨ret_int (by rw [← HF.out, E3.out]; rfl), HN.out.below⟩
  ·have hb2 : 8 < d.bys.length := by omega
   go_wp2_with fail
   go_ret
   exact ⟨ret_int (by rw [← HF.out, E3.out]; rfl), HN.out.below⟩
 have hb1 : ¬ 8 < d.ms.length := by omega
 have hb2 : ¬ 8 < d.bys.length := by omega
 have HBG := Box.mk hbig
 clear hbig
 go_wp2_with fail
 refine (rwithin_any d ks P _ _ _ _ HN.out.nod.tree ⟨(shaped_kind E1.out).1, (shaped_kind E1.out).2.1⟩ (shaped_k E1.out)).mono ?_
 rintro e w3 ⟨rfl, hb⟩
 clear c0 c1 c2 c3 c4 c5 c6 c7 c8 c9 c10
 have HN2 := Lib.hid (HN.out.next hb); clear HN hb
 obtain ⟨rb, E3⟩ : ∃ z, Box (rangedB d = z) := ⟨_, ⟨rfl⟩⟩
 rw [E3.out]
 cases rb
 ·go_wp2_with fail
  go_ret
  exact ⟨ret_int (by rw [← HF.out]; unfold chk1; rw [E1.out, E2.out, E3.out, if_neg HBG.out]; rfl), HN2.out.below⟩
 have HF2 : Box (chkL ks = fin) := ⟨by rw [← HF.out]; unfold chk1; rw [E1.out, E2.out, E3.out, if_neg HBG.out]; rfl⟩
 clear E1 E2 E3 HBG HF hb1 hb2
 go_wp2_with fail
 go_loopw [3] (fun v wr => ∃ k : Nat, k ≤ ks.length ∧ v = .int .i64 (k : Nat) ∧ N1 w wr P d ks (.slice A1 d.ms.length n1) (.slice A2 d.bys.length n2) (.slice A3 ks.length n3) ∧ Box (chkL (ks.drop k) = fin)) (fun v _ => ks.length - (intOf v).toNat)
 case atStart => exact ⟨0, by omega, rfl, HN2.out, HF2⟩
 case round =>
  clear HN2 HF2
  obtain ⟨k, hk, rfl, hN, HA⟩ := hrel
  have HN := Lib.hid hN; clear hN
  have c10 := (blk11z HN.out.blk).2.2.2.2.2.2.2.2.2.2
  by_cases hlt : k < ks.length
  ·obtain ⟨x, hx⟩ : ∃ x, ks[k]? = some x := ⟨ks[k], List.getElem?_eq_getElem _⟩
   obtain ⟨e, es⟩ := x
   obtain ⟨b, off, mv', bv', kv', rfl, hb, hpb, ⟨k0, k1, k2, k3, k4, k5, k6, k7, k8, k9, k10⟩, hT'⟩ := HN.out.nod.kid k e es hx
   obtain ⟨B1, m1, rfl, -⟩ := hT'.nod.ms.form
   obtain ⟨B2, m2, rfl, -⟩ := hT'.nod.bys.form
   obtain ⟨B3, m3, rfl, -⟩ := hT'.nod.kform
   have HT' := Box.mk hT'
   have HX := Box.mk hx
   have hlt2 : (k : Int) < (ks.length : Int) := by omega
   have HD : Box (ks.drop k = .node e es :: ks.drop (k + 1)) := ⟨by
    rw [List.drop_eq_getElem_cons hlt, (List.getElem?_eq_some_iff.1 hx).2]⟩
   clear hT' hx
   go_wp2_with fail
   refine (IH.out (.node e es) (List.mem_of_getElem? HX.out) P _ (.slice B1 e.ms.length m1, .slice B2 e.bys.length m2, .slice B3 es.length m3) HT'.out).mono ?_
   rintro e1 w1 ⟨rfl, hb1⟩
   have HN4 := Lib.hid (HN.out.next hb1)
   clear HN hb1 k0 k1 k2 k3 k4 k5 k6 k7 k8 k9 k10 c10
   obtain ⟨q, E1⟩ : ∃ z, Box (chk (.node e es) = z) := ⟨_, ⟨rfl⟩⟩
   rw [E1.out]
   by_cases hq : q = 0
   ·subst hq
    go_wp2_with fail
    go_roundw
    case rel => exact ⟨k + 1, by omega, by go_num, HN4.out, ⟨by rw [← HA.out, HD.out, chkL, if_pos E1.out]⟩⟩
    case measure => simp [intOf]; omega
   ·have hq2 : (q != 0) = true := by simpa using hq
    have hq3 : (q == 0) = false := by simpa using hq
    go_wp2_with fail
    go_ret
    exact ⟨ret_int (by rw [← HA.out, HD.out, chkL, E1.out, if_neg hq]), HN4.out.below⟩
  ·have hlt2 : ¬ (k : Int) < (ks.length : Int) := by omega
   go_wp2_with fail
   go_ret
   exact ⟨ret_int (by rw [← HA.out, List.drop_eq_nil_of_le (by omega), chkL]), HN.out.below⟩
set_option maxHeartbeats 1000000 in
theorem rpvalid_any (t : Tree) (P : Nat → Nat → Prop) (w : World) (s : Sl) (hT : TreeAt w P t s) (hn : nds t ≤ 1000000) (hd : dep t ≤ 1000000) : Calls Tryd.prog 35 #[.agg (ndC t.d s.1 s.2.1 s.2.2)] w (RetB (.int .i64 (validE t)) w) := by
 obtain ⟨d, ks⟩ := t
 obtain ⟨mv, bv, kv⟩ := s
 have HN := Lib.hid (N1.start hT)
 clear hT
 simp only [Tree.d]
 go_enter Tryd.func35, Tryd.ntmps35
 go_upto_region 1 with (fail)
 generalize w.alloc (.cells (ndC d _ _ _) 29) = W at HN ⊢
 obtain ⟨c0, c1, c2, c3, c4, c5, c6, c7, c8, c9, c10⟩ := HN.out.c
 simp only [Nat.zero_add] at c1 c2 c3 c4 c5 c6 c7 c8 c9 c10
 go_wp2_with fail
 refine (depth_any (.node d ks) P _ (mv, bv, kv) HN.out.nod.tree hd).mono ?_
 rintro e w1 ⟨rfl, hb⟩
 clear c0 c1 c2 c3 c4 c5 c6 c7 c8 c9 c10
 have HN2 := Lib.hid (HN.out.next hb); clear HN hb
 obtain ⟨c0, c1, c2, c3, c4, c5, c6, c7, c8, c9, c10⟩ := HN2.out.c
 simp only [Nat.zero_add] at c1 c2 c3 c4 c5 c6 c7 c8 c9 c10
 obtain ⟨q, E1⟩ : ∃ z, Box (dep (.node d ks) = z) := ⟨_, ⟨rfl⟩⟩
 rw [E1.out] at hd ⊢
 by_cases hq : 12 < q
 ·have hq2 : 12 < (q : Int) := by omega
  go_wp2_with fail
  go_ret
  exact ⟨ret_int (by unfold validE fitB; rw [E1.out, decide_eq_false (show ¬ q ≤ 12 by omega)]; simp), HN2.out.below⟩
 have hq2 : ¬ 12 < (q : Int) := by omega
 go_wp2_with fail
 refine (nodes_any (.node d ks) P _ (mv, bv, kv) HN2.out.nod.tree hn).mono ?_
 rintro e w1' ⟨rfl, hb⟩
 clear c0 c1 c2 c3 c4 c5 c6 c7 c8 c9 c10
 have HN := Lib.hid (HN2.out.next hb); clear HN2 hb
 obtain ⟨c0, c1, c2, c3, c4, c5, c6, c7, c8, c9, c10⟩ := HN.out.c
 simp only [Nat.zero_add] at c1 c2 c3 c4 c5 c6 c7 c8 c9 c10
 obtain ⟨p, E2⟩ : ∃ z, Box (nds (.node d ks) = z) := ⟨_, ⟨rfl⟩⟩
 rw [E2.out] at hn ⊢
 by_cases hp : 200 < p
 ·have hp2 : 200 < (p : Int) := by omega
  go_wp2_with fail
  go_ret
  exact ⟨ret_int (by unfold validE fitB; rw [E1.out, E2.out, decide_eq_false (show ¬ p ≤ 200 by omega)]; simp), HN.out.below⟩
 have hp2 : ¬ 200 < (p : Int) := by omega
 go_wp2_with fail
 refine (rcheck_any (.node d ks) P _ (mv, bv, kv) HN.out.nod.tree).mono ?_
 rintro e w2 ⟨rfl, hb⟩
 clear c0 c1 c2 c3 c4 c5 c6 c7 c8 c9 c10
 have HB := Lib.hid (HN.out.next hb).below; clear HN hb
 go_wp2_with fail
 go_ret
 exact ⟨ret_int (by unfold validE fitB; rw [E1.out, E2.out, decide_eq_true (show p ≤ 200 by omega), decide_eq_true (show q ≤ 12 by omega)]; rfl), HB.out⟩
end
section
open Go.RowKit Go.ChangeShapes Go.WideShapes Go.Deep
section
variable {H : Type} {enc : TypeId × Value → H} {W : World} {base : Nat} {spare : Nat → Bool} {held : Bool}
/-- a struct of one-cell fields: each field is a cell -/
theorem field_of {P : Program} {t : TypeId} {fs : Array Field} {fuel : Nat} {cs : List Value} {x : DataW H × List MemPlace} (hs : P.underlying t = some (.struct fs)) (hone : oneCellFields P fs = true) (hC : P.cellsOf t = fs.size)
  (h : DataW.trod enc P W base spare held fuel t cs = some x) : cs.length = fs.size ∧ ∃ n, ∀ (j : Nat) (f : Field), fs[j]? = some f → ∃ v y, cs[j]? = some v ∧ DataW.trod enc P W base spare held n f.type [v] = some y := by
 obtain ⟨xs, n, _, _, hl, hxl, hf⟩ := DataW.trod_struct hs h
 refine ⟨by rw [hl, hC], n, fun j f hj => ?_⟩
 obtain ⟨ho, hk⟩ := hone_of hone j f hj
 have hjl : j < fs.size := (Array.getElem?_eq_some_iff.1 hj).1
 have hcl : j < cs.length := by rw [hl, hC]; exact hjl
 have h1 := hf j f hj
 rw [ho, hk] at h1
 have e : (cs.drop j).take 1 = [cs[j]'hcl] := by rw [List.drop_eq_getElem_cons hcl]; rfl
 rw [e] at h1
 have hys : xs[j]? = some (xs[j]'(by omega)) := List.getElem?_eq_getElem (by omega)
 exact ⟨cs[j], _, List.getElem?_eq_getElem hcl, h1.trans hys⟩
theorem seq_of_cells {a : Addr} {len cap size : Nat} {t : TypeId} {xs : List Value} (hl : len ≤ cap) (hm : cap ≤ maxLen) (hxs : xs.length = len * size) (hs : 0 < size) (hcell : ∀ j u, xs[j]? = some u → W.cell? (a.add j) = some u) :
  Seq W W.heap.size t size (.slice (some a) len cap) len xs := by
 refine ⟨hxs, some a, cap, rfl, hl, hm, fun h0 => ?_⟩
 have hpos : 0 < xs.length := by rw [hxs]; exact Nat.mul_pos h0 hs
 have h1 := hcell 0 xs[0] (List.getElem?_eq_getElem hpos)
 have hsp : a.spot = none := by
  cases hq : a.spot with
  | none => rfl
  | some q =>
   simp only [Addr.add, if_pos, World.cell?] at h1
   split at h1
   ·simp [hq] at h1
   ·cases h1
 obtain ⟨b, off, sp⟩ := a
 simp only at hsp
 subst hsp
 have hadd : ∀ j, (⟨b, off, none⟩ : Addr).add j = ⟨b, off + j, none⟩ := fun j => by unfold Addr.add; split <;> simp_all
 have hb : b < W.heap.size := World.block_lt_of_cell? W ⟨b, off, none⟩ (u := xs[0]) (by simpa [Addr.add] using h1)
 refine ⟨b, off, rfl, ⟨hb, .inl hb⟩, fun j u hu => ?_⟩
 have := hcell j u hu
 rwa [hadd] at this
theorem int_wf {n : Int} (h : (Lit.int .i64 n).wf = true) : I64 n := by
 have : -9223372036854775808 ≤ n ∧ n ≤ 9223372036854775807 := by simpa [Lit.wf, IntKind.min, IntKind.max, IntKind.signed, IntKind.bits] using h
 exact this
instance : Inhabited Lab := ⟨(⟨#[]⟩, ⟨#[]⟩)⟩
end
end
section
open Go.RowKit Go.ChangeShapes Go.WideShapes Go.Deep
section
variable {H : Type} {enc : TypeId × Value → H} {W : World} {base : Nat} {spare : Nat → Bool} {held : Bool}
def MatArg (m : Mat) : Prop := m.1.size ≤ maxLen ∧ I64 m.2.1 ∧ m.2.2.size ≤ maxLen
theorem three_of9 {cs : List Value} (h : cs.length = 3) : ∃ a b c, cs = [a, b, c] := by
 match cs, h with
 | [a, b, c], _ => exact ⟨a, b, c, rfl⟩
theorem mat_of (n : Nat) (cs : List Value) (z : DataW H × List MemPlace) (h : DataW.trod enc Tryd.prog W base spare held n 71 cs = some z) : ∃ y : Mat, cs = matCells y ∧ MatArg y := by
 obtain ⟨hl, m, hf⟩ := field_of Tryd.underlying71 (by kernel_rfl) (by kernel_rfl) h
 obtain ⟨a, b, c, rfl⟩ := three_of9 hl
 obtain ⟨v0, y0, h0, t0⟩ := hf 0 _ rfl
 obtain ⟨v1, y1, h1, t1⟩ := hf 1 _ rfl
 obtain ⟨v2, y2, h2, t2⟩ := hf 2 _ rfl
 cases h0; cases h1; cases h2
 obtain ⟨s0, e0, _, z0⟩ := DataW.trod_string Tryd.underlying9 t0
 obtain ⟨n1, e1, _, z1⟩ := DataW.trod_int Tryd.underlying3 t1
 obtain ⟨s2, e2, _, z2⟩ := DataW.trod_string Tryd.underlying9 t2
 cases e0; cases e1; cases e2
 exact ⟨(s0, n1, s2), rfl, z0, int_wf z1, z2⟩
theorem str_of (n : Nat) (cs : List Value) (z : DataW H × List MemPlace) (h : DataW.trod enc Tryd.prog W base spare held n 9 cs = some z) : ∃ y : ByteArray, cs = [Value.string y] ∧ y.size ≤ maxLen := by
 obtain ⟨s0, e0, _, z0⟩ := DataW.trod_string Tryd.underlying9 h
 exact ⟨s0, e0, z0⟩
theorem rows_lt {α : Type} [Inhabited α] {t e : TypeId} {fuel : Nat} {v : Value} {x : DataW H × List MemPlace} (size : Nat) (cells : α → List Value) (good : α → Prop) (hcl : ∀ y, (cells y).length = size) (hpos : 0 < size) (ht : Tryd.prog.underlying t = some (.slice e)) (hC : Tryd.prog.cellsOf e = size)
  (helem : ∀ (n : Nat), n < fuel → ∀ (cs : List Value) (z : DataW H × List MemPlace), DataW.trod enc Tryd.prog W base spare held n e cs = some z → ∃ y, cs = cells y ∧ good y)
  (h : DataW.trod enc Tryd.prog W base spare held fuel t [v] = some x) : ∃ (A : Option Addr) (n c : Nat) (l : List α), v = .slice A n c ∧ Seq W W.heap.size e size (.slice A n c) l.length (l.flatMap cells) ∧ (∀ y ∈ l, good y) := by
 rcases DataW.trod_slice ht h with ⟨h0, _⟩ | ⟨a, len, cap, elems, rest, n, hfu, hcs, _, _, hl, hm, hle, hi, _, _⟩
 ·simp only [List.cons.injEq, and_true] at h0
  subst h0
  exact ⟨none, 0, 0, [], rfl, Seq.nil _ _ _ _, fun y hy => by simp at hy⟩
 ·simp only [List.cons.injEq, and_true] at hcs
  subst hcs
  have hex : ∀ i : Nat, ∃ y : α, i < len → good y ∧ ∀ j u, (cells y)[j]? = some u → W.cell? (a.add (i * size + j)) = some u := by
   intro i
   by_cases hlt : i < len
   ·have hii := hi i hlt
    rw [List.getElem?_eq_getElem (by omega : i < elems.length), Option.bind_eq_some_iff] at hii
    obtain ⟨cs', hc, htr⟩ := hii
    obtain ⟨y, rfl, hg⟩ := helem n (by omega) _ _ htr
    obtain ⟨_, _, hat⟩ := World.cells?_some hc
    refine ⟨y, fun _ => ⟨hg, fun j u hu => ?_⟩⟩
    have hj : j < size := by
     have := (List.getElem?_eq_some_iff.1 hu).1
     rw [hcl] at this; exact this
    have := hat j (by rw [hC]; exact hj)
    rw [hC, Go.Deep.add_add] at this
    rw [this, hu]
   ·exact ⟨default, fun h => absurd h hlt⟩
  obtain ⟨f, hf⟩ := Classical.axiomOfChoice hex
  refine ⟨some a, len, cap, (List.range len).map f, rfl, ?_, fun y hy => ?_⟩
  ·have hlen : ((List.range len).map f).length = len := by simp
   rw [hlen]
   refine seq_of_cells hl hm ?_ hpos fun j u hu => ?_
   ·rw [flat_len cells size hcl, hlen]
   ·have hj : j < len * size := by
     have := (List.getElem?_eq_some_iff.1 hu).1
     rw [flat_len cells size hcl, hlen] at this; exact this
    have hk : j / size < len := Nat.div_lt_of_lt_mul (by rw [Nat.mul_comm]; exact hj)
    have hr : j % size < size := Nat.mod_lt _ hpos
    have e : j = j / size * size + j % size := by rw [Nat.mul_comm]; exact (Nat.div_add_mod j size).symm
    have hg : ((List.range len).map f)[j / size]? = some (f (j / size)) := by
     rw [List.getElem?_map, List.getElem?_range hk]; rfl
    rw [e, flat_get cells size hcl _ _ _ _ hg hr] at hu
    have := (hf (j / size) hk).2 _ _ hu
    rwa [← e] at this
  ·obtain ⟨i, hir, rfl⟩ := List.mem_map.1 hy
   exact (hf i (List.mem_range.1 hir)).1
theorem strs_map (l : List ByteArray) : l.flatMap (fun s => [Value.string s]) = l.map Value.string := by
 induction l with
 | nil => rfl
 | cons x xs ih => rw [List.flatMap_cons, ih]; rfl
theorem zip_back {α β : Type} (l : List (α × β)) : (l.map Prod.fst).zip (l.map Prod.snd) = l := by
 induction l with
 | nil => rfl
 | cons x xs ih => simp [ih]
instance : Inhabited Mat := ⟨(⟨#[]⟩, 0, ⟨#[]⟩)⟩
instance : Inhabited (Tree × Sl) := ⟨(.node leafN [], .slice none 0 0, .slice none 0 0, .slice none 0 0)⟩
instance : Inhabited ByteArray := ⟨⟨#[]⟩⟩
set_option maxRecDepth 100000 in
set_option maxHeartbeats 2000000 in
theorem tree_of : ∀ (fuel : Nat) (cs : List Value) (z : DataW H × List MemPlace), DataW.trod enc Tryd.prog W base spare held fuel 29 cs = some z → ∃ y : Tree × Sl, cs = ndL y ∧ TreeAt W AnyP y.1 y.2 := by
 intro fuel
 induction fuel using Nat.strongRecOn with
 | _ fuel ih =>
 intro cs z h
 obtain ⟨xs, m, hfu, _, hl, hxl, hf⟩ := DataW.trod_struct Tryd.underlying29 h
 rw [show Tryd.prog.cellsOf 29 = 11 from by kernel_rfl] at hl
 match cs, hl with
 | [c0, c1, c2, c3, c4, c5, c6, c7, c8, c9, c10], _ =>
  have g0 : DataW.trod enc Tryd.prog W base spare held m 3 ((([c0, c1, c2, c3, c4, c5, c6, c7, c8, c9, c10] : List Value).drop 0).take (Tryd.prog.cellsOf 3)) = xs[0]? := hf 0 _ rfl
  rw [show Tryd.prog.cellsOf 3 = 1 from by kernel_rfl] at g0
  obtain ⟨y0, hy0⟩ : ∃ y, xs[0]? = some y := ⟨xs[0]'(by rw [hxl]; decide), List.getElem?_eq_getElem _⟩
  rw [hy0] at g0
  simp only [List.drop_zero, List.drop_succ_cons, List.take_succ_cons, List.take_zero] at g0
  have g1 : DataW.trod enc Tryd.prog W base spare held m 3 ((([c0, c1, c2, c3, c4, c5, c6, c7, c8, c9, c10] : List Value).drop 1).take (Tryd.prog.cellsOf 3)) = xs[1]? := hf 1 _ rfl
  rw [show Tryd.prog.cellsOf 3 = 1 from by kernel_rfl] at g1
  obtain ⟨y1, hy1⟩ : ∃ y, xs[1]? = some y := ⟨xs[1]'(by rw [hxl]; decide), List.getElem?_eq_getElem _⟩
  rw [hy1] at g1
  simp only [List.drop_zero, List.drop_succ_cons, List.take_succ_cons, List.take_zero] at g1
  have g2 : DataW.trod enc Tryd.prog W base spare held m 3 ((([c0, c1, c2, c3, c4, c5, c6, c7, c8, c9, c10] : List Value).drop 2).take (Tryd.prog.cellsOf 3)) = xs[2]? := hf 2 _ rfl
  rw [show Tryd.prog.cellsOf 3 = 1 from by kernel_rfl] at g2
  obtain ⟨y2, hy2⟩ : ∃ y, xs[2]? = some y := ⟨xs[2]'(by rw [hxl]; decide), List.getElem?_eq_getElem _⟩
  rw [hy2] at g2
  simp only [List.drop_zero, List.drop_succ_cons, List.take_succ_cons, List.take_zero] at g2
  have g3 : DataW.trod enc Tryd.prog W base spare held m 3 ((([c0, c1, c2, c3, c4, c5, c6, c7, c8, c9, c10] : List Value).drop 3).take (Tryd.prog.cellsOf 3)) = xs[3]? := hf 3 _ rfl
  rw [show Tryd.prog.cellsOf 3 = 1 from by kernel_rfl] at g3
  obtain ⟨y3, hy3⟩ : ∃ y, xs[3]? = some y := ⟨xs[3]'(by rw [hxl]; decide), List.getElem?_eq_getElem _⟩
  rw [hy3] at g3
  simp only [List.drop_zero, List.drop_succ_cons, List.take_succ_cons, List.take_zero] at g3
  have g4 : DataW.trod enc Tryd.prog W base spare held m 3 ((([c0, c1, c2, c3, c4, c5, c6, c7, c8, c9, c10] : List Value).drop 4).take (Tryd.prog.cellsOf 3)) = xs[4]? := hf 4 _ rfl
  rw [show Tryd.prog.cellsOf 3 = 1 from by kernel_rfl] at g4
  obtain ⟨y4, hy4⟩ : ∃ y, xs[4]? = some y := ⟨xs[4]'(by rw [hxl]; decide), List.getElem?_eq_getElem _⟩
  rw [hy4] at g4
  simp only [List.drop_zero, List.drop_succ_cons, List.take_succ_cons, List.take_zero] at g4
  have g5 : DataW.trod enc Tryd.prog W base spare held m 24 ((([c0, c1, c2, c3, c4, c5, c6, c7, c8, c9, c10] : List Value).drop 5).take (Tryd.prog.cellsOf 24)) = xs[5]? := hf 5 _ rfl
  rw [show Tryd.prog.cellsOf 24 = 2 from by kernel_rfl] at g5
  obtain ⟨y5, hy5⟩ : ∃ y, xs[5]? = some y := ⟨xs[5]'(by rw [hxl]; decide), List.getElem?_eq_getElem _⟩
  rw [hy5] at g5
  simp only [List.drop_zero, List.drop_succ_cons, List.take_succ_cons, List.take_zero] at g5
  have g6 : DataW.trod enc Tryd.prog W base spare held m 9 ((([c0, c1, c2, c3, c4, c5, c6, c7, c8, c9, c10] : List Value).drop 7).take (Tryd.prog.cellsOf 9)) = xs[6]? := hf 6 _ rfl
  rw [show Tryd.prog.cellsOf 9 = 1 from by kernel_rfl] at g6
  obtain ⟨y6, hy6⟩ : ∃ y, xs[6]? = some y := ⟨xs[6]'(by rw [hxl]; decide), List.getElem?_eq_getElem _⟩
  rw [hy6] at g6
  simp only [List.drop_zero, List.drop_succ_cons, List.take_succ_cons, List.take_zero] at g6
  have g7 : DataW.trod enc Tryd.prog W base spare held m 25 ((([c0, c1, c2, c3, c4, c5, c6, c7, c8, c9, c10] : List Value).drop 8).take (Tryd.prog.cellsOf 25)) = xs[7]? := hf 7 _ rfl
  rw [show Tryd.prog.cellsOf 25 = 1 from by kernel_rfl] at g7
  obtain ⟨y7, hy7⟩ : ∃ y, xs[7]? = some y := ⟨xs[7]'(by rw [hxl]; decide), List.getElem?_eq_getElem _⟩
  rw [hy7] at g7
  simp only [List.drop_zero, List.drop_succ_cons, List.take_succ_cons, List.take_zero] at g7
  have g8 : DataW.trod enc Tryd.prog W base spare held m 26 ((([c0, c1, c2, c3, c4, c5, c6, c7, c8, c9, c10] : List Value).drop 9).take (Tryd.prog.cellsOf 26)) = xs[8]? := hf 8 _ rfl
  rw [show Tryd.prog.cellsOf 26 = 1 from by kernel_rfl] at g8
  obtain ⟨y8, hy8⟩ : ∃ y, xs[8]? = some y := ⟨xs[8]'(by rw [hxl]; decide), List.getElem?_eq_getElem _⟩
  rw [hy8] at g8
  simp only [List.drop_zero, List.drop_succ_cons, List.take_succ_cons, List.take_zero] at g8
  have g9 : DataW.trod enc Tryd.prog W base spare held m 27 ((([c0, c1, c2, c3, c4, c5, c6, c7, c8, c9, c10] : List Value).drop 10).take (Tryd.prog.cellsOf 27)) = xs[9]? := hf 9 _ rfl
  rw [show Tryd.prog.cellsOf 27 = 1 from by kernel_rfl] at g9
  obtain ⟨y9, hy9⟩ : ∃ y, xs[9]? = some y := ⟨xs[9]'(by rw [hxl]; decide), List.getElem?_eq_getElem _⟩
  rw [hy9] at g9
  simp only [List.drop_zero, List.drop_succ_cons, List.take_succ_cons, List.take_zero] at g9
  obtain ⟨n0, e0, _, z0⟩ := DataW.trod_int Tryd.underlying3 g0
  cases e0
  obtain ⟨n1, e1, _, z1⟩ := DataW.trod_int Tryd.underlying3 g1
  cases e1
  obtain ⟨n2, e2, _, z2⟩ := DataW.trod_int Tryd.underlying3 g2
  cases e2
  obtain ⟨n3, e3, _, z3⟩ := DataW.trod_int Tryd.underlying3 g3
  cases e3
  obtain ⟨n4, e4, _, z4⟩ := DataW.trod_int Tryd.underlying3 g4
  cases e4
  obtain ⟨hl5, m5, hf5⟩ := field_of Tryd.underlying24 (by kernel_rfl) (by kernel_rfl) g5
  obtain ⟨v5, yy5, h5, t5⟩ := hf5 0 _ rfl
  obtain ⟨v6, yy6, h6, t6⟩ := hf5 1 _ rfl
  cases h5; cases h6
  obtain ⟨n5, e5, _, z5⟩ := DataW.trod_int Tryd.underlying3 t5
  obtain ⟨n6, e6, _, z6⟩ := DataW.trod_int Tryd.underlying3 t6
  cases e5; cases e6
  obtain ⟨s6, es6, _, zs6⟩ := DataW.trod_string Tryd.underlying9 g6
  cases es6
  obtain ⟨A1, k1, p1, ms, rfl, hms, gms⟩ := rows_lt 3 matCells MatArg (fun _ => rfl) (by decide) Tryd.underlying25 (by kernel_rfl) (fun n _ => mat_of n) g7
  obtain ⟨A2, k2, p2, bys, rfl, hbs, gbs⟩ := rows_lt 1 (fun s => [Value.string s]) (fun s => s.size ≤ maxLen) (fun _ => rfl) (by decide) Tryd.underlying26 (by kernel_rfl) (fun n _ => str_of n) g8
  obtain ⟨A3, k3, p3, kl, rfl, hks, gks⟩ := rows_lt 11 ndL (fun y => TreeAt W AnyP y.1 y.2) (fun _ => rfl) (by decide) Tryd.underlying27 (by kernel_rfl) (fun n hn => ih n (by omega)) g9
  refine ⟨(.node ⟨n0, n1, n2, n3, n4, n5, n6, s6, ms, bys⟩ (kl.map Prod.fst), .slice A1 k1 p1, .slice A2 k2 p2, .slice A3 k3 p3), rfl, ?_⟩
  refine .mk _ _ _ _ _ (kl.map Prod.snd) ⟨⟨int_wf z0, int_wf z1, int_wf z2, int_wf z3, int_wf z4, int_wf z5, int_wf z6⟩, zs6, fun x hx => ⟨(gms x hx).1, (gms x hx).2.2⟩, gbs⟩ (SeqP.of_seq hms fun _ _ _ _ _ => trivial) ?_ (by simp) ?_ ?_
  ·have := SeqP.of_seq (P := AnyP) hbs fun _ _ _ _ _ => trivial
   rw [strs_map] at this
   exact this
  ·have := SeqP.of_seq (P := AnyP) hks fun _ _ _ _ _ => trivial
   rw [zip_back, List.length_map]
   exact this
  ·intro i t c h1 h2
   rw [List.getElem?_map] at h1 h2
   cases hk : kl[i]? with
   | none => rw [hk] at h1; cases h1
   | some y =>
    rw [hk] at h1 h2
    cases h1; cases h2
    exact gks y (List.mem_of_getElem? hk)
set_option maxRecDepth 100000 in
theorem open_tree {r : Reach} {b0 : Nat} {v : Value} {d : DataW H} {p : List MemPlace} (hv : Value.okWide Tryd.prog W r b0 29 v) (h : DataW.Trod enc Tryd.prog W base spare held 29 v d p) :
  ∃ (t : Tree) (s : Sl), v = .agg (ndC t.d s.1 s.2.1 s.2.2) ∧ TreeAt W AnyP t s := by
 obtain ⟨cs, rfl, hsz⟩ := okWide_struct Tryd.underlying29 hv
 obtain ⟨fuel, hf⟩ := h
 obtain ⟨⟨t, s⟩, hcs, ht⟩ := tree_of _ _ _ hf
 refine ⟨t, s, ?_, ht⟩
 obtain ⟨l⟩ := cs
 simp only [Value.cells] at hcs
 have : l = (ndC t.d s.1 s.2.1 s.2.2).toList := hcs
 subst this
 rfl
end
end
end Go.Proofs.YtipafbppaaflcaaDoor
