/- Contracts, packed: Bt Ac. -/
import Derived.Test.YtpgdijbfkahepaaGreatDoorPd5
import Derived.Test.YtpgdijbfkahepaaGreatDoorPd23
import Derived.Test.YtpgdijbfkahepaaGreatDoorPd25
import Derived.Test.YtpgdijbfkahepaaGreatDoorPd28
import Derived.Test.YtpgdijbfkahepaaGreatDoorPd42
import Derived.Test.YtpgdijbfkahepaaGreatDoorPd47
import Derived.Test.YtpgdijbfkahepaaGreatDoorPd48
set_option linter.unusedVariables false
set_option linter.unusedSimpArgs false
namespace Go.Proofs.YtpgdijbfkahepaaGreatDoor
section
open Go.RowKit FracM
set_option maxHeartbeats 1000000 in
theorem rselectsU_any (d : Nd) (ks : List Tree) (mv bv kv : Value) (x : Dx) (P : Nat → Nat → Prop) (w : World) (hN : Nod w P d ks mv bv kv) (hx : DxOk w P x) :
  Calls Tryz.prog 21 #[.agg (ndC d mv bv kv), .agg (dcC x)] w (RetB (.bool (hitB d x.dc)) w) := by
 obtain ⟨⟨nm, ls, un⟩, lv, o⟩ := x
 obtain ⟨AL, nL, hlv, -⟩ := hx.1.form
 simp only at hlv
 subst hlv
 obtain ⟨A1, n1, hmv, -⟩ := hN.ms.form
 subst hmv
 have hb := bel2 w (.cells (ndC d (.slice A1 d.ms.length n1) bv kv) 35) (.cells (dcC ⟨(nm, ls, un), .slice AL ls.length nL, o⟩) 49)
 have HX := Box.mk (SeqP.keep hx.1 (Agree.of_below hb))
 have HM := Box.mk (hN.keep (Agree.of_below hb))
 have HQ : Box (Blk ((w.alloc (.cells (ndC d (.slice A1 d.ms.length n1) bv kv) 35)).alloc (.cells (dcC ⟨(nm, ls, un), .slice AL ls.length nL, o⟩) 49)) w.heap.size 35 (ndC d (.slice A1 d.ms.length n1) bv kv)) := ⟨(Blk.new _ _ _).alloc _⟩
 have HV : Box (Blk ((w.alloc (.cells (ndC d (.slice A1 d.ms.length n1) bv kv) 35)).alloc (.cells (dcC ⟨(nm, ls, un), .slice AL ls.length nL, o⟩) 49)) (w.heap.size + 1) 49 (dcC ⟨(nm, ls, un), .slice AL ls.length nL, o⟩)) := ⟨Blk.newAt _ _ (by simp)⟩
 have HB := Box.mk hb
 clear hb hN hx
 go_enter Tryz.func21, Tryz.ntmps21
 go_upto_region 1 with (fail)
 generalize ((w.alloc (.cells (ndC d (.slice A1 d.ms.length n1) bv kv) 35)).alloc (.cells (dcC ⟨(nm, ls, un), .slice AL ls.length nL, o⟩) 49)) = W at *
 obtain ⟨v0, v1, v2, v3, v4, v5, v6, v7, v8, v9, v10, v11⟩ := blk12 HV.out
 simp only [Nat.zero_add] at v0 v1
 clear v2 v3 v4 v5 v6 v7 v8 v9 v10 v11
 obtain ⟨c0, c1, c2, c3, c4, c5, c6, c7, c8, c9, c10⟩ := blk11 HQ.out
 simp only [Nat.zero_add] at c7 c8
 clear c0 c1 c2 c3 c4 c5 c6 c9 c10
 by_cases hn : (nm.toList == d.name.toList) = true
 ·go_wp2_with fail
  refine (rmatch_any _ _ _ _ _ _ W.heap.size ls d.ms _ HX.out.seq HM.out.ms.seq).mono ?_
  rintro e w5 ⟨rfl, hb5⟩
  have HB5 := Box.mk (bthen HB.out hb5 (Nat.le_refl _))
  clear hb5 HB
  go_wp2_with fail
  go_ret
  exact ⟨ret_bool (by unfold hitB; simp only [hn, Bool.true_and]), HB5.out⟩
 ·have hn2 : (nm.toList == d.name.toList) = false := by simpa using hn
  clear hn
  go_wp2_with fail
  go_ret
  exact ⟨ret_bool (by unfold hitB; simp only [hn2, Bool.false_and]), HB.out⟩
theorem plan_small2 {p : List Nd} (h : (treeM p).2 = 0) : p.length ≤ 200 := by
 obtain ⟨h1, h2⟩ := tree_back (t := (treeM p).1) (by rw [← h])
 rw [← h1]
 exact (postT_small h2).1
def useB (d : Nd) (x : Dx) : Bool := d.kind == 1 && hitB d x.dc
def cntU (q : List Nd) (x : Dx) : Nat := (q.filter fun d => useB d x).length
def usesL (q : List Nd) (D : List Dx) : List Int := D.map fun x => ((cntU q x : Nat) : Int)
def usesM (q : List Nd) (D : List Dx) : List Int := if (treeM q).2 = 0 then usesL q D else []
theorem cntU_le (q : List Nd) (x : Dx) : cntU q x ≤ q.length := List.length_filter_le _ _
theorem cntU_take {p : List Nd} {k : Nat} {d : Nd} (hd : p[k]? = some d) (x : Dx) : cntU (p.take (k + 1)) x = cntU (p.take k) x + (if useB d x then 1 else 0) := by
 unfold cntU
 rw [List.take_add_one, hd, List.filter_append, List.length_append]
 congr 1
 cases h : useB d x <;> simp [h]
/-- the row in the midst of an instruction -/
def midL (p : List Nd) (k : Nat) (D : List Dx) (i : Nat) : List Int := (D.take i).map (fun x => ((cntU (p.take (k + 1)) x : Nat) : Int)) ++ (D.drop i).map (fun x => ((cntU (p.take k) x : Nat) : Int))
theorem midL_len (p : List Nd) (k : Nat) (D : List Dx) (i : Nat) : (midL p k D i).length = D.length := by
 unfold midL
 rw [List.length_append, List.length_map, List.length_map, ← List.length_append, List.take_append_drop]
theorem midL_get (p : List Nd) (k : Nat) (D : List Dx) (i j : Nat) (hi : i ≤ D.length) : (midL p k D i)[j]? = (D[j]?).map fun x => ((cntU (p.take (if j < i then k + 1 else k)) x : Nat) : Int) := by
 unfold midL
 by_cases h : j < i
 ·rw [List.getElem?_append_left (by rw [List.length_map, List.length_take]; omega), List.getElem?_map, List.getElem?_take, if_pos h, if_pos h]
 ·rw [List.getElem?_append_right (by rw [List.length_map, List.length_take]; omega), List.getElem?_map, List.getElem?_drop, List.length_map, List.length_take, Nat.min_eq_left hi, if_neg h, show i + (j - i) = j by omega]
theorem midL_zero (p : List Nd) (k : Nat) (D : List Dx) : midL p k D 0 = usesL (p.take k) D := by unfold midL usesL; simp
theorem midL_all (p : List Nd) (k : Nat) (D : List Dx) : midL p k D D.length = usesL (p.take (k + 1)) D := by unfold midL usesL; simp
theorem midL_set {p : List Nd} {k : Nat} {D : List Dx} {i : Nat} {x : Dx} (hx : D[i]? = some x) : midL p k D (i + 1) = (midL p k D i).set i ((cntU (p.take (k + 1)) x : Nat) : Int) := by
 have hi := (List.getElem?_eq_some_iff.1 hx).1
 apply List.ext_getElem?
 intro j
 rw [midL_get _ _ _ _ _ (by omega), List.getElem?_set]
 by_cases hj : i = j
 ·subst hj
  rw [if_pos (show i < i + 1 by omega), if_pos (show i = i from rfl), if_pos (show i < (midL p k D i).length by rw [midL_len]; omega), hx]
  rfl
 ·rw [if_neg hj, midL_get _ _ _ _ _ (by omega)]
  congr 1
  funext y
  by_cases h1 : j < i
  ·rw [if_pos h1, if_pos (by omega)]
  ·rw [if_neg h1, if_neg (by omega)]
theorem midL_same {p : List Nd} {k : Nat} {D : List Dx} {i : Nat} {x : Dx} {d : Nd} (hx : D[i]? = some x) (hd : p[k]? = some d) (hno : useB d x = false) : midL p k D (i + 1) = midL p k D i := by
 rw [midL_set hx, cntU_take hd, if_neg (by rw [hno]; simp), Nat.add_zero]
 apply List.ext_getElem?
 intro j
 have hi := (List.getElem?_eq_some_iff.1 hx).1
 rw [List.getElem?_set]
 by_cases hj : i = j
 ·subst hj
  rw [if_pos rfl, if_pos (by rw [midL_len]; omega), midL_get _ _ _ _ _ (by omega), hx, if_neg (by omega)]
  rfl
 ·rw [if_neg hj]
theorem usesL_skip {p : List Nd} {k : Nat} {d : Nd} (hd : p[k]? = some d) (hk : d.kind ≠ 1) (D : List Dx) : usesL (p.take (k + 1)) D = usesL (p.take k) D := by
 unfold usesL
 congr 1
 funext x
 rw [cntU_take hd, if_neg (by unfold useB; simp [hk]), Nat.add_zero]
def RetUs (us : List Int) (w : World) (e : Ending) (w' : World) : Prop := ∃ A c, e = .returned (.slice A us.length c) ∧ SeqP w' AnyP 1 (.slice A us.length c) us.length (i64L us) ∧ Below w.heap.size w w'
def intsA (us : List Int) : Array Value := (i64L us).toArray
theorem intsA_size (us : List Int) : (intsA us).size = us.length := by unfold intsA i64L; simp
theorem intsA_set (us : List Int) (i : Nat) (y : Int) : (intsA us).setIfInBounds i (.int .i64 y) = intsA (us.set i y) := by
 unfold intsA i64L
 rw [List.setIfInBounds_toArray, List.map_set]
theorem made_zero (n : Nat) : madeCells #[Value.int .i64 0] n = intsA (List.replicate n 0) := by
 unfold intsA i64L madeCells
 apply Array.ext
 ·simp
 ·intro i h1 h2
  simp [Nat.mod_one]
theorem usesL_none (D : List Dx) : usesL [] D = List.replicate D.length 0 := by
 unfold usesL cntU
 simp [List.map_const']
/-- the state of Uses -/
structure UsS (w W : World) (g : Nat) (pv : Value) (p : List Nd) (dv : Value) (D : List Dx) (us : List Int) : Prop where
 below : Below w.heap.size w W
 pl : PlanP W (fun b _ => b < w.heap.size) pv p
 ds : DecsAt W (fun b _ => b < w.heap.size) dv D
 u : Blk W g 3 (intsA us)
 hg : w.heap.size ≤ g
theorem UsS.next {w W W' : World} {g : Nat} {pv dv : Value} {p : List Nd} {D : List Dx} {us : List Int} (h : UsS w W g pv p dv D us) (f : Below W.heap.size W W') : UsS w W' g pv p dv D us := ⟨bthen h.below f (Nat.le_refl _), h.pl.belo f, h.ds.keep (Agree.of_below f), h.u.below f, h.hg⟩
theorem UsS.at_ {w W : World} {g : Nat} {pv dv : Value} {p : List Nd} {D : List Dx} {us : List Int} (h : UsS w W g pv p dv D us) {i : Nat} {y : Int} (hy : us[i]? = some y) : W.cell? ⟨g, i, none⟩ = some (.int .i64 y) := by
 have hb := h.u
 unfold Blk at hb
 simp only [World.cell?, hb]
 unfold intsA i64L
 rw [List.getElem?_toArray, List.getElem?_map, hy]
 rfl
theorem UsS.set {w W : World} {g : Nat} {pv dv : Value} {p : List Nd} {D : List Dx} {us : List Int} (h : UsS w W g pv p dv D us) (i : Nat) (y : Int) : UsS w (W.setCell ⟨g, i, none⟩ (.int .i64 y)) g pv p dv D (us.set i y) := by
 have hb : Below w.heap.size W (W.setCell ⟨g, i, none⟩ (.int .i64 y)) := (Below.refl _ W).setCell (p := ⟨g, i, none⟩) h.hg _
 exact ⟨h.below.trans hb, h.pl.keep (Agree.of_lt hb fun _ _ h => h), h.ds.keep (Agree.of_lt hb fun _ _ h => h), by have := h.u.set i (.int .i64 y); rw [intsA_set] at this; exact this, h.hg⟩
/-- and an instruction in a variable -/
structure UsX (w W : World) (g : Nat) (pv : Value) (p : List Nd) (dv : Value) (D : List Dx) (us : List Int) (xb : Nat) (d : Nd) (mv bv : Value) : Prop where
 s : UsS w W g pv p dv D us
 x : Blk W xb 55 (insC d mv bv)
 r : InsAt W (fun b _ => b < w.heap.size) d mv bv
 ne : xb ≠ g
theorem UsX.next {w W W' : World} {g xb : Nat} {pv dv mv bv : Value} {p : List Nd} {D : List Dx} {us : List Int} {d : Nd} (h : UsX w W g pv p dv D us xb d mv bv) (f : Below W.heap.size W W') : UsX w W' g pv p dv D us xb d mv bv := ⟨h.s.next f, h.x.below f, h.r.belo f, h.ne⟩
theorem UsX.set {w W : World} {g xb : Nat} {pv dv mv bv : Value} {p : List Nd} {D : List Dx} {us : List Int} {d : Nd} (h : UsX w W g pv p dv D us xb d mv bv) (i : Nat) (y : Int) : UsX w (W.setCell ⟨g, i, none⟩ (.int .i64 y)) g pv p dv D (us.set i y) xb d mv bv := by
 have hb : Below w.heap.size W (W.setCell ⟨g, i, none⟩ (.int .i64 y)) := (Below.refl _ W).setCell (p := ⟨g, i, none⟩) h.s.hg _
 exact ⟨h.s.set i y, h.x.far h.ne _, h.r.keep (Agree.of_lt hb fun _ _ h => h), h.ne⟩
end
section
open Go.RowKit FracM
def SmallD (d : Nd) : Prop := d.ms.length ≤ 1000000 ∧ d.bys.length ≤ 1000000
theorem own_set {w : World} {B t size n g c j : Nat} {u : Value} {xs : List Value} (h : w.ownsRow B t size (.slice (some ⟨g, 0, none⟩) n c) n xs) : (w.setCell ⟨g, j, none⟩ u).ownsRow B t size (.slice (some ⟨g, 0, none⟩) n c) n (xs.set j u) := by
 obtain ⟨h1, h2⟩ := h
 refine ⟨by rw [List.length_set]; exact h1, ?_⟩
 rcases h2 with ⟨hv, _⟩ | ⟨g', cap, cur, hv, hg, hh, hn, hc, hs, hx⟩
 ·cases hv
 ·cases hv
  refine .inr ⟨g, _, cur.setIfInBounds j u, rfl, hg, ?_, hn, hc, by simpa using hs, ?_⟩
  ·simp [World.setCell, Array.getElem?_modify, hh]
  ·rw [Array.toList_setIfInBounds, List.take_set, hx]
abbrev put10 (W : World) (g o : Nat) (u0 u1 u2 u3 u4 u5 u6 u7 u8 u9 : Value) : World := ((((((((((W.setCell ⟨g, o, none⟩ u0).setCell ⟨g, o + 1, none⟩ u1).setCell ⟨g, o + 2, none⟩ u2).setCell ⟨g, o + 3, none⟩ u3).setCell ⟨g, o + 4, none⟩ u4).setCell ⟨g, o + 5, none⟩ u5).setCell ⟨g, o + 6, none⟩ u6).setCell ⟨g, o + 7, none⟩ u7).setCell ⟨g, o + 8, none⟩ u8).setCell ⟨g, o + 9, none⟩ u9)
theorem flat_split {l : List Nd} {cs : List Sl2} (hl : cs.length = l.length) {i : Nat} {d : Nd} {c : Sl2} (hd : l[i]? = some d) (hc : cs[i]? = some c) :
  ∃ A B : List Value, A.length = i * 10 ∧ (l.zip cs).flatMap insL = A ++ (insL (d, c) ++ B) ∧ ∀ d' c', ((l.set i d').zip (cs.set i c')).flatMap insL = A ++ (insL (d', c') ++ B) := by
 have hi : i < l.length := (List.getElem?_eq_some_iff.1 hd).1
 have e1 : l = l.take i ++ d :: l.drop (i + 1) := by
  have h := List.drop_eq_getElem_cons hi
  rw [(List.getElem?_eq_some_iff.1 hd).2] at h
  rw [← h, List.take_append_drop]
 have e2 : cs = cs.take i ++ c :: cs.drop (i + 1) := by
  have h := List.drop_eq_getElem_cons (List.getElem?_eq_some_iff.1 hc).1
  rw [(List.getElem?_eq_some_iff.1 hc).2] at h
  rw [← h, List.take_append_drop]
 have hlt : (l.take i).length = (cs.take i).length := by rw [List.length_take, List.length_take, hl]
 have hli : (l.take i).length = i := by rw [List.length_take]; omega
 have hci : (cs.take i).length = i := by rw [List.length_take]; omega
 refine ⟨((l.take i).zip (cs.take i)).flatMap insL, ((l.drop (i + 1)).zip (cs.drop (i + 1))).flatMap insL, ?_, ?_, fun d' c' => ?_⟩
 ·rw [insL_len _ _ hlt.symm, hli]
 ·conv => lhs; rw [e1, e2, List.zip_append hlt, List.zip_cons_cons, List.flatMap_append, List.flatMap_cons]
 ·have f1 : l.set i d' = l.take i ++ d' :: l.drop (i + 1) := by
   conv => lhs; rw [e1]
   rw [List.set_append_right _ _ (by omega), hli, Nat.sub_self, List.set_cons_zero]
  have f2 : cs.set i c' = cs.take i ++ c' :: cs.drop (i + 1) := by
   conv => lhs; rw [e2]
   rw [List.set_append_right _ _ (by omega), hci, Nat.sub_self, List.set_cons_zero]
  rw [f1, f2, List.zip_append hlt, List.zip_cons_cons, List.flatMap_append, List.flatMap_cons]
theorem set_at (A r : List Value) (k j : Nat) (hk : A.length = k) (u : Value) : (A ++ r).set (k + j) u = A ++ r.set j u := by
 rw [List.set_append_right _ _ (by omega)]
 congr 2
 omega
theorem InsRows.set {w : World} {P : Nat → Nat → Prop} {l : List Nd} {cs : List Sl2} (h : InsRows w P l cs) (i : Nat) {d : Nd} {c : Sl2} (hd : InsAt w P d c.1 c.2) : InsRows w P (l.set i d) (cs.set i c) := by
 refine ⟨by rw [List.length_set, List.length_set, h.1], fun k e s h1 h2 => ?_⟩
 rw [List.getElem?_set] at h1 h2
 by_cases hk : i = k
 ·rw [if_pos hk] at h1 h2
  split at h1
  ·split at h2
   ·cases h1; cases h2; exact hd
   ·cases h2
  ·cases h1
 ·rw [if_neg hk] at h1 h2
  exact h.2 k e s h1 h2
/-- an instruction of an own plan is replaced -/
theorem PlW.put {W : World} {B g n c i : Nat} {P : Nat → Nat → Prop} {l : List Nd} {d0 d : Nd} {mv bv : Value} (h : PlW W B P (.slice (some ⟨g, 0, none⟩) n c) l) (hn : n = l.length) (h0 : l[i]? = some d0) (hd : InsAt W P d mv bv) (hP : ∀ b e, P b e → b < g) (hB : B ≤ g) :
  PlW (put10 W g (i * 10) (.int .i64 d.kind) (.int .i64 d.fn) (.int .i64 d.win) (.int .i64 d.off) (.int .i64 d.k) (.int .i64 d.num) (.int .i64 d.den) (.string d.name) mv bv) B P (.slice (some ⟨g, 0, none⟩) n c) (l.set i d) ∧ Below g W (put10 W g (i * 10) (.int .i64 d.kind) (.int .i64 d.fn) (.int .i64 d.win) (.int .i64 d.off) (.int .i64 d.k) (.int .i64 d.num) (.int .i64 d.den) (.string d.name) mv bv) := by
 subst hn
 obtain ⟨cs, hown, hrow⟩ := h
 obtain ⟨c0, hc0⟩ : ∃ c0, cs[i]? = some c0 := ⟨cs[i]'(by rw [hrow.1]; exact (List.getElem?_eq_some_iff.1 h0).1), List.getElem?_eq_getElem _⟩
 obtain ⟨A, R, hA, e1, e2⟩ := flat_split hrow.1 h0 hc0
 have hb : Below g W (put10 W g (i * 10) (.int .i64 d.kind) (.int .i64 d.fn) (.int .i64 d.win) (.int .i64 d.off) (.int .i64 d.k) (.int .i64 d.num) (.int .i64 d.den) (.string d.name) mv bv) :=
  ((((((((((Below.refl g W).setCell (p := ⟨g, _, none⟩) (Nat.le_refl _) _).setCell (p := ⟨g, _, none⟩) (Nat.le_refl _) _).setCell (p := ⟨g, _, none⟩) (Nat.le_refl _) _).setCell (p := ⟨g, _, none⟩) (Nat.le_refl _) _).setCell (p := ⟨g, _, none⟩) (Nat.le_refl _) _).setCell (p := ⟨g, _, none⟩) (Nat.le_refl _) _).setCell (p := ⟨g, _, none⟩) (Nat.le_refl _) _).setCell (p := ⟨g, _, none⟩) (Nat.le_refl _) _).setCell (p := ⟨g, _, none⟩) (Nat.le_refl _) _).setCell (p := ⟨g, _, none⟩) (Nat.le_refl _) _
 refine ⟨⟨cs.set i (mv, bv), ?_, (hrow.set i (c := (mv, bv)) hd).keep (Agree.of_lt hb hP)⟩, hb⟩
 have h10 := own_set (j := i * 10 + 9) (u := bv) (own_set (j := i * 10 + 8) (u := mv) (own_set (j := i * 10 + 7) (u := .string d.name) (own_set (j := i * 10 + 6) (u := .int .i64 d.den) (own_set (j := i * 10 + 5) (u := .int .i64 d.num) (own_set (j := i * 10 + 4) (u := .int .i64 d.k) (own_set (j := i * 10 + 3) (u := .int .i64 d.off) (own_set (j := i * 10 + 2) (u := .int .i64 d.win) (own_set (j := i * 10 + 1) (u := .int .i64 d.fn) (own_set (j := i * 10) (u := .int .i64 d.kind) hown)))))))))
 rw [List.length_set, e2]
 have e3 : (A ++ (insL (d0, c0) ++ R)).set (i * 10) (.int .i64 d.kind) = A ++ (insL (d0, c0) ++ R).set 0 (.int .i64 d.kind) := set_at A _ (i * 10) 0 hA _
 rw [e1, e3, set_at A _ (i * 10) 1 hA, set_at A _ (i * 10) 2 hA, set_at A _ (i * 10) 3 hA, set_at A _ (i * 10) 4 hA, set_at A _ (i * 10) 5 hA, set_at A _ (i * 10) 6 hA, set_at A _ (i * 10) 7 hA, set_at A _ (i * 10) 8 hA, set_at A _ (i * 10) 9 hA] at h10
 exact h10
/-- a number of an instruction of an own plan is replaced -/
theorem PlW.put1 {W : World} {B g n c i j : Nat} {P : Nat → Nat → Prop} {l : List Nd} {d d' : Nd} {u : Value} (h : PlW W B P (.slice (some ⟨g, 0, none⟩) n c) l) (hn : n = l.length) (h0 : l[i]? = some d) (hd : ∀ mv bv, InsAt W P d mv bv → InsAt W P d' mv bv) (hu : ∀ mv bv, (insL (d, mv, bv)).set j u = insL (d', mv, bv)) (hj : j < 10) (hP : ∀ b e, P b e → b < g) (hB : B ≤ g) :
  PlW (W.setCell ⟨g, i * 10 + j, none⟩ u) B P (.slice (some ⟨g, 0, none⟩) n c) (l.set i d') ∧ Below g W (W.setCell ⟨g, i * 10 + j, none⟩ u) := by
 subst hn
 obtain ⟨cs, hown, hrow⟩ := h
 obtain ⟨c0, hc0⟩ : ∃ c0, cs[i]? = some c0 := ⟨cs[i]'(by rw [hrow.1]; exact (List.getElem?_eq_some_iff.1 h0).1), List.getElem?_eq_getElem _⟩
 obtain ⟨A, R, hA, e1, e2⟩ := flat_split hrow.1 h0 hc0
 have hb : Below g W (W.setCell ⟨g, i * 10 + j, none⟩ u) := (Below.refl g W).setCell (p := ⟨g, _, none⟩) (Nat.le_refl _) _
 refine ⟨⟨cs.set i c0, ?_, (hrow.set i (c := c0) (hd _ _ (hrow.2 i d c0 h0 hc0))).keep (Agree.of_lt hb hP)⟩, hb⟩
 have h1 := own_set (j := i * 10 + j) (u := u) hown
 rw [List.length_set, e2]
 rw [e1, set_at A _ (i * 10) j hA, List.set_append_left _ _ (by show j < 10; exact hj), hu] at h1
 exact h1
end
end Go.Proofs.YtpgdijbfkahepaaGreatDoor
