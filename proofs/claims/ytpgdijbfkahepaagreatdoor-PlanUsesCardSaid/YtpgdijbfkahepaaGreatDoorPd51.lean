/- Contracts, packed: Bw. -/
import Derived.Test.YtpgdijbfkahepaaGreatDoorPd49
import Derived.BigQuiet
set_option linter.unusedVariables false
set_option linter.unusedSimpArgs false
namespace Go.Proofs.YtpgdijbfkahepaaGreatDoor
section
open Go.RowKit FracM
theorem at10_cells {w w' : World} {b o : Nat} {d : Nd} {m1 m2 : Value} (h : ∀ {k : Nat}, w'.cell? ⟨b, k, none⟩ = w.cell? ⟨b, k, none⟩) (k : At10 w b o d m1 m2) : At10 w' b o d m1 m2 :=
 ⟨h.trans k.1, h.trans k.2.1, h.trans k.2.2.1, h.trans k.2.2.2.1, h.trans k.2.2.2.2.1, h.trans k.2.2.2.2.2.1, h.trans k.2.2.2.2.2.2.1, h.trans k.2.2.2.2.2.2.2.1, h.trans k.2.2.2.2.2.2.2.2.1, h.trans k.2.2.2.2.2.2.2.2.2⟩
theorem at12_cells {w w' : World} {b o : Nat} {x : Dx} (h : ∀ {k : Nat}, w'.cell? ⟨b, k, none⟩ = w.cell? ⟨b, k, none⟩) (k : At12 w b o x) : At12 w' b o x :=
 ⟨h.trans k.1, h.trans k.2.1, h.trans k.2.2.1, h.trans k.2.2.2.1, h.trans k.2.2.2.2.1, h.trans k.2.2.2.2.2.1, h.trans k.2.2.2.2.2.2.1, h.trans k.2.2.2.2.2.2.2.1, h.trans k.2.2.2.2.2.2.2.2.1, h.trans k.2.2.2.2.2.2.2.2.2.1, h.trans k.2.2.2.2.2.2.2.2.2.2.1, h.trans k.2.2.2.2.2.2.2.2.2.2.2⟩
theorem i64L_one (l : List Int) : ∀ u ∈ i64L l, u.oneCell' = true := fun u hu => by
 unfold i64L at hu
 obtain ⟨x, -, rfl⟩ := List.mem_map.1 hu
 rfl
theorem cells1I (w : World) (t : TypeId) (v : Value) : ∀ j u, [v][j]? = some u → (w.alloc (.cells #[v] t)).cell? ((⟨w.heap.size, 0, none⟩ : Addr).add j) = some u := by
 intro j u hj
 match j, hj with
 | 0, hj => simp at hj; subst hj; simp [Addr.add]
 | j + 1, hj => simp at hj
/-- the state of the reference's Uses -/
structure RuS (w W : World) (pv : Value) (p : List Nd) (dv : Value) (D : List Dx) (v : Value) (us : List Int) : Prop where
 below : Below w.heap.size w W
 pl : PlanP W (fun b _ => b < w.heap.size) pv p
 ds : DecsAt W (fun b _ => b < w.heap.size) dv D
 own : W.ownsRow w.heap.size 3 1 v us.length (i64L us)
theorem RuS.next {w W W' : World} {pv dv v : Value} {p : List Nd} {D : List Dx} {us : List Int} (h : RuS w W pv p dv D v us) (f : Below W.heap.size W W') : RuS w W' pv p dv D v us := ⟨bthen h.below f (Nat.le_refl _), h.pl.belo f, h.ds.keep (Agree.of_below f), own_below h.own f⟩
theorem RuS.push {w W W' : World} {pv dv v9 : Value} {p : List Nd} {D : List Dx} {A : Option Addr} {i c : Nat} {us : List Int} {y : Int} (h : RuS w W pv p dv D (.slice A i c) us) (hl : us.length = i) {o : Obj} (hown9 : W'.ownsRow w.heap.size 3 1 v9 (i + 1) (i64L us ++ i64L [y])) (hgr : (W.alloc o).grownBy W' (Value.slice A i c).ownBlock) : RuS w W' pv p dv D v9 (us ++ [y]) := by
 have hz := h.below.size
 have hb : Below w.heap.size W W' := ((bel1 W o).mono hz).grown hgr (by simp; omega) (fun k hk => (own_bk h.own k hk).1)
 refine ⟨h.below.trans hb, h.pl.keep (Agree.of_lt hb fun _ _ h => h), h.ds.keep (Agree.of_lt hb fun _ _ h => h), ?_⟩
 rw [List.length_append, hl]
 have e : i64L (us ++ [y]) = i64L us ++ i64L [y] := by unfold i64L; rw [List.map_append]
 rw [e]
 exact hown9
theorem ins_of {W : World} {pb po k c : Nat} {P : Nat → Nat → Prop} {l : List Nd} {d : Nd} {mv bv : Value} (h : PlanP W P (.slice (some ⟨pb, po, none⟩) l.length c) l) (hd : l[k]? = some d) (h8 : W.cell? ⟨pb, po + k * 10 + 8, none⟩ = some mv) (h9 : W.cell? ⟨pb, po + k * 10 + 9, none⟩ = some bv) : InsAt W P d mv bv := by
 obtain ⟨b', o', mv1, bv1, hA1, -, -, ⟨-, -, -, -, -, -, -, -, e8, e9⟩, hi1⟩ := h.at_ k d hd
 cases hA1
 rw [h8] at e8
 rw [h9] at e9
 cases e8
 cases e9
 exact hi1
set_option maxHeartbeats 16000000 in
set_option maxRecDepth 100000 in
theorem ruses_any (l : List Nd) (pv : Value) (D : List Dx) (dv : Value) (w : World) (hp : PlanP w AnyP pv l) (hd : DecsAt w AnyP dv D) (hDl : D.length ≤ 1000) : Calls Tryz.prog 10 #[pv, dv] w (RetUs (usesM l D) w) := by
 obtain ⟨A, c, rfl, -⟩ := hp.form
 obtain ⟨AD, cD, rfl, -⟩ := hd.1.form
 obtain ⟨er, her⟩ : ∃ er, (treeM l).2 = er := ⟨_, rfl⟩
 have CK : Box (Calls Tryz.prog 20 #[.slice A l.length c] w (RetB (.int .i64 er) w)) := ⟨by rw [← her]; exact rpcheck_any l _ w hp⟩
 have HP : Box (PlanP w (fun b _ => b < w.heap.size) (.slice A l.length c) l ∧ DecsAt w (fun b _ => b < w.heap.size) (.slice AD D.length cD) D) := ⟨hp.mono fun _ _ hb _ => hb, hd.mono fun _ _ hb _ => hb⟩
 have HER := Box.mk her
 clear hp her hd
 go_enter Tryz.func10, Tryz.ntmps10
 go_wp2_with fail
 refine (CK.out).mono ?_
 rintro e1 w1 ⟨rfl, hb⟩
 have HB1 := Box.mk hb
 clear hb CK
 by_cases h0 : er = 0
 ·subst h0
  have HEN : Box (usesM l D = usesL l D) := ⟨if_pos HER.out⟩
  have hn200 := (plan_small2 HER.out)
  obtain ⟨j0, hj, hy0, hy1, hy2⟩ := info_parts intInfo
  have HJ := Box.mk (And.intro hj (And.intro hy0 (And.intro hy1 hy2)))
  clear hj hy0 hy1 hy2
  have HS0 : Box (RuS w w1 (.slice A l.length c) l (.slice AD D.length cD) D (.slice none 0 0) ((usesL l D).take 0)) := ⟨⟨HB1.out, HP.out.1.belo HB1.out, HP.out.2.keep (Agree.of_below HB1.out), World.ownsRow_nil _ _ _ _⟩⟩
  clear HP HB1
  go_wp2_with fail
  go_loopw [5, 6] (fun o z wr => ∃ (i : Nat) (AO : Option Addr) (co : Nat), i ≤ D.length ∧ z = .int .i64 (i : Nat) ∧ o = .slice AO i co ∧ Box (RuS w wr (.slice A l.length c) l (.slice AD D.length cD) D (.slice AO i co) ((usesL l D).take i))) (fun _ z _ => D.length - (intOf z).toNat)
  case atStart => exact ⟨0, none, 0, by omega, rfl, rfl, HS0⟩
  case round =>
   clear HS0
   rename World => wr
   obtain ⟨i, AO, co, hi, rfl, rfl, HQ⟩ := hrel
   by_cases hlt : i < D.length
   ·have hlt2 : (i : Int) < (D.length : Int) := by omega
    obtain ⟨x, hx⟩ : ∃ x, D[i]? = some x := ⟨D[i], List.getElem?_eq_getElem _⟩
    have hxo := HQ.out.ds.2 x (List.mem_of_getElem? hx)
    have HXX := Box.mk hx
    have HXM := Box.mk (List.mem_of_getElem? hx)
    clear hx
    obtain ⟨⟨nm, ls, un⟩, lv, oo⟩ := x
    obtain ⟨AL, nL, hlv, -⟩ := hxo.1.form
    simp only at hlv
    subst hlv
    clear hxo
    go_wp2_with fail
    go_loopw [7, 8] (fun n z wq => ∃ k : Nat, k ≤ l.length ∧ z = .int .i64 (k : Nat) ∧ n = .int .i64 ((cntU (l.take k) ⟨(nm, ls, un), .slice AL ls.length nL, oo⟩ : Nat) : Int) ∧ Box (RuS w wq (.slice A l.length c) l (.slice AD D.length cD) D (.slice AO i co) ((usesL l D).take i))) (fun _ z _ => l.length - (intOf z).toNat)
    case atStart => exact ⟨0, by omega, rfl, rfl, HQ⟩
    case round =>
     clear HQ
     rename World => wq
     obtain ⟨k, hk, rfl, rfl, HQ⟩ := hrel
     by_cases hlt3 : k < l.length
     ·have hlt4 : (k : Int) < (l.length : Int) := by omega
      obtain ⟨d, hd⟩ : ∃ d, l[k]? = some d := ⟨l[k], List.getElem?_eq_getElem _⟩
      obtain ⟨pb, po, mv0, bv0, hA, hpb, ⟨zpb, hpw⟩, ⟨p0, p1, p2, p3, p4, p5, p6, p7, p8, p9⟩, hxi⟩ := HQ.out.pl.at_ k d hd
      subst hA
      obtain ⟨X1, x1, rfl, -⟩ := hxi.ms.form
      obtain ⟨X2, x2, rfl, -⟩ := hxi.bys.form
      have HD := Box.mk hd
      have HI8 : Box (w.cell? ⟨pb, po + k * 10 + 8, none⟩ = some (.slice X1 d.ms.length x1)) := ⟨(HQ.out.below.cell hpw).symm.trans p8⟩
      have HI9 : Box (w.cell? ⟨pb, po + k * 10 + 9, none⟩ = some (.slice X2 d.bys.length x2)) := ⟨(HQ.out.below.cell hpw).symm.trans p9⟩
      obtain ⟨db, do_, hA2, hdb, -, ⟨v0, v1, v2, v3, v4, v5, v6, v7, v8, v9, v10, v11⟩⟩ := HQ.out.ds.at_ i _ HXX.out
      subst hA2
      have HCT := Box.mk (cntU_take (p := l) HD.out ⟨(nm, ls, un), .slice AL ls.length nL, oo⟩)
      have hcl := cntU_le (l.take k) ⟨(nm, ls, un), .slice AL ls.length nL, oo⟩
      rw [List.length_take] at hcl
      obtain ⟨cu, hcu⟩ : ∃ n, cntU (l.take k) ⟨(nm, ls, un), .slice AL ls.length nL, oo⟩ = n := ⟨_, rfl⟩
      rw [hcu] at HCT hcl ⊢
      clear hd hxi hcu
      by_cases hk1 : d.kind = 1
      ·have hkb : (d.kind == 1) = true := by simp [hk1]
       have HINS : Box (∀ W : World, RuS w W (.slice (some ⟨pb, po, none⟩) l.length c) l (.slice (some ⟨db, do_, none⟩) D.length cD) D (.slice AO i co) ((usesL l D).take i) → InsAt W (fun b _ => b < w.heap.size) d (.slice X1 d.ms.length x1) (.slice X2 d.bys.length x2)) := ⟨fun W h => ins_of h.pl HD.out ((h.below.cell hpw).trans HI8.out) ((h.below.cell hpw).trans HI9.out)⟩
       clear hk1
       cases hm : hitB d (nm, ls, un) with
       | true =>
        have CN : Box (∀ W : World, Calls Tryz.prog 22 #[.agg (insC d (.slice X1 d.ms.length x1) (.slice X2 d.bys.length x2))] W (RetB (.agg (ndC d (.slice X1 d.ms.length x1) (.slice X2 d.bys.length x2) (.slice none 0 0))) W)) := ⟨fun W => rnode_any d X1 X2 _ _ _ _ W⟩
        have CS : Box (∀ W : World, RuS w W (.slice (some ⟨pb, po, none⟩) l.length c) l (.slice (some ⟨db, do_, none⟩) D.length cD) D (.slice AO i co) ((usesL l D).take i) → Calls Tryz.prog 21 #[.agg (ndC d (.slice X1 d.ms.length x1) (.slice X2 d.bys.length x2) (.slice none 0 0)), .agg (dcC ⟨(nm, ls, un), .slice AL ls.length nL, oo⟩)] W (RetB (.bool true) W)) := ⟨fun W h => by
         have hq := rselectsU_any d [] (.slice X1 d.ms.length x1) (.slice X2 d.bys.length x2) (.slice none 0 0) ⟨(nm, ls, un), .slice AL ls.length nL, oo⟩ (fun b _ => b < w.heap.size) W (HINS.out W h).leaf.nod (h.ds.2 _ HXM.out)
         dsimp only at hq
         rw [hm] at hq; exact hq⟩
        have HSD : Box (RuS w wq.drew (.slice (some ⟨pb, po, none⟩) l.length c) l (.slice (some ⟨db, do_, none⟩) D.length cD) D (.slice AO i co) ((usesL l D).take i)) := ⟨HQ.out.next (below_drewN wq 1)⟩
        have HK : Box ((wq.drew.cell? ⟨pb, po + k * 10, none⟩ = some (.int .i64 d.kind) ∧ wq.drew.cell? ⟨pb, po + k * 10 + 1, none⟩ = some (.int .i64 d.fn) ∧ wq.drew.cell? ⟨pb, po + k * 10 + 2, none⟩ = some (.int .i64 d.win) ∧ wq.drew.cell? ⟨pb, po + k * 10 + 3, none⟩ = some (.int .i64 d.off) ∧ wq.drew.cell? ⟨pb, po + k * 10 + 4, none⟩ = some (.int .i64 d.k) ∧ wq.drew.cell? ⟨pb, po + k * 10 + 5, none⟩ = some (.int .i64 d.num) ∧ wq.drew.cell? ⟨pb, po + k * 10 + 6, none⟩ = some (.int .i64 d.den) ∧ wq.drew.cell? ⟨pb, po + k * 10 + 7, none⟩ = some (.string d.name) ∧ wq.drew.cell? ⟨pb, po + k * 10 + 8, none⟩ = some (.slice X1 d.ms.length x1) ∧ wq.drew.cell? ⟨pb, po + k * 10 + 9, none⟩ = some (.slice X2 d.bys.length x2)) ∧ (wq.drew.cell? ⟨db, do_ + i * 12, none⟩ = some (.string nm) ∧ wq.drew.cell? ⟨db, do_ + i * 12 + 1, none⟩ = some (.slice AL ls.length nL) ∧ wq.drew.cell? ⟨db, do_ + i * 12 + 2, none⟩ = some (.int .i64 un.1) ∧ wq.drew.cell? ⟨db, do_ + i * 12 + 3, none⟩ = some (.int .i64 un.2.1) ∧ wq.drew.cell? ⟨db, do_ + i * 12 + 4, none⟩ = some (.int .i64 un.2.2) ∧ wq.drew.cell? ⟨db, do_ + i * 12 + 5, none⟩ = some (.int .i64 (oo 0)) ∧ wq.drew.cell? ⟨db, do_ + i * 12 + 6, none⟩ = some (.int .i64 (oo 1)) ∧ wq.drew.cell? ⟨db, do_ + i * 12 + 7, none⟩ = some (.int .i64 (oo 2)) ∧ wq.drew.cell? ⟨db, do_ + i * 12 + 8, none⟩ = some (.int .i64 (oo 3)) ∧ wq.drew.cell? ⟨db, do_ + i * 12 + 9, none⟩ = some (.int .i64 (oo 4)) ∧ wq.drew.cell? ⟨db, do_ + i * 12 + 10, none⟩ = some (.int .i64 (oo 5)) ∧ wq.drew.cell? ⟨db, do_ + i * 12 + 11, none⟩ = some (.int .i64 (oo 6)))) := ⟨⟨p0, p1, p2, p3, p4, p5, p6, p7, p8, p9⟩, v0, v1, v2, v3, v4, v5, v6, v7, v8, v9, v10, v11⟩
        have HLT : Box (pb < wq.drew.heap.size ∧ db < wq.drew.heap.size) := ⟨hpb, hdb⟩
        clear p0 p1 p2 p3 p4 p5 p6 p7 p8 p9 v0 v1 v2 v3 v4 v5 v6 v7 v8 v9 v10 v11 HQ hpb hdb
        go_wp2_with fail
        go_region_held3 (fun w' : World => (w'.cell? ⟨pb, po + k * 10, none⟩ = some (.int .i64 d.kind) ∧ w'.cell? ⟨pb, po + k * 10 + 1, none⟩ = some (.int .i64 d.fn) ∧ w'.cell? ⟨pb, po + k * 10 + 2, none⟩ = some (.int .i64 d.win) ∧ w'.cell? ⟨pb, po + k * 10 + 3, none⟩ = some (.int .i64 d.off) ∧ w'.cell? ⟨pb, po + k * 10 + 4, none⟩ = some (.int .i64 d.k) ∧ w'.cell? ⟨pb, po + k * 10 + 5, none⟩ = some (.int .i64 d.num) ∧ w'.cell? ⟨pb, po + k * 10 + 6, none⟩ = some (.int .i64 d.den) ∧ w'.cell? ⟨pb, po + k * 10 + 7, none⟩ = some (.string d.name) ∧ w'.cell? ⟨pb, po + k * 10 + 8, none⟩ = some (.slice X1 d.ms.length x1) ∧ w'.cell? ⟨pb, po + k * 10 + 9, none⟩ = some (.slice X2 d.bys.length x2)) ∧ (w'.cell? ⟨db, do_ + i * 12, none⟩ = some (.string nm) ∧ w'.cell? ⟨db, do_ + i * 12 + 1, none⟩ = some (.slice AL ls.length nL) ∧ w'.cell? ⟨db, do_ + i * 12 + 2, none⟩ = some (.int .i64 un.1) ∧ w'.cell? ⟨db, do_ + i * 12 + 3, none⟩ = some (.int .i64 un.2.1) ∧ w'.cell? ⟨db, do_ + i * 12 + 4, none⟩ = some (.int .i64 un.2.2) ∧ w'.cell? ⟨db, do_ + i * 12 + 5, none⟩ = some (.int .i64 (oo 0)) ∧ w'.cell? ⟨db, do_ + i * 12 + 6, none⟩ = some (.int .i64 (oo 1)) ∧ w'.cell? ⟨db, do_ + i * 12 + 7, none⟩ = some (.int .i64 (oo 2)) ∧ w'.cell? ⟨db, do_ + i * 12 + 8, none⟩ = some (.int .i64 (oo 3)) ∧ w'.cell? ⟨db, do_ + i * 12 + 9, none⟩ = some (.int .i64 (oo 4)) ∧ w'.cell? ⟨db, do_ + i * 12 + 10, none⟩ = some (.int .i64 (oo 5)) ∧ w'.cell? ⟨db, do_ + i * 12 + 11, none⟩ = some (.int .i64 (oo 6)))) (first | with_reducible exact HK.out | go_keep)
         (first
          | (go_at_call 22; (with_reducible refine (CN.out _).mono ?_); rintro e9 w9 ⟨rfl, hb9⟩; have HS9 := Box.mk (HSD.out.next hb9); have HK9 : Box ((w9.cell? ⟨pb, po + k * 10, none⟩ = some (.int .i64 d.kind) ∧ w9.cell? ⟨pb, po + k * 10 + 1, none⟩ = some (.int .i64 d.fn) ∧ w9.cell? ⟨pb, po + k * 10 + 2, none⟩ = some (.int .i64 d.win) ∧ w9.cell? ⟨pb, po + k * 10 + 3, none⟩ = some (.int .i64 d.off) ∧ w9.cell? ⟨pb, po + k * 10 + 4, none⟩ = some (.int .i64 d.k) ∧ w9.cell? ⟨pb, po + k * 10 + 5, none⟩ = some (.int .i64 d.num) ∧ w9.cell? ⟨pb, po + k * 10 + 6, none⟩ = some (.int .i64 d.den) ∧ w9.cell? ⟨pb, po + k * 10 + 7, none⟩ = some (.string d.name) ∧ w9.cell? ⟨pb, po + k * 10 + 8, none⟩ = some (.slice X1 d.ms.length x1) ∧ w9.cell? ⟨pb, po + k * 10 + 9, none⟩ = some (.slice X2 d.bys.length x2)) ∧ (w9.cell? ⟨db, do_ + i * 12, none⟩ = some (.string nm) ∧ w9.cell? ⟨db, do_ + i * 12 + 1, none⟩ = some (.slice AL ls.length nL) ∧ w9.cell? ⟨db, do_ + i * 12 + 2, none⟩ = some (.int .i64 un.1) ∧ w9.cell? ⟨db, do_ + i * 12 + 3, none⟩ = some (.int .i64 un.2.1) ∧ w9.cell? ⟨db, do_ + i * 12 + 4, none⟩ = some (.int .i64 un.2.2) ∧ w9.cell? ⟨db, do_ + i * 12 + 5, none⟩ = some (.int .i64 (oo 0)) ∧ w9.cell? ⟨db, do_ + i * 12 + 6, none⟩ = some (.int .i64 (oo 1)) ∧ w9.cell? ⟨db, do_ + i * 12 + 7, none⟩ = some (.int .i64 (oo 2)) ∧ w9.cell? ⟨db, do_ + i * 12 + 8, none⟩ = some (.int .i64 (oo 3)) ∧ w9.cell? ⟨db, do_ + i * 12 + 9, none⟩ = some (.int .i64 (oo 4)) ∧ w9.cell? ⟨db, do_ + i * 12 + 10, none⟩ = some (.int .i64 (oo 5)) ∧ w9.cell? ⟨db, do_ + i * 12 + 11, none⟩ = some (.int .i64 (oo 6)))) := ⟨at10_cells (hb9.cell HLT.out.1) HK.out.1, at12_cells (x := ⟨(nm, ls, un), .slice AL ls.length nL, oo⟩) (hb9.cell HLT.out.2) HK.out.2⟩; have HLT9 : Box (pb < w9.heap.size ∧ db < w9.heap.size) := ⟨Nat.lt_of_lt_of_le HLT.out.1 hb9.size, Nat.lt_of_lt_of_le HLT.out.2 hb9.size⟩; clear HSD HK HLT hb9; have HSD := Box.mk HS9.out; have HK := Box.mk HK9.out; have HLT := Box.mk HLT9.out; clear HS9 HK9 HLT9)
          | (go_at_call 21; (with_reducible refine (CS.out _ ?_).mono ?_); (exact HSD.out); rintro e9 w9 ⟨rfl, hb9⟩; have HS9 := Box.mk (HSD.out.next hb9); have HK9 : Box ((w9.cell? ⟨pb, po + k * 10, none⟩ = some (.int .i64 d.kind) ∧ w9.cell? ⟨pb, po + k * 10 + 1, none⟩ = some (.int .i64 d.fn) ∧ w9.cell? ⟨pb, po + k * 10 + 2, none⟩ = some (.int .i64 d.win) ∧ w9.cell? ⟨pb, po + k * 10 + 3, none⟩ = some (.int .i64 d.off) ∧ w9.cell? ⟨pb, po + k * 10 + 4, none⟩ = some (.int .i64 d.k) ∧ w9.cell? ⟨pb, po + k * 10 + 5, none⟩ = some (.int .i64 d.num) ∧ w9.cell? ⟨pb, po + k * 10 + 6, none⟩ = some (.int .i64 d.den) ∧ w9.cell? ⟨pb, po + k * 10 + 7, none⟩ = some (.string d.name) ∧ w9.cell? ⟨pb, po + k * 10 + 8, none⟩ = some (.slice X1 d.ms.length x1) ∧ w9.cell? ⟨pb, po + k * 10 + 9, none⟩ = some (.slice X2 d.bys.length x2)) ∧ (w9.cell? ⟨db, do_ + i * 12, none⟩ = some (.string nm) ∧ w9.cell? ⟨db, do_ + i * 12 + 1, none⟩ = some (.slice AL ls.length nL) ∧ w9.cell? ⟨db, do_ + i * 12 + 2, none⟩ = some (.int .i64 un.1) ∧ w9.cell? ⟨db, do_ + i * 12 + 3, none⟩ = some (.int .i64 un.2.1) ∧ w9.cell? ⟨db, do_ + i * 12 + 4, none⟩ = some (.int .i64 un.2.2) ∧ w9.cell? ⟨db, do_ + i * 12 + 5, none⟩ = some (.int .i64 (oo 0)) ∧ w9.cell? ⟨db, do_ + i * 12 + 6, none⟩ = some (.int .i64 (oo 1)) ∧ w9.cell? ⟨db, do_ + i * 12 + 7, none⟩ = some (.int .i64 (oo 2)) ∧ w9.cell? ⟨db, do_ + i * 12 + 8, none⟩ = some (.int .i64 (oo 3)) ∧ w9.cell? ⟨db, do_ + i * 12 + 9, none⟩ = some (.int .i64 (oo 4)) ∧ w9.cell? ⟨db, do_ + i * 12 + 10, none⟩ = some (.int .i64 (oo 5)) ∧ w9.cell? ⟨db, do_ + i * 12 + 11, none⟩ = some (.int .i64 (oo 6)))) := ⟨at10_cells (hb9.cell HLT.out.1) HK.out.1, at12_cells (x := ⟨(nm, ls, un), .slice AL ls.length nL, oo⟩) (hb9.cell HLT.out.2) HK.out.2⟩; have HLT9 : Box (pb < w9.heap.size ∧ db < w9.heap.size) := ⟨Nat.lt_of_lt_of_le HLT.out.1 hb9.size, Nat.lt_of_lt_of_le HLT.out.2 hb9.size⟩; clear HSD HK HLT hb9; have HSD := Box.mk HS9.out; have HK := Box.mk HK9.out; have HLT := Box.mk HLT9.out; clear HS9 HK9 HLT9))
        have HCN : Box (cntU (l.take (k + 1)) ⟨(nm, ls, un), .slice AL ls.length nL, oo⟩ = cu + 1) := ⟨by rw [HCT.out, if_pos (by unfold useB; simp only [hkb, hm, Bool.true_and])]⟩
        have e7 : IntKind.i64.wrap ((cu : Int) + 1) = (cu : Int) + 1 := W64_in (by omega) (by omega)
        clear HK HLT CN CS HINS
        go_wp2_with fail
        go_roundw
        case rel => exact ⟨k + 1, by omega, by go_num, by rw [HCN.out]; go_num, HSD⟩
        case measure => simp [intOf]; omega
       | false =>
        have CN : Box (∀ W : World, Calls Tryz.prog 22 #[.agg (insC d (.slice X1 d.ms.length x1) (.slice X2 d.bys.length x2))] W (RetB (.agg (ndC d (.slice X1 d.ms.length x1) (.slice X2 d.bys.length x2) (.slice none 0 0))) W)) := ⟨fun W => rnode_any d X1 X2 _ _ _ _ W⟩
        have CS : Box (∀ W : World, RuS w W (.slice (some ⟨pb, po, none⟩) l.length c) l (.slice (some ⟨db, do_, none⟩) D.length cD) D (.slice AO i co) ((usesL l D).take i) → Calls Tryz.prog 21 #[.agg (ndC d (.slice X1 d.ms.length x1) (.slice X2 d.bys.length x2) (.slice none 0 0)), .agg (dcC ⟨(nm, ls, un), .slice AL ls.length nL, oo⟩)] W (RetB (.bool false) W)) := ⟨fun W h => by
         have hq := rselectsU_any d [] (.slice X1 d.ms.length x1) (.slice X2 d.bys.length x2) (.slice none 0 0) ⟨(nm, ls, un), .slice AL ls.length nL, oo⟩ (fun b _ => b < w.heap.size) W (HINS.out W h).leaf.nod (h.ds.2 _ HXM.out)
         dsimp only at hq
         rw [hm] at hq; exact hq⟩
        have HSD : Box (RuS w wq.drew (.slice (some ⟨pb, po, none⟩) l.length c) l (.slice (some ⟨db, do_, none⟩) D.length cD) D (.slice AO i co) ((usesL l D).take i)) := ⟨HQ.out.next (below_drewN wq 1)⟩
        have HK : Box ((wq.drew.cell? ⟨pb, po + k * 10, none⟩ = some (.int .i64 d.kind) ∧ wq.drew.cell? ⟨pb, po + k * 10 + 1, none⟩ = some (.int .i64 d.fn) ∧ wq.drew.cell? ⟨pb, po + k * 10 + 2, none⟩ = some (.int .i64 d.win) ∧ wq.drew.cell? ⟨pb, po + k * 10 + 3, none⟩ = some (.int .i64 d.off) ∧ wq.drew.cell? ⟨pb, po + k * 10 + 4, none⟩ = some (.int .i64 d.k) ∧ wq.drew.cell? ⟨pb, po + k * 10 + 5, none⟩ = some (.int .i64 d.num) ∧ wq.drew.cell? ⟨pb, po + k * 10 + 6, none⟩ = some (.int .i64 d.den) ∧ wq.drew.cell? ⟨pb, po + k * 10 + 7, none⟩ = some (.string d.name) ∧ wq.drew.cell? ⟨pb, po + k * 10 + 8, none⟩ = some (.slice X1 d.ms.length x1) ∧ wq.drew.cell? ⟨pb, po + k * 10 + 9, none⟩ = some (.slice X2 d.bys.length x2)) ∧ (wq.drew.cell? ⟨db, do_ + i * 12, none⟩ = some (.string nm) ∧ wq.drew.cell? ⟨db, do_ + i * 12 + 1, none⟩ = some (.slice AL ls.length nL) ∧ wq.drew.cell? ⟨db, do_ + i * 12 + 2, none⟩ = some (.int .i64 un.1) ∧ wq.drew.cell? ⟨db, do_ + i * 12 + 3, none⟩ = some (.int .i64 un.2.1) ∧ wq.drew.cell? ⟨db, do_ + i * 12 + 4, none⟩ = some (.int .i64 un.2.2) ∧ wq.drew.cell? ⟨db, do_ + i * 12 + 5, none⟩ = some (.int .i64 (oo 0)) ∧ wq.drew.cell? ⟨db, do_ + i * 12 + 6, none⟩ = some (.int .i64 (oo 1)) ∧ wq.drew.cell? ⟨db, do_ + i * 12 + 7, none⟩ = some (.int .i64 (oo 2)) ∧ wq.drew.cell? ⟨db, do_ + i * 12 + 8, none⟩ = some (.int .i64 (oo 3)) ∧ wq.drew.cell? ⟨db, do_ + i * 12 + 9, none⟩ = some (.int .i64 (oo 4)) ∧ wq.drew.cell? ⟨db, do_ + i * 12 + 10, none⟩ = some (.int .i64 (oo 5)) ∧ wq.drew.cell? ⟨db, do_ + i * 12 + 11, none⟩ = some (.int .i64 (oo 6)))) := ⟨⟨p0, p1, p2, p3, p4, p5, p6, p7, p8, p9⟩, v0, v1, v2, v3, v4, v5, v6, v7, v8, v9, v10, v11⟩
        have HLT : Box (pb < wq.drew.heap.size ∧ db < wq.drew.heap.size) := ⟨hpb, hdb⟩
        clear p0 p1 p2 p3 p4 p5 p6 p7 p8 p9 v0 v1 v2 v3 v4 v5 v6 v7 v8 v9 v10 v11 HQ hpb hdb
        go_wp2_with fail
        go_region_held3 (fun w' : World => (w'.cell? ⟨pb, po + k * 10, none⟩ = some (.int .i64 d.kind) ∧ w'.cell? ⟨pb, po + k * 10 + 1, none⟩ = some (.int .i64 d.fn) ∧ w'.cell? ⟨pb, po + k * 10 + 2, none⟩ = some (.int .i64 d.win) ∧ w'.cell? ⟨pb, po + k * 10 + 3, none⟩ = some (.int .i64 d.off) ∧ w'.cell? ⟨pb, po + k * 10 + 4, none⟩ = some (.int .i64 d.k) ∧ w'.cell? ⟨pb, po + k * 10 + 5, none⟩ = some (.int .i64 d.num) ∧ w'.cell? ⟨pb, po + k * 10 + 6, none⟩ = some (.int .i64 d.den) ∧ w'.cell? ⟨pb, po + k * 10 + 7, none⟩ = some (.string d.name) ∧ w'.cell? ⟨pb, po + k * 10 + 8, none⟩ = some (.slice X1 d.ms.length x1) ∧ w'.cell? ⟨pb, po + k * 10 + 9, none⟩ = some (.slice X2 d.bys.length x2)) ∧ (w'.cell? ⟨db, do_ + i * 12, none⟩ = some (.string nm) ∧ w'.cell? ⟨db, do_ + i * 12 + 1, none⟩ = some (.slice AL ls.length nL) ∧ w'.cell? ⟨db, do_ + i * 12 + 2, none⟩ = some (.int .i64 un.1) ∧ w'.cell? ⟨db, do_ + i * 12 + 3, none⟩ = some (.int .i64 un.2.1) ∧ w'.cell? ⟨db, do_ + i * 12 + 4, none⟩ = some (.int .i64 un.2.2) ∧ w'.cell? ⟨db, do_ + i * 12 + 5, none⟩ = some (.int .i64 (oo 0)) ∧ w'.cell? ⟨db, do_ + i * 12 + 6, none⟩ = some (.int .i64 (oo 1)) ∧ w'.cell? ⟨db, do_ + i * 12 + 7, none⟩ = some (.int .i64 (oo 2)) ∧ w'.cell? ⟨db, do_ + i * 12 + 8, none⟩ = some (.int .i64 (oo 3)) ∧ w'.cell? ⟨db, do_ + i * 12 + 9, none⟩ = some (.int .i64 (oo 4)) ∧ w'.cell? ⟨db, do_ + i * 12 + 10, none⟩ = some (.int .i64 (oo 5)) ∧ w'.cell? ⟨db, do_ + i * 12 + 11, none⟩ = some (.int .i64 (oo 6)))) (first | with_reducible exact HK.out | go_keep)
         (first
          | (go_at_call 22; (with_reducible refine (CN.out _).mono ?_); rintro e9 w9 ⟨rfl, hb9⟩; have HS9 := Box.mk (HSD.out.next hb9); have HK9 : Box ((w9.cell? ⟨pb, po + k * 10, none⟩ = some (.int .i64 d.kind) ∧ w9.cell? ⟨pb, po + k * 10 + 1, none⟩ = some (.int .i64 d.fn) ∧ w9.cell? ⟨pb, po + k * 10 + 2, none⟩ = some (.int .i64 d.win) ∧ w9.cell? ⟨pb, po + k * 10 + 3, none⟩ = some (.int .i64 d.off) ∧ w9.cell? ⟨pb, po + k * 10 + 4, none⟩ = some (.int .i64 d.k) ∧ w9.cell? ⟨pb, po + k * 10 + 5, none⟩ = some (.int .i64 d.num) ∧ w9.cell? ⟨pb, po + k * 10 + 6, none⟩ = some (.int .i64 d.den) ∧ w9.cell? ⟨pb, po + k * 10 + 7, none⟩ = some (.string d.name) ∧ w9.cell? ⟨pb, po + k * 10 + 8, none⟩ = some (.slice X1 d.ms.length x1) ∧ w9.cell? ⟨pb, po + k * 10 + 9, none⟩ = some (.slice X2 d.bys.length x2)) ∧ (w9.cell? ⟨db, do_ + i * 12, none⟩ = some (.string nm) ∧ w9.cell? ⟨db, do_ + i * 12 + 1, none⟩ = some (.slice AL ls.length nL) ∧ w9.cell? ⟨db, do_ + i * 12 + 2, none⟩ = some (.int .i64 un.1) ∧ w9.cell? ⟨db, do_ + i * 12 + 3, none⟩ = some (.int .i64 un.2.1) ∧ w9.cell? ⟨db, do_ + i * 12 + 4, none⟩ = some (.int .i64 un.2.2) ∧ w9.cell? ⟨db, do_ + i * 12 + 5, none⟩ = some (.int .i64 (oo 0)) ∧ w9.cell? ⟨db, do_ + i * 12 + 6, none⟩ = some (.int .i64 (oo 1)) ∧ w9.cell? ⟨db, do_ + i * 12 + 7, none⟩ = some (.int .i64 (oo 2)) ∧ w9.cell? ⟨db, do_ + i * 12 + 8, none⟩ = some (.int .i64 (oo 3)) ∧ w9.cell? ⟨db, do_ + i * 12 + 9, none⟩ = some (.int .i64 (oo 4)) ∧ w9.cell? ⟨db, do_ + i * 12 + 10, none⟩ = some (.int .i64 (oo 5)) ∧ w9.cell? ⟨db, do_ + i * 12 + 11, none⟩ = some (.int .i64 (oo 6)))) := ⟨at10_cells (hb9.cell HLT.out.1) HK.out.1, at12_cells (x := ⟨(nm, ls, un), .slice AL ls.length nL, oo⟩) (hb9.cell HLT.out.2) HK.out.2⟩; have HLT9 : Box (pb < w9.heap.size ∧ db < w9.heap.size) := ⟨Nat.lt_of_lt_of_le HLT.out.1 hb9.size, Nat.lt_of_lt_of_le HLT.out.2 hb9.size⟩; clear HSD HK HLT hb9; have HSD := Box.mk HS9.out; have HK := Box.mk HK9.out; have HLT := Box.mk HLT9.out; clear HS9 HK9 HLT9)
          | (go_at_call 21; (with_reducible refine (CS.out _ ?_).mono ?_); (exact HSD.out); rintro e9 w9 ⟨rfl, hb9⟩; have HS9 := Box.mk (HSD.out.next hb9); have HK9 : Box ((w9.cell? ⟨pb, po + k * 10, none⟩ = some (.int .i64 d.kind) ∧ w9.cell? ⟨pb, po + k * 10 + 1, none⟩ = some (.int .i64 d.fn) ∧ w9.cell? ⟨pb, po + k * 10 + 2, none⟩ = some (.int .i64 d.win) ∧ w9.cell? ⟨pb, po + k * 10 + 3, none⟩ = some (.int .i64 d.off) ∧ w9.cell? ⟨pb, po + k * 10 + 4, none⟩ = some (.int .i64 d.k) ∧ w9.cell? ⟨pb, po + k * 10 + 5, none⟩ = some (.int .i64 d.num) ∧ w9.cell? ⟨pb, po + k * 10 + 6, none⟩ = some (.int .i64 d.den) ∧ w9.cell? ⟨pb, po + k * 10 + 7, none⟩ = some (.string d.name) ∧ w9.cell? ⟨pb, po + k * 10 + 8, none⟩ = some (.slice X1 d.ms.length x1) ∧ w9.cell? ⟨pb, po + k * 10 + 9, none⟩ = some (.slice X2 d.bys.length x2)) ∧ (w9.cell? ⟨db, do_ + i * 12, none⟩ = some (.string nm) ∧ w9.cell? ⟨db, do_ + i * 12 + 1, none⟩ = some (.slice AL ls.length nL) ∧ w9.cell? ⟨db, do_ + i * 12 + 2, none⟩ = some (.int .i64 un.1) ∧ w9.cell? ⟨db, do_ + i * 12 + 3, none⟩ = some (.int .i64 un.2.1) ∧ w9.cell? ⟨db, do_ + i * 12 + 4, none⟩ = some (.int .i64 un.2.2) ∧ w9.cell? ⟨db, do_ + i * 12 + 5, none⟩ = some (.int .i64 (oo 0)) ∧ w9.cell? ⟨db, do_ + i * 12 + 6, none⟩ = some (.int .i64 (oo 1)) ∧ w9.cell? ⟨db, do_ + i * 12 + 7, none⟩ = some (.int .i64 (oo 2)) ∧ w9.cell? ⟨db, do_ + i * 12 + 8, none⟩ = some (.int .i64 (oo 3)) ∧ w9.cell? ⟨db, do_ + i * 12 + 9, none⟩ = some (.int .i64 (oo 4)) ∧ w9.cell? ⟨db, do_ + i * 12 + 10, none⟩ = some (.int .i64 (oo 5)) ∧ w9.cell? ⟨db, do_ + i * 12 + 11, none⟩ = some (.int .i64 (oo 6)))) := ⟨at10_cells (hb9.cell HLT.out.1) HK.out.1, at12_cells (x := ⟨(nm, ls, un), .slice AL ls.length nL, oo⟩) (hb9.cell HLT.out.2) HK.out.2⟩; have HLT9 : Box (pb < w9.heap.size ∧ db < w9.heap.size) := ⟨Nat.lt_of_lt_of_le HLT.out.1 hb9.size, Nat.lt_of_lt_of_le HLT.out.2 hb9.size⟩; clear HSD HK HLT hb9; have HSD := Box.mk HS9.out; have HK := Box.mk HK9.out; have HLT := Box.mk HLT9.out; clear HS9 HK9 HLT9))
        have HCN : Box (cntU (l.take (k + 1)) ⟨(nm, ls, un), .slice AL ls.length nL, oo⟩ = cu) := ⟨by rw [HCT.out, if_neg (by unfold useB; simp only [hkb, hm, Bool.true_and]; simp)]; rfl⟩
        clear HK HLT CN CS HINS
        go_wp2_with fail
        go_roundw
        case rel => exact ⟨k + 1, by omega, by go_num, by rw [HCN.out], HSD⟩
        case measure => simp [intOf]; omega
      ·have hkb : (d.kind == 1) = false := by simpa using hk1
       have HSD : Box (RuS w wq (.slice (some ⟨pb, po, none⟩) l.length c) l (.slice (some ⟨db, do_, none⟩) D.length cD) D (.slice AO i co) ((usesL l D).take i)) := ⟨HQ.out⟩
       have HCN : Box (cntU (l.take (k + 1)) ⟨(nm, ls, un), .slice AL ls.length nL, oo⟩ = cu) := ⟨by rw [HCT.out, if_neg (by unfold useB; simp only [hkb, Bool.false_and]; simp)]; rfl⟩
       clear hk1 HQ
       go_wp2_with fail
       go_quiet (fail)
       all_goals
        go_wp2_with fail
        go_roundw
        case rel => exact ⟨k + 1, by omega, by go_num, by rw [HCN.out], ⟨by first | exact HSD.out | exact HSD.out.next (below_drewN _ _)⟩⟩
        case measure => simp [intOf]; omega
     ·have hlt4 : ¬ (k : Int) < (l.length : Int) := by omega
      have hke : k = l.length := by omega
      subst hke
      rw [List.take_length]
      have HTK : Box ((usesL l D).take (i + 1) = (usesL l D).take i ++ [((cntU l ⟨(nm, ls, un), .slice AL ls.length nL, oo⟩ : Nat) : Int)]) := ⟨by unfold usesL; rw [List.take_add_one, List.getElem?_map, HXX.out]; rfl⟩
      obtain ⟨cu, hcu⟩ : ∃ n, cntU l ⟨(nm, ls, un), .slice AL ls.length nL, oo⟩ = n := ⟨_, rfl⟩
      rw [hcu] at HTK ⊢
      clear hcu
      have hzq := HQ.out.below.size
      obtain ⟨u9, HU9⟩ : ∃ u, Box ((usesL l D).take i = u) := ⟨_, ⟨rfl⟩⟩
      have hul : u9.length = i := by rw [← HU9.out, List.length_take]; unfold usesL; rw [List.length_map]; omega
      rw [HU9.out] at HQ HTK
      go_wp2_with (at_builtin; refine wpList_append_own _ rfl _ _ 22 rfl w.heap.size 3 j0 _ 1 8 Tryz.underlying22 HJ.out.1 HJ.out.2.1 HJ.out.2.2.1 HJ.out.2.2.2 rfl (by decide) (.slice AO i co) i (i64L u9) rfl (by have h := HQ.out.own; rw [hul] at h; exact World.ownsRow.alloc h _) ⟨wq.heap.size, 0, none⟩ 1 1 (i64L [(cu : Int)]) rfl rfl (cells1I _ _ _) (i64L_one _) (by unfold maxLen; omega) (by omega) (by simp; omega) ?_; intro v9 w9 hown9 hgr9 hnil9)
      have HS9 : Box (RuS w w9 (.slice A l.length c) l (.slice AD D.length cD) D v9 ((usesL l D).take (i + 1))) := ⟨by rw [HTK.out]; exact HQ.out.push hul hown9 hgr9⟩
      clear hown9 hgr9 hnil9 HQ
      obtain ⟨A9, c9, hv9⟩ := own_form HS9.out.own
      subst hv9
      go_wp2_with fail
      go_roundw
      case rel => exact ⟨i + 1, A9, c9, by omega, by go_num, by rw [show ((usesL l D).take (i + 1)).length = i + 1 by rw [List.length_take]; unfold usesL; rw [List.length_map]; omega], by have h := HS9; rw [show ((usesL l D).take (i + 1)).length = i + 1 by rw [List.length_take]; unfold usesL; rw [List.length_map]; omega] at h; exact h⟩
      case measure => simp [intOf]; omega
   ·have hlt2 : ¬ (i : Int) < (D.length : Int) := by omega
    have hie : i = D.length := by omega
    subst hie
    have hul : (usesL l D).length = D.length := by unfold usesL; simp
    have HF : Box (RuS w wr (.slice A l.length c) l (.slice AD D.length cD) D (.slice AO D.length co) (usesL l D)) := ⟨by have h := HQ.out; rw [List.take_of_length_le (by omega)] at h; exact h⟩
    clear HQ
    go_wp2_with fail
    go_ret
    exact ⟨AO, co, by rw [HEN.out, hul]; rfl, by rw [HEN.out, hul]; have hq := SeqP.of_own (P := AnyP) HF.out.own (fun _ _ _ _ => trivial); rw [hul] at hq; exact hq, HF.out.below⟩
 ·have h1 : (er != 0) = true := by simpa using h0
  have HEN : Box (usesM l D = []) := ⟨by unfold usesM; rw [if_neg (by rw [HER.out]; exact h0)]⟩
  clear h0
  go_wp2_with fail
  go_ret
  exact ⟨none, 0, by rw [HEN.out]; rfl, by rw [HEN.out]; exact SeqP.nil _ _ _, HB1.out⟩
end
end Go.Proofs.YtpgdijbfkahepaaGreatDoor
