/- Contracts, packed: Uq. -/
import Derived.Test.YtipafbppaaflcaaDoorPu24
import Derived.Test.YtipafbppaaflcaaDoorPu25
import Derived.Test.YtipafbppaaflcaaDoorPu38
import Derived.Test.YtipafbppaaflcaaDoorPu41
import Derived.Deep.RegionHeld3
set_option linter.unusedVariables false
set_option linter.unusedSimpArgs false
namespace Go.Proofs.YtipafbppaaflcaaDoor
section
open Go.RowKit FracM
theorem compileM_ok {t : Tree} (h : validE t = 0) : compileM t = (postT t, 0) := if_pos h
theorem compileM_no {t : Tree} (h : validE t ≠ 0) : compileM t = ([], validE t) := if_neg h
theorem blk10z {W : World} {g : Nat} {t : TypeId} {d : Nd} {mv bv : Value} (h : Blk W g t (insC d mv bv)) : (W.cell? ⟨g, 0, none⟩ = some (.int .i64 d.kind) ∧ W.cell? ⟨g, 1, none⟩ = some (.int .i64 d.fn) ∧ W.cell? ⟨g, 2, none⟩ = some (.int .i64 d.win) ∧ W.cell? ⟨g, 3, none⟩ = some (.int .i64 d.off) ∧ W.cell? ⟨g, 4, none⟩ = some (.int .i64 d.k) ∧ W.cell? ⟨g, 5, none⟩ = some (.int .i64 d.num) ∧ W.cell? ⟨g, 6, none⟩ = some (.int .i64 d.den) ∧ W.cell? ⟨g, 7, none⟩ = some (.string d.name) ∧ W.cell? ⟨g, 8, none⟩ = some (mv) ∧ W.cell? ⟨g, 9, none⟩ = some (bv)) := by
 unfold Blk at h
 refine ⟨?_, ?_, ?_, ?_, ?_, ?_, ?_, ?_, ?_, ?_⟩ <;> simp [World.cell?, h]
theorem At10.keep {w w' : World} {g o B : Nat} {d : Nd} {m1 m2 : Value} (h : At10 w g o d m1 m2) (hb : Below B w w') (hg : g < B) : At10 w' g o d m1 m2 :=
 ⟨(hb.cell hg).trans h.1, (hb.cell hg).trans h.2.1, (hb.cell hg).trans h.2.2.1, (hb.cell hg).trans h.2.2.2.1, (hb.cell hg).trans h.2.2.2.2.1, (hb.cell hg).trans h.2.2.2.2.2.1, (hb.cell hg).trans h.2.2.2.2.2.2.1, (hb.cell hg).trans h.2.2.2.2.2.2.2.1, (hb.cell hg).trans h.2.2.2.2.2.2.2.2.1, (hb.cell hg).trans h.2.2.2.2.2.2.2.2.2⟩
theorem InsAt.leaf {w : World} {P : Nat → Nat → Prop} {d : Nd} {mv bv : Value} (h : InsAt w P d mv bv) : TreeAt w P (leafT d) (mv, bv, .slice none 0 0) :=
 .mk d [] mv bv _ [] h.ok h.ms h.bys rfl (SeqP.nil _ _ _) fun i t c h => by simp at h
theorem InsAt.any {w : World} {P : Nat → Nat → Prop} {d : Nd} {mv bv : Value} (h : InsAt w P d mv bv) : InsAt w AnyP d mv bv := h.mono fun _ _ _ _ => trivial
theorem InsAt.anyB {w w' : World} {P : Nat → Nat → Prop} {d : Nd} {mv bv : Value} (h : InsAt w P d mv bv) (f : Below w.heap.size w w') : InsAt w' AnyP d mv bv := ((h.mono (Q := fun b _ => b < w.heap.size) fun _ _ hb _ => hb).keep (Agree.of_lt f fun _ _ h => h)).any
set_option maxHeartbeats 4000000 in
set_option maxRecDepth 100000 in
theorem rsameins_any (d e : Nd) (mv bv mv' bv' : Value) (w : World) (ha : InsAt w AnyP d mv bv) (hb : InsAt w AnyP e mv' bv') : Calls Tryd.prog 58 #[.agg (insC d mv bv), .agg (insC e mv' bv')] w (RetB (.bool (eqT (leafT d) (leafT e))) w) := by
 obtain ⟨A1, c1, rfl, -⟩ := ha.ms.form
 obtain ⟨A2, c2, rfl, -⟩ := ha.bys.form
 obtain ⟨B1, e1, rfl, -⟩ := hb.ms.form
 obtain ⟨B2, e2, rfl, -⟩ := hb.bys.form
 obtain ⟨q, hq⟩ : ∃ q, eqT (leafT d) (leafT e) = q := ⟨_, rfl⟩
 rw [hq]
 have HS : Box (Below w.heap.size w ((w.alloc (.cells (insC d (.slice A1 d.ms.length c1) (.slice A2 d.bys.length c2)) 45)).alloc (.cells (insC e (.slice B1 e.ms.length e1) (.slice B2 e.bys.length e2)) 45)) ∧ Blk ((w.alloc (.cells (insC d (.slice A1 d.ms.length c1) (.slice A2 d.bys.length c2)) 45)).alloc (.cells (insC e (.slice B1 e.ms.length e1) (.slice B2 e.bys.length e2)) 45)) w.heap.size 45 (insC d (.slice A1 d.ms.length c1) (.slice A2 d.bys.length c2)) ∧ Blk ((w.alloc (.cells (insC d (.slice A1 d.ms.length c1) (.slice A2 d.bys.length c2)) 45)).alloc (.cells (insC e (.slice B1 e.ms.length e1) (.slice B2 e.bys.length e2)) 45)) (w.heap.size + 1) 45 (insC e (.slice B1 e.ms.length e1) (.slice B2 e.bys.length e2)) ∧ InsAt ((w.alloc (.cells (insC d (.slice A1 d.ms.length c1) (.slice A2 d.bys.length c2)) 45)).alloc (.cells (insC e (.slice B1 e.ms.length e1) (.slice B2 e.bys.length e2)) 45)) AnyP d (.slice A1 d.ms.length c1) (.slice A2 d.bys.length c2) ∧ InsAt ((w.alloc (.cells (insC d (.slice A1 d.ms.length c1) (.slice A2 d.bys.length c2)) 45)).alloc (.cells (insC e (.slice B1 e.ms.length e1) (.slice B2 e.bys.length e2)) 45)) AnyP e (.slice B1 e.ms.length e1) (.slice B2 e.bys.length e2)) :=
  ⟨bel2 _ _ _, (Blk.new _ _ _).alloc _, Blk.newAt _ _ (by simp), ha.anyB (bel2 _ _ _), hb.anyB (bel2 _ _ _)⟩
 have CE : Box (∀ W' : World, InsAt W' AnyP d (.slice A1 d.ms.length c1) (.slice A2 d.bys.length c2) → InsAt W' AnyP e (.slice B1 e.ms.length e1) (.slice B2 e.bys.length e2) → Calls Tryd.prog 39 #[.agg (ndC d (.slice A1 d.ms.length c1) (.slice A2 d.bys.length c2) (.slice none 0 0)), .agg (ndC e (.slice B1 e.ms.length e1) (.slice B2 e.bys.length e2) (.slice none 0 0))] W' (RetB (.bool q) W')) := ⟨fun W' x y => by rw [← hq]; exact requal_any (leafT d) (leafT e) AnyP AnyP W' ((.slice A1 d.ms.length c1), (.slice A2 d.bys.length c2), .slice none 0 0) ((.slice B1 e.ms.length e1), (.slice B2 e.bys.length e2), .slice none 0 0) x.leaf y.leaf⟩
 clear ha hb hq
 go_enter Tryd.func58, Tryd.ntmps58
 go_upto_region 1 with (fail)
 obtain ⟨ga, hga⟩ : ∃ g, w.heap.size = g := ⟨_, rfl⟩
 have HGA := Box.mk hga
 rw [hga] at HS ⊢
 clear hga
 generalize (w.alloc (.cells (insC d (.slice A1 d.ms.length c1) (.slice A2 d.bys.length c2)) 45)).alloc (.cells (insC e (.slice B1 e.ms.length e1) (.slice B2 e.bys.length e2)) 45) = W at HS ⊢
 have HK : Box ((W.drew.cell? ⟨ga, 0, none⟩ = some (.int .i64 d.kind) ∧ W.drew.cell? ⟨ga, 1, none⟩ = some (.int .i64 d.fn) ∧ W.drew.cell? ⟨ga, 2, none⟩ = some (.int .i64 d.win) ∧ W.drew.cell? ⟨ga, 3, none⟩ = some (.int .i64 d.off) ∧ W.drew.cell? ⟨ga, 4, none⟩ = some (.int .i64 d.k) ∧ W.drew.cell? ⟨ga, 5, none⟩ = some (.int .i64 d.num) ∧ W.drew.cell? ⟨ga, 6, none⟩ = some (.int .i64 d.den) ∧ W.drew.cell? ⟨ga, 7, none⟩ = some (.string d.name) ∧ W.drew.cell? ⟨ga, 8, none⟩ = some ((.slice A1 d.ms.length c1)) ∧ W.drew.cell? ⟨ga, 9, none⟩ = some ((.slice A2 d.bys.length c2))) ∧ (W.drew.cell? ⟨(ga + 1), 0, none⟩ = some (.int .i64 e.kind) ∧ W.drew.cell? ⟨(ga + 1), 1, none⟩ = some (.int .i64 e.fn) ∧ W.drew.cell? ⟨(ga + 1), 2, none⟩ = some (.int .i64 e.win) ∧ W.drew.cell? ⟨(ga + 1), 3, none⟩ = some (.int .i64 e.off) ∧ W.drew.cell? ⟨(ga + 1), 4, none⟩ = some (.int .i64 e.k) ∧ W.drew.cell? ⟨(ga + 1), 5, none⟩ = some (.int .i64 e.num) ∧ W.drew.cell? ⟨(ga + 1), 6, none⟩ = some (.int .i64 e.den) ∧ W.drew.cell? ⟨(ga + 1), 7, none⟩ = some (.string e.name) ∧ W.drew.cell? ⟨(ga + 1), 8, none⟩ = some ((.slice B1 e.ms.length e1)) ∧ W.drew.cell? ⟨(ga + 1), 9, none⟩ = some ((.slice B2 e.bys.length e2)))) := ⟨blk10z HS.out.2.1, blk10z HS.out.2.2.1⟩
 have HSD : Box (Below ga w W.drew ∧ Blk W.drew ga 45 (insC d (.slice A1 d.ms.length c1) (.slice A2 d.bys.length c2)) ∧ Blk W.drew (ga + 1) 45 (insC e (.slice B1 e.ms.length e1) (.slice B2 e.bys.length e2)) ∧ InsAt W.drew AnyP d (.slice A1 d.ms.length c1) (.slice A2 d.bys.length c2) ∧ InsAt W.drew AnyP e (.slice B1 e.ms.length e1) (.slice B2 e.bys.length e2)) := ⟨HS.out.1.drew, HS.out.2.1, HS.out.2.2.1, HS.out.2.2.2.1.anyB (below_drewN W 1), HS.out.2.2.2.2.anyB (below_drewN W 1)⟩
 clear HS
 have HS := Box.mk HSD.out
 clear HSD
 go_region_held3 (fun w' => (w'.cell? ⟨ga, 0, none⟩ = some (.int .i64 d.kind) ∧ w'.cell? ⟨ga, 1, none⟩ = some (.int .i64 d.fn) ∧ w'.cell? ⟨ga, 2, none⟩ = some (.int .i64 d.win) ∧ w'.cell? ⟨ga, 3, none⟩ = some (.int .i64 d.off) ∧ w'.cell? ⟨ga, 4, none⟩ = some (.int .i64 d.k) ∧ w'.cell? ⟨ga, 5, none⟩ = some (.int .i64 d.num) ∧ w'.cell? ⟨ga, 6, none⟩ = some (.int .i64 d.den) ∧ w'.cell? ⟨ga, 7, none⟩ = some (.string d.name) ∧ w'.cell? ⟨ga, 8, none⟩ = some ((.slice A1 d.ms.length c1)) ∧ w'.cell? ⟨ga, 9, none⟩ = some ((.slice A2 d.bys.length c2))) ∧ (w'.cell? ⟨(ga + 1), 0, none⟩ = some (.int .i64 e.kind) ∧ w'.cell? ⟨(ga + 1), 1, none⟩ = some (.int .i64 e.fn) ∧ w'.cell? ⟨(ga + 1), 2, none⟩ = some (.int .i64 e.win) ∧ w'.cell? ⟨(ga + 1), 3, none⟩ = some (.int .i64 e.off) ∧ w'.cell? ⟨(ga + 1), 4, none⟩ = some (.int .i64 e.k) ∧ w'.cell? ⟨(ga + 1), 5, none⟩ = some (.int .i64 e.num) ∧ w'.cell? ⟨(ga + 1), 6, none⟩ = some (.int .i64 e.den) ∧ w'.cell? ⟨(ga + 1), 7, none⟩ = some (.string e.name) ∧ w'.cell? ⟨(ga + 1), 8, none⟩ = some ((.slice B1 e.ms.length e1)) ∧ w'.cell? ⟨(ga + 1), 9, none⟩ = some ((.slice B2 e.bys.length e2)))) (first | with_reducible exact HK.out | go_keep)
  (first
   | (go_at_call 68; (with_reducible refine (rnode_any d A1 A2 d.ms.length c1 d.bys.length c2 _).mono ?_); rintro e7 w7 ⟨rfl, hb7⟩; have HS7 : Box (Below ga w w7 ∧ Blk w7 ga 45 (insC d (.slice A1 d.ms.length c1) (.slice A2 d.bys.length c2)) ∧ Blk w7 (ga + 1) 45 (insC e (.slice B1 e.ms.length e1) (.slice B2 e.bys.length e2)) ∧ InsAt w7 AnyP d (.slice A1 d.ms.length c1) (.slice A2 d.bys.length c2) ∧ InsAt w7 AnyP e (.slice B1 e.ms.length e1) (.slice B2 e.bys.length e2)) := ⟨bthen HS.out.1 hb7 (Nat.le_of_eq HGA.out.symm), HS.out.2.1.below hb7, HS.out.2.2.1.below hb7, HS.out.2.2.2.1.anyB hb7, HS.out.2.2.2.2.anyB hb7⟩; have HK7 : Box ((w7.cell? ⟨ga, 0, none⟩ = some (.int .i64 d.kind) ∧ w7.cell? ⟨ga, 1, none⟩ = some (.int .i64 d.fn) ∧ w7.cell? ⟨ga, 2, none⟩ = some (.int .i64 d.win) ∧ w7.cell? ⟨ga, 3, none⟩ = some (.int .i64 d.off) ∧ w7.cell? ⟨ga, 4, none⟩ = some (.int .i64 d.k) ∧ w7.cell? ⟨ga, 5, none⟩ = some (.int .i64 d.num) ∧ w7.cell? ⟨ga, 6, none⟩ = some (.int .i64 d.den) ∧ w7.cell? ⟨ga, 7, none⟩ = some (.string d.name) ∧ w7.cell? ⟨ga, 8, none⟩ = some ((.slice A1 d.ms.length c1)) ∧ w7.cell? ⟨ga, 9, none⟩ = some ((.slice A2 d.bys.length c2))) ∧ (w7.cell? ⟨(ga + 1), 0, none⟩ = some (.int .i64 e.kind) ∧ w7.cell? ⟨(ga + 1), 1, none⟩ = some (.int .i64 e.fn) ∧ w7.cell? ⟨(ga + 1), 2, none⟩ = some (.int .i64 e.win) ∧ w7.cell? ⟨(ga + 1), 3, none⟩ = some (.int .i64 e.off) ∧ w7.cell? ⟨(ga + 1), 4, none⟩ = some (.int .i64 e.k) ∧ w7.cell? ⟨(ga + 1), 5, none⟩ = some (.int .i64 e.num) ∧ w7.cell? ⟨(ga + 1), 6, none⟩ = some (.int .i64 e.den) ∧ w7.cell? ⟨(ga + 1), 7, none⟩ = some (.string e.name) ∧ w7.cell? ⟨(ga + 1), 8, none⟩ = some ((.slice B1 e.ms.length e1)) ∧ w7.cell? ⟨(ga + 1), 9, none⟩ = some ((.slice B2 e.bys.length e2)))) := ⟨blk10z HS7.out.2.1, blk10z HS7.out.2.2.1⟩; clear HS HK hb7; have HS := Box.mk HS7.out; have HK := Box.mk HK7.out; clear HS7 HK7)
   | (go_at_call 68; (with_reducible refine (rnode_any e B1 B2 e.ms.length e1 e.bys.length e2 _).mono ?_); rintro e7 w7 ⟨rfl, hb7⟩; have HS7 : Box (Below ga w w7 ∧ Blk w7 ga 45 (insC d (.slice A1 d.ms.length c1) (.slice A2 d.bys.length c2)) ∧ Blk w7 (ga + 1) 45 (insC e (.slice B1 e.ms.length e1) (.slice B2 e.bys.length e2)) ∧ InsAt w7 AnyP d (.slice A1 d.ms.length c1) (.slice A2 d.bys.length c2) ∧ InsAt w7 AnyP e (.slice B1 e.ms.length e1) (.slice B2 e.bys.length e2)) := ⟨bthen HS.out.1 hb7 (Nat.le_of_eq HGA.out.symm), HS.out.2.1.below hb7, HS.out.2.2.1.below hb7, HS.out.2.2.2.1.anyB hb7, HS.out.2.2.2.2.anyB hb7⟩; have HK7 : Box ((w7.cell? ⟨ga, 0, none⟩ = some (.int .i64 d.kind) ∧ w7.cell? ⟨ga, 1, none⟩ = some (.int .i64 d.fn) ∧ w7.cell? ⟨ga, 2, none⟩ = some (.int .i64 d.win) ∧ w7.cell? ⟨ga, 3, none⟩ = some (.int .i64 d.off) ∧ w7.cell? ⟨ga, 4, none⟩ = some (.int .i64 d.k) ∧ w7.cell? ⟨ga, 5, none⟩ = some (.int .i64 d.num) ∧ w7.cell? ⟨ga, 6, none⟩ = some (.int .i64 d.den) ∧ w7.cell? ⟨ga, 7, none⟩ = some (.string d.name) ∧ w7.cell? ⟨ga, 8, none⟩ = some ((.slice A1 d.ms.length c1)) ∧ w7.cell? ⟨ga, 9, none⟩ = some ((.slice A2 d.bys.length c2))) ∧ (w7.cell? ⟨(ga + 1), 0, none⟩ = some (.int .i64 e.kind) ∧ w7.cell? ⟨(ga + 1), 1, none⟩ = some (.int .i64 e.fn) ∧ w7.cell? ⟨(ga + 1), 2, none⟩ = some (.int .i64 e.win) ∧ w7.cell? ⟨(ga + 1), 3, none⟩ = some (.int .i64 e.off) ∧ w7.cell? ⟨(ga + 1), 4, none⟩ = some (.int .i64 e.k) ∧ w7.cell? ⟨(ga + 1), 5, none⟩ = some (.int .i64 e.num) ∧ w7.cell? ⟨(ga + 1), 6, none⟩ = some (.int .i64 e.den) ∧ w7.cell? ⟨(ga + 1), 7, none⟩ = some (.string e.name) ∧ w7.cell? ⟨(ga + 1), 8, none⟩ = some ((.slice B1 e.ms.length e1)) ∧ w7.cell? ⟨(ga + 1), 9, none⟩ = some ((.slice B2 e.bys.length e2)))) := ⟨blk10z HS7.out.2.1, blk10z HS7.out.2.2.1⟩; clear HS HK hb7; have HS := Box.mk HS7.out; have HK := Box.mk HK7.out; clear HS7 HK7)
   | (go_at_call 39; (with_reducible refine (CE.out _ HS.out.2.2.2.1 HS.out.2.2.2.2).mono ?_); rintro e7 w7 ⟨rfl, hb7⟩; have HS7 : Box (Below ga w w7 ∧ Blk w7 ga 45 (insC d (.slice A1 d.ms.length c1) (.slice A2 d.bys.length c2)) ∧ Blk w7 (ga + 1) 45 (insC e (.slice B1 e.ms.length e1) (.slice B2 e.bys.length e2)) ∧ InsAt w7 AnyP d (.slice A1 d.ms.length c1) (.slice A2 d.bys.length c2) ∧ InsAt w7 AnyP e (.slice B1 e.ms.length e1) (.slice B2 e.bys.length e2)) := ⟨bthen HS.out.1 hb7 (Nat.le_of_eq HGA.out.symm), HS.out.2.1.below hb7, HS.out.2.2.1.below hb7, HS.out.2.2.2.1.anyB hb7, HS.out.2.2.2.2.anyB hb7⟩; have HK7 : Box ((w7.cell? ⟨ga, 0, none⟩ = some (.int .i64 d.kind) ∧ w7.cell? ⟨ga, 1, none⟩ = some (.int .i64 d.fn) ∧ w7.cell? ⟨ga, 2, none⟩ = some (.int .i64 d.win) ∧ w7.cell? ⟨ga, 3, none⟩ = some (.int .i64 d.off) ∧ w7.cell? ⟨ga, 4, none⟩ = some (.int .i64 d.k) ∧ w7.cell? ⟨ga, 5, none⟩ = some (.int .i64 d.num) ∧ w7.cell? ⟨ga, 6, none⟩ = some (.int .i64 d.den) ∧ w7.cell? ⟨ga, 7, none⟩ = some (.string d.name) ∧ w7.cell? ⟨ga, 8, none⟩ = some ((.slice A1 d.ms.length c1)) ∧ w7.cell? ⟨ga, 9, none⟩ = some ((.slice A2 d.bys.length c2))) ∧ (w7.cell? ⟨(ga + 1), 0, none⟩ = some (.int .i64 e.kind) ∧ w7.cell? ⟨(ga + 1), 1, none⟩ = some (.int .i64 e.fn) ∧ w7.cell? ⟨(ga + 1), 2, none⟩ = some (.int .i64 e.win) ∧ w7.cell? ⟨(ga + 1), 3, none⟩ = some (.int .i64 e.off) ∧ w7.cell? ⟨(ga + 1), 4, none⟩ = some (.int .i64 e.k) ∧ w7.cell? ⟨(ga + 1), 5, none⟩ = some (.int .i64 e.num) ∧ w7.cell? ⟨(ga + 1), 6, none⟩ = some (.int .i64 e.den) ∧ w7.cell? ⟨(ga + 1), 7, none⟩ = some (.string e.name) ∧ w7.cell? ⟨(ga + 1), 8, none⟩ = some ((.slice B1 e.ms.length e1)) ∧ w7.cell? ⟨(ga + 1), 9, none⟩ = some ((.slice B2 e.bys.length e2)))) := ⟨blk10z HS7.out.2.1, blk10z HS7.out.2.2.1⟩; clear HS HK hb7; have HS := Box.mk HS7.out; have HK := Box.mk HK7.out; clear HS7 HK7))
 all_goals
  go_wp2_with fail
  go_ret
  exact ⟨rfl, by rw [HGA.out]; exact HS.out.1⟩
theorem all_take {p q : List Nd} {k : Nat} {x y : Nd} (hx : p[k]? = some x) (hy : q[k]? = some y) (f : Nd × Nd → Bool) : ((p.take (k + 1)).zip (q.take (k + 1))).all f = (((p.take k).zip (q.take k)).all f && f (x, y)) := by
 have h1 := (List.getElem?_eq_some_iff.1 hx).1
 have h2 := (List.getElem?_eq_some_iff.1 hy).1
 rw [show p.take (k + 1) = p.take k ++ [x] by rw [List.take_add_one, hx]; rfl, show q.take (k + 1) = q.take k ++ [y] by rw [List.take_add_one, hy]; rfl, List.zip_append (by simp; omega), List.all_append]
 simp
theorem all_false {p q : List Nd} {k : Nat} {x y : Nd} (hx : p[k]? = some x) (hy : q[k]? = some y) (f : Nd × Nd → Bool) (h : f (x, y) = false) : (p.zip q).all f = false := by
 rw [List.all_eq_false]
 exact ⟨(x, y), List.mem_of_getElem? (i := k) (by rw [List.getElem?_zip_eq_some]; exact ⟨hx, hy⟩), by rw [h]; decide⟩
theorem PlanP.anyB {w w' : World} {P : Nat → Nat → Prop} {v : Value} {l : List Nd} (h : PlanP w P v l) (f : Below w.heap.size w w') : PlanP w' AnyP v l := ((h.mono (Q := fun b _ => b < w.heap.size) fun _ _ hb _ => hb).keep (Agree.of_lt f fun _ _ h => h)).mono fun _ _ _ _ => trivial
set_option maxHeartbeats 4000000 in
set_option maxRecDepth 100000 in
theorem rsame_any (va vb : Value) (a b : List Nd) (w : World) (ha : PlanP w AnyP va a) (hb : PlanP w AnyP vb b) : Calls Tryd.prog 31 #[va, vb] w (RetB (.bool (sameP a b)) w) := by
 obtain ⟨A, ca, rfl, la⟩ := ha.form
 obtain ⟨B, cb, rfl, lb⟩ := hb.form
 have HP := Box.mk (And.intro ha hb)
 clear ha hb
 by_cases hl : a.length = b.length
 ·have HL := Box.mk hl
  have hl1 : (a.length != b.length) = false := by simpa using hl
  have hl2 : (a.length == b.length) = true := by simpa using hl
  have hl3 : ((a.length : Int) != (b.length : Int)) = false := by simp [hl]
  have hl4 : ((a.length : Int) == (b.length : Int)) = true := by simp [hl]
  have HSM : Box (sameP a b = (a.zip b).all fun x => eqT (leafT x.1) (leafT x.2)) := ⟨by unfold sameP; rw [hl2, Bool.true_and]⟩
  clear hl
  go_enter Tryd.func31, Tryd.ntmps31
  go_wp2_with fail
  go_loopw [5] (fun v wr => ∃ k : Nat, k ≤ a.length ∧ v = .int .i64 (k : Nat) ∧ Box (((a.take k).zip (b.take k)).all (fun x => eqT (leafT x.1) (leafT x.2)) = true) ∧ Box (Below w.heap.size w wr ∧ PlanP wr AnyP (.slice A a.length ca) a ∧ PlanP wr AnyP (.slice B b.length cb) b)) (fun v _ => a.length - (intOf v).toNat)
  case atStart => exact ⟨0, by omega, rfl, ⟨by simp⟩, ⟨Below.refl _ _, HP.out.1, HP.out.2⟩⟩
  case round =>
   clear HP
   obtain ⟨k, hk, rfl, HA, HS⟩ := hrel
   by_cases hlt : k < a.length
   ·obtain ⟨x, hx⟩ : ∃ x, a[k]? = some x := ⟨a[k], List.getElem?_eq_getElem _⟩
    obtain ⟨y, hy⟩ : ∃ y, b[k]? = some y := ⟨b[k]'(by rw [← HL.out]; exact hlt), List.getElem?_eq_getElem _⟩
    obtain ⟨xb, xo, xm, xv, rfl, xlt, -, xc, xi⟩ := HS.out.2.1.at_ k x hx
    obtain ⟨yb, yo, ym, yv, rfl, ylt, -, yc, yi⟩ := HS.out.2.2.at_ k y hy
    obtain ⟨M1, m1, rfl, -⟩ := xi.ms.form
    obtain ⟨M2, m2, rfl, -⟩ := xi.bys.form
    obtain ⟨N1, n1, rfl, -⟩ := yi.ms.form
    obtain ⟨N2, n2, rfl, -⟩ := yi.bys.form
    have hlt2 : (k : Int) < (a.length : Int) := by omega
    have hlt3 : (k : Int) < (b.length : Int) := by have := HL.out; omega
    have hk0 : (0 : Int) ≤ (k : Int) := by omega
    have hlt4 : k < b.length := by have := HL.out; omega
    have HXY := Box.mk (And.intro hx hy)
    have HI := Box.mk (And.intro xi yi)
    have HK : Box ((wr.drew.cell? ⟨xb, xo + k * 10, none⟩ = some (.int .i64 x.kind) ∧ wr.drew.cell? ⟨xb, xo + k * 10 + 1, none⟩ = some (.int .i64 x.fn) ∧ wr.drew.cell? ⟨xb, xo + k * 10 + 2, none⟩ = some (.int .i64 x.win) ∧ wr.drew.cell? ⟨xb, xo + k * 10 + 3, none⟩ = some (.int .i64 x.off) ∧ wr.drew.cell? ⟨xb, xo + k * 10 + 4, none⟩ = some (.int .i64 x.k) ∧ wr.drew.cell? ⟨xb, xo + k * 10 + 5, none⟩ = some (.int .i64 x.num) ∧ wr.drew.cell? ⟨xb, xo + k * 10 + 6, none⟩ = some (.int .i64 x.den) ∧ wr.drew.cell? ⟨xb, xo + k * 10 + 7, none⟩ = some (.string x.name) ∧ wr.drew.cell? ⟨xb, xo + k * 10 + 8, none⟩ = some ((.slice M1 x.ms.length m1)) ∧ wr.drew.cell? ⟨xb, xo + k * 10 + 9, none⟩ = some ((.slice M2 x.bys.length m2))) ∧ (wr.drew.cell? ⟨yb, yo + k * 10, none⟩ = some (.int .i64 y.kind) ∧ wr.drew.cell? ⟨yb, yo + k * 10 + 1, none⟩ = some (.int .i64 y.fn) ∧ wr.drew.cell? ⟨yb, yo + k * 10 + 2, none⟩ = some (.int .i64 y.win) ∧ wr.drew.cell? ⟨yb, yo + k * 10 + 3, none⟩ = some (.int .i64 y.off) ∧ wr.drew.cell? ⟨yb, yo + k * 10 + 4, none⟩ = some (.int .i64 y.k) ∧ wr.drew.cell? ⟨yb, yo + k * 10 + 5, none⟩ = some (.int .i64 y.num) ∧ wr.drew.cell? ⟨yb, yo + k * 10 + 6, none⟩ = some (.int .i64 y.den) ∧ wr.drew.cell? ⟨yb, yo + k * 10 + 7, none⟩ = some (.string y.name) ∧ wr.drew.cell? ⟨yb, yo + k * 10 + 8, none⟩ = some ((.slice N1 y.ms.length n1)) ∧ wr.drew.cell? ⟨yb, yo + k * 10 + 9, none⟩ = some ((.slice N2 y.bys.length n2)))) := ⟨xc, yc⟩
    clear hx hy xi yi xc yc
    have CS : Box (∀ q, eqT (leafT x) (leafT y) = q → Calls Tryd.prog 58 #[.agg (insC x (.slice M1 x.ms.length m1) (.slice M2 x.bys.length m2)), .agg (insC y (.slice N1 y.ms.length n1) (.slice N2 y.bys.length n2))] wr.drew (RetB (.bool q) wr.drew)) := ⟨fun q hq => by rw [← hq]; exact rsameins_any x y _ _ _ _ _ (HI.out.1.anyB (below_drewN wr 1)) (HI.out.2.anyB (below_drewN wr 1))⟩
    cases hq : eqT (leafT x) (leafT y) with
    | true =>
     have HQ := Box.mk hq
     have CT := Box.mk (CS.out true hq)
     clear hq CS
     go_upto_region 6 with (fail)
     go_region_held3 (fun w' => (w'.cell? ⟨xb, xo + k * 10, none⟩ = some (.int .i64 x.kind) ∧ w'.cell? ⟨xb, xo + k * 10 + 1, none⟩ = some (.int .i64 x.fn) ∧ w'.cell? ⟨xb, xo + k * 10 + 2, none⟩ = some (.int .i64 x.win) ∧ w'.cell? ⟨xb, xo + k * 10 + 3, none⟩ = some (.int .i64 x.off) ∧ w'.cell? ⟨xb, xo + k * 10 + 4, none⟩ = some (.int .i64 x.k) ∧ w'.cell? ⟨xb, xo + k * 10 + 5, none⟩ = some (.int .i64 x.num) ∧ w'.cell? ⟨xb, xo + k * 10 + 6, none⟩ = some (.int .i64 x.den) ∧ w'.cell? ⟨xb, xo + k * 10 + 7, none⟩ = some (.string x.name) ∧ w'.cell? ⟨xb, xo + k * 10 + 8, none⟩ = some ((.slice M1 x.ms.length m1)) ∧ w'.cell? ⟨xb, xo + k * 10 + 9, none⟩ = some ((.slice M2 x.bys.length m2))) ∧ (w'.cell? ⟨yb, yo + k * 10, none⟩ = some (.int .i64 y.kind) ∧ w'.cell? ⟨yb, yo + k * 10 + 1, none⟩ = some (.int .i64 y.fn) ∧ w'.cell? ⟨yb, yo + k * 10 + 2, none⟩ = some (.int .i64 y.win) ∧ w'.cell? ⟨yb, yo + k * 10 + 3, none⟩ = some (.int .i64 y.off) ∧ w'.cell? ⟨yb, yo + k * 10 + 4, none⟩ = some (.int .i64 y.k) ∧ w'.cell? ⟨yb, yo + k * 10 + 5, none⟩ = some (.int .i64 y.num) ∧ w'.cell? ⟨yb, yo + k * 10 + 6, none⟩ = some (.int .i64 y.den) ∧ w'.cell? ⟨yb, yo + k * 10 + 7, none⟩ = some (.string y.name) ∧ w'.cell? ⟨yb, yo + k * 10 + 8, none⟩ = some ((.slice N1 y.ms.length n1)) ∧ w'.cell? ⟨yb, yo + k * 10 + 9, none⟩ = some ((.slice N2 y.bys.length n2)))) (first | with_reducible exact HK.out | go_keep)
      ((go_at_call 58; (with_reducible refine (CT.out).mono ?_); rintro e7 w7 ⟨rfl, hb7⟩; have HK7 : Box ((w7.cell? ⟨xb, xo + k * 10, none⟩ = some (.int .i64 x.kind) ∧ w7.cell? ⟨xb, xo + k * 10 + 1, none⟩ = some (.int .i64 x.fn) ∧ w7.cell? ⟨xb, xo + k * 10 + 2, none⟩ = some (.int .i64 x.win) ∧ w7.cell? ⟨xb, xo + k * 10 + 3, none⟩ = some (.int .i64 x.off) ∧ w7.cell? ⟨xb, xo + k * 10 + 4, none⟩ = some (.int .i64 x.k) ∧ w7.cell? ⟨xb, xo + k * 10 + 5, none⟩ = some (.int .i64 x.num) ∧ w7.cell? ⟨xb, xo + k * 10 + 6, none⟩ = some (.int .i64 x.den) ∧ w7.cell? ⟨xb, xo + k * 10 + 7, none⟩ = some (.string x.name) ∧ w7.cell? ⟨xb, xo + k * 10 + 8, none⟩ = some ((.slice M1 x.ms.length m1)) ∧ w7.cell? ⟨xb, xo + k * 10 + 9, none⟩ = some ((.slice M2 x.bys.length m2))) ∧ (w7.cell? ⟨yb, yo + k * 10, none⟩ = some (.int .i64 y.kind) ∧ w7.cell? ⟨yb, yo + k * 10 + 1, none⟩ = some (.int .i64 y.fn) ∧ w7.cell? ⟨yb, yo + k * 10 + 2, none⟩ = some (.int .i64 y.win) ∧ w7.cell? ⟨yb, yo + k * 10 + 3, none⟩ = some (.int .i64 y.off) ∧ w7.cell? ⟨yb, yo + k * 10 + 4, none⟩ = some (.int .i64 y.k) ∧ w7.cell? ⟨yb, yo + k * 10 + 5, none⟩ = some (.int .i64 y.num) ∧ w7.cell? ⟨yb, yo + k * 10 + 6, none⟩ = some (.int .i64 y.den) ∧ w7.cell? ⟨yb, yo + k * 10 + 7, none⟩ = some (.string y.name) ∧ w7.cell? ⟨yb, yo + k * 10 + 8, none⟩ = some ((.slice N1 y.ms.length n1)) ∧ w7.cell? ⟨yb, yo + k * 10 + 9, none⟩ = some ((.slice N2 y.bys.length n2)))) := ⟨At10.keep HK.out.1 hb7 xlt, At10.keep HK.out.2 hb7 ylt⟩; have HS7 : Box (Below w.heap.size w w7 ∧ PlanP w7 AnyP (.slice (some ⟨xb, xo, none⟩) a.length ca) a ∧ PlanP w7 AnyP (.slice (some ⟨yb, yo, none⟩) b.length cb) b) := ⟨bthen HS.out.1.drew hb7 (Nat.le_refl _), HS.out.2.1.anyB ((below_drewN wr 1).trans hb7), HS.out.2.2.anyB ((below_drewN wr 1).trans hb7)⟩; clear HK HS hb7; have HK := Box.mk HK7.out; clear HK7))
     go_wp2_with fail
     go_roundw
     case rel => exact ⟨k + 1, by omega, by go_num, ⟨by rw [all_take HXY.out.1 HXY.out.2, HA.out, Bool.true_and]; exact HQ.out⟩, HS7⟩
     case measure => simp [intOf]; omega
    | false =>
     have HQ := Box.mk hq
     have CT := Box.mk (CS.out false hq)
     clear hq CS
     go_upto_region 6 with (fail)
     go_region_held3 (fun w' => (w'.cell? ⟨xb, xo + k * 10, none⟩ = some (.int .i64 x.kind) ∧ w'.cell? ⟨xb, xo + k * 10 + 1, none⟩ = some (.int .i64 x.fn) ∧ w'.cell? ⟨xb, xo + k * 10 + 2, none⟩ = some (.int .i64 x.win) ∧ w'.cell? ⟨xb, xo + k * 10 + 3, none⟩ = some (.int .i64 x.off) ∧ w'.cell? ⟨xb, xo + k * 10 + 4, none⟩ = some (.int .i64 x.k) ∧ w'.cell? ⟨xb, xo + k * 10 + 5, none⟩ = some (.int .i64 x.num) ∧ w'.cell? ⟨xb, xo + k * 10 + 6, none⟩ = some (.int .i64 x.den) ∧ w'.cell? ⟨xb, xo + k * 10 + 7, none⟩ = some (.string x.name) ∧ w'.cell? ⟨xb, xo + k * 10 + 8, none⟩ = some ((.slice M1 x.ms.length m1)) ∧ w'.cell? ⟨xb, xo + k * 10 + 9, none⟩ = some ((.slice M2 x.bys.length m2))) ∧ (w'.cell? ⟨yb, yo + k * 10, none⟩ = some (.int .i64 y.kind) ∧ w'.cell? ⟨yb, yo + k * 10 + 1, none⟩ = some (.int .i64 y.fn) ∧ w'.cell? ⟨yb, yo + k * 10 + 2, none⟩ = some (.int .i64 y.win) ∧ w'.cell? ⟨yb, yo + k * 10 + 3, none⟩ = some (.int .i64 y.off) ∧ w'.cell? ⟨yb, yo + k * 10 + 4, none⟩ = some (.int .i64 y.k) ∧ w'.cell? ⟨yb, yo + k * 10 + 5, none⟩ = some (.int .i64 y.num) ∧ w'.cell? ⟨yb, yo + k * 10 + 6, none⟩ = some (.int .i64 y.den) ∧ w'.cell? ⟨yb, yo + k * 10 + 7, none⟩ = some (.string y.name) ∧ w'.cell? ⟨yb, yo + k * 10 + 8, none⟩ = some ((.slice N1 y.ms.length n1)) ∧ w'.cell? ⟨yb, yo + k * 10 + 9, none⟩ = some ((.slice N2 y.bys.length n2)))) (first | with_reducible exact HK.out | go_keep)
      ((go_at_call 58; (with_reducible refine (CT.out).mono ?_); rintro e7 w7 ⟨rfl, hb7⟩; have HK7 : Box ((w7.cell? ⟨xb, xo + k * 10, none⟩ = some (.int .i64 x.kind) ∧ w7.cell? ⟨xb, xo + k * 10 + 1, none⟩ = some (.int .i64 x.fn) ∧ w7.cell? ⟨xb, xo + k * 10 + 2, none⟩ = some (.int .i64 x.win) ∧ w7.cell? ⟨xb, xo + k * 10 + 3, none⟩ = some (.int .i64 x.off) ∧ w7.cell? ⟨xb, xo + k * 10 + 4, none⟩ = some (.int .i64 x.k) ∧ w7.cell? ⟨xb, xo + k * 10 + 5, none⟩ = some (.int .i64 x.num) ∧ w7.cell? ⟨xb, xo + k * 10 + 6, none⟩ = some (.int .i64 x.den) ∧ w7.cell? ⟨xb, xo + k * 10 + 7, none⟩ = some (.string x.name) ∧ w7.cell? ⟨xb, xo + k * 10 + 8, none⟩ = some ((.slice M1 x.ms.length m1)) ∧ w7.cell? ⟨xb, xo + k * 10 + 9, none⟩ = some ((.slice M2 x.bys.length m2))) ∧ (w7.cell? ⟨yb, yo + k * 10, none⟩ = some (.int .i64 y.kind) ∧ w7.cell? ⟨yb, yo + k * 10 + 1, none⟩ = some (.int .i64 y.fn) ∧ w7.cell? ⟨yb, yo + k * 10 + 2, none⟩ = some (.int .i64 y.win) ∧ w7.cell? ⟨yb, yo + k * 10 + 3, none⟩ = some (.int .i64 y.off) ∧ w7.cell? ⟨yb, yo + k * 10 + 4, none⟩ = some (.int .i64 y.k) ∧ w7.cell? ⟨yb, yo + k * 10 + 5, none⟩ = some (.int .i64 y.num) ∧ w7.cell? ⟨yb, yo + k * 10 + 6, none⟩ = some (.int .i64 y.den) ∧ w7.cell? ⟨yb, yo + k * 10 + 7, none⟩ = some (.string y.name) ∧ w7.cell? ⟨yb, yo + k * 10 + 8, none⟩ = some ((.slice N1 y.ms.length n1)) ∧ w7.cell? ⟨yb, yo + k * 10 + 9, none⟩ = some ((.slice N2 y.bys.length n2)))) := ⟨At10.keep HK.out.1 hb7 xlt, At10.keep HK.out.2 hb7 ylt⟩; have HS7 : Box (Below w.heap.size w w7) := ⟨bthen HS.out.1.drew hb7 (Nat.le_refl _)⟩; clear HK HS hb7; have HK := Box.mk HK7.out; clear HK7))
     go_wp2_with fail
     go_ret
     exact ⟨by rw [HSM.out, all_false HXY.out.1 HXY.out.2 _ HQ.out]; rfl, HS7.out⟩
   ·have hlt2 : ¬ (k : Int) < (a.length : Int) := by omega
    have hke : k = a.length := by omega
    go_wp2_with fail
    go_ret
    refine ⟨?_, HS.out.1⟩
    have h := HA.out
    rw [hke, List.take_length, HL.out, List.take_length] at h
    rw [HSM.out, h]; rfl
 ·have hl1 : (a.length != b.length) = true := by simpa using hl
  have hl2 : (a.length == b.length) = false := by simpa using hl
  have hl3 : ((a.length : Int) != (b.length : Int)) = true := by simp; omega
  have hl4 : ((a.length : Int) == (b.length : Int)) = false := by simp; omega
  have HSM : Box (sameP a b = false) := ⟨by unfold sameP; rw [hl2, Bool.false_and]⟩
  clear hl
  go_enter Tryd.func31, Tryd.ntmps31
  go_wp2_with fail
  go_ret
  exact ⟨by rw [HSM.out]; rfl, Below.refl _ _⟩
end
end Go.Proofs.YtipafbppaaflcaaDoor
