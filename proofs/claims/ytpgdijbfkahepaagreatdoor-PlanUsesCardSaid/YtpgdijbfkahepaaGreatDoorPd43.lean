/- Contracts, packed: Jo Jp Jq Jr Uq. -/
import Derived.Test.YtpgdijbfkahepaaGreatDoorPd28
import Derived.Test.YtpgdijbfkahepaaGreatDoorPd30
import Derived.Test.YtpgdijbfkahepaaGreatDoorPd34
import Derived.Test.YtpgdijbfkahepaaGreatDoorPd42
import Derived.Deep.RegionHeld3
set_option linter.unusedVariables false
set_option linter.unusedSimpArgs false
namespace Go.Proofs.YtpgdijbfkahepaaGreatDoor
section
open Go.RowKit FracM
end
section
open Go.RowKit FracM
end
section
open Go.RowKit FracM
end
section
open Go.RowKit FracM
end
section
open Go.RowKit FracM
theorem compileM_ok {t : Tree} (h : validE t = 0) : compileM t = (postT t, 0) := if_pos h
theorem compileM_no {t : Tree} (h : validE t ≠ 0) : compileM t = ([], validE t) := if_neg h
theorem blk10z {W : World} {g : Nat} {t : TypeId} {d : Nd} {mv bv : Value} (h : Blk W g t (insC d mv bv)) : (W.cell? ⟨g, 0, none⟩ = some (.int .i64 d.kind) ∧ W.cell? ⟨g, 1, none⟩ = some (.int .i64 d.fn) ∧ W.cell? ⟨g, 2, none⟩ = some (.int .i64 d.win) ∧ W.cell? ⟨g, 3, none⟩ = some (.int .i64 d.off) ∧ W.cell? ⟨g, 4, none⟩ = some (.int .i64 d.k) ∧ W.cell? ⟨g, 5, none⟩ = some (.int .i64 d.num) ∧ W.cell? ⟨g, 6, none⟩ = some (.int .i64 d.den) ∧ W.cell? ⟨g, 7, none⟩ = some (.string d.name) ∧ W.cell? ⟨g, 8, none⟩ = some (mv) ∧ W.cell? ⟨g, 9, none⟩ = some (bv)) := by
 unfold Blk at h
 refine ⟨?_, ?_, ?_, ?_, ?_, ?_, ?_, ?_, ?_, ?_⟩ <;> simp [World.cell?, h]
theorem InsAt.leaf {w : World} {P : Nat → Nat → Prop} {d : Nd} {mv bv : Value} (h : InsAt w P d mv bv) : TreeAt w P (leafT d) (mv, bv, .slice none 0 0) :=
 .mk d [] mv bv _ [] h.ok h.ms h.bys rfl (SeqP.nil _ _ _) fun i t c h => by simp at h
theorem InsAt.any {w : World} {P : Nat → Nat → Prop} {d : Nd} {mv bv : Value} (h : InsAt w P d mv bv) : InsAt w AnyP d mv bv := h.mono fun _ _ _ _ => trivial
/-- a plan that is compiled, with the error -/
def RetPlE (p : List Nd × Int) (P : Nat → Nat → Prop) (w : World) (e : Ending) (w' : World) : Prop := ∃ v, e = .returned (.tuple #[v, .int .i64 p.2]) ∧ PlW w' w.heap.size (fun b z => P b z ∧ b < w.heap.size) v p.1 ∧ Below w.heap.size w w'
set_option maxHeartbeats 4000000 in
set_option maxRecDepth 100000 in
theorem rcompile_any (t : Tree) (P : Nat → Nat → Prop) (w : World) (s : Sl) (hT : TreeAt w P t s) (hn : nds t ≤ 1000000) (hd : dep t ≤ 1000000) : Calls Tryz.prog 5 #[.agg (ndC t.d s.1 s.2.1 s.2.2)] w (RetPlE (compileM t) P w) := by
 obtain ⟨d, ks⟩ := t
 obtain ⟨mv, bv, kv⟩ := s
 obtain ⟨A1, c1, rfl, -⟩ := hT.nod.ms.form
 obtain ⟨A2, c2, rfl, -⟩ := hT.nod.bys.form
 obtain ⟨A3, c3, rfl, -⟩ := hT.nod.kform
 have HT := Box.mk hT
 have HN := Box.mk (And.intro hn hd)
 have HS0 : Box (Below w.heap.size w (w.alloc (.cells (ndC d (.slice A1 d.ms.length c1) (.slice A2 d.bys.length c2) (.slice A3 ks.length c3)) 35)) ∧ Blk (w.alloc (.cells (ndC d (.slice A1 d.ms.length c1) (.slice A2 d.bys.length c2) (.slice A3 ks.length c3)) 35)) w.heap.size 35 (ndC d (.slice A1 d.ms.length c1) (.slice A2 d.bys.length c2) (.slice A3 ks.length c3)) ∧ TreeAt (w.alloc (.cells (ndC d (.slice A1 d.ms.length c1) (.slice A2 d.bys.length c2) (.slice A3 ks.length c3)) 35)) P (.node d ks) (.slice A1 d.ms.length c1, .slice A2 d.bys.length c2, .slice A3 ks.length c3)) := ⟨bel1 _ _, Blk.new _ _ _, hT.belo (bel1 _ _)⟩
 obtain ⟨er, her⟩ : ∃ er, validE (.node d ks) = er := ⟨_, rfl⟩
 have HE := Box.mk her
 have HLT : Box (TreeAt w (fun b z => P b z ∧ b < w.heap.size) (.node d ks) (.slice A1 d.ms.length c1, .slice A2 d.bys.length c2, .slice A3 ks.length c3)) := ⟨hT.mono fun b z hb hp => ⟨hp, hb⟩⟩
 clear hT hn hd her
 simp only [Tree.d]
 go_enter Tryz.func5, Tryz.ntmps5
 go_upto_region 1 with (fail)
 generalize w.alloc (.cells (ndC d _ _ _) 35) = W at HS0 ⊢
 obtain ⟨k0, k1, k2, k3, k4, k5, k6, k7, k8, k9, k10⟩ := blk11z HS0.out.2.1
 have CV : Box (Calls Tryz.prog 14 #[.agg (ndC d (.slice A1 d.ms.length c1) (.slice A2 d.bys.length c2) (.slice A3 ks.length c3))] W (RetB (.int .i64 er) W)) := ⟨by rw [← HE.out]; exact rpvalid_any (.node d ks) P W (.slice A1 d.ms.length c1, .slice A2 d.bys.length c2, .slice A3 ks.length c3) HS0.out.2.2 HN.out.1 HN.out.2⟩
 by_cases h0 : er = 0
 ·subst h0
  go_wp2_with fail
  refine (CV.out).mono ?_
  rintro e1 w1 ⟨rfl, hb1⟩
  have HS1 : Box (Below w.heap.size w w1 ∧ Blk w1 w.heap.size 35 (ndC d (.slice A1 d.ms.length c1) (.slice A2 d.bys.length c2) (.slice A3 ks.length c3)) ∧ TreeAt w1 (fun b z => P b z ∧ b < w.heap.size) (.node d ks) (.slice A1 d.ms.length c1, .slice A2 d.bys.length c2, .slice A3 ks.length c3)) := ⟨bthen HS0.out.1 hb1 (Nat.le_refl _), HS0.out.2.1.below hb1, HLT.out.belo (bthen HS0.out.1 hb1 (Nat.le_refl _))⟩
  clear k0 k1 k2 k3 k4 k5 k6 k7 k8 k9 k10 CV hb1
  obtain ⟨k0, k1, k2, k3, k4, k5, k6, k7, k8, k9, k10⟩ := blk11z HS1.out.2.1
  have CP : Box (Calls Tryz.prog 15 #[.agg (ndC d (.slice A1 d.ms.length c1) (.slice A2 d.bys.length c2) (.slice A3 ks.length c3))] w1 (RetPl (postT (.node d ks)) (fun b z => P b z ∧ b < w.heap.size) w1)) := ⟨rpostfix_any (.node d ks) _ w1 (.slice A1 d.ms.length c1, .slice A2 d.bys.length c2, .slice A3 ks.length c3) HS1.out.2.2 HN.out.1⟩
  go_wp2_with fail
  with_reducible refine (CP.out).mono ?_
  rintro e2 w2 ⟨v2, rfl, hp2, hb2⟩
  have hz := HS1.out.1.size
  obtain ⟨A9, c9, rfl⟩ := hp2.form
  have HR : Box (PlW w2 w.heap.size (fun b z => P b z ∧ b < w.heap.size) (.slice A9 (postT (.node d ks)).length c9) (postT (.node d ks)) ∧ Below w.heap.size w w2) := ⟨(hp2.mono fun b z _ h => h.1).base hz, bthen HS1.out.1 hb2 (Nat.le_refl _)⟩
  clear hp2 hb2 k0 k1 k2 k3 k4 k5 k6 k7 k8 k9 k10 CP
  go_wp2_with fail
  go_ret2
  exact ⟨_, by rw [compileM_ok HE.out]; rfl, by rw [compileM_ok HE.out]; exact HR.out.1, HR.out.2⟩
 ·have h1 : (er != 0) = true := by simpa using h0
  have h2 : (er == 0) = false := by simpa using h0
  have H0 := Box.mk h0
  clear h0
  go_wp2_with fail
  refine (CV.out).mono ?_
  rintro e1 w1 ⟨rfl, hb1⟩
  have HS1 : Box (Below w.heap.size w w1) := ⟨bthen HS0.out.1 hb1 (Nat.le_refl _)⟩
  clear k0 k1 k2 k3 k4 k5 k6 k7 k8 k9 k10 CV hb1
  go_wp2_with fail
  go_ret2
  have HC : compileM (.node d ks) = ([], er) := by rw [compileM_no (by rw [HE.out]; exact H0.out), HE.out]
  exact ⟨_, by rw [HC]; rfl, by rw [HC]; exact PlW.nil _ _ _, HS1.out⟩
theorem PlanP.anyB {w w' : World} {P : Nat → Nat → Prop} {v : Value} {l : List Nd} (h : PlanP w P v l) (f : Below w.heap.size w w') : PlanP w' AnyP v l := ((h.mono (Q := fun b _ => b < w.heap.size) fun _ _ hb _ => hb).keep (Agree.of_lt f fun _ _ h => h)).mono fun _ _ _ _ => trivial
end
end Go.Proofs.YtpgdijbfkahepaaGreatDoor
