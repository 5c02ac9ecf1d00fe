/- Contracts, packed: Ak Uy Aa. -/
import Derived.Test.YtkdojgkiclndfaaGreatDoorPz1
import Derived.Test.YtkdojgkiclndfaaGreatDoorPz27
import Derived.Test.YtkdojgkiclndfaaGreatDoorPz36
import Derived.Test.YtkdojgkiclndfaaGreatDoorPz39
import Derived.Test.YtkdojgkiclndfaaGreatDoorPz47
import Derived.Test.YtkdojgkiclndfaaGreatDoorPz48
set_option linter.unusedVariables false
set_option linter.unusedSimpArgs false
namespace Go.Proofs.YtkdojgkiclndfaaGreatDoor
section
open Go.RowKit FracM
theorem SeqP.matP {w : World} {P : Nat → Nat → Prop} {A : Option Addr} {n c : Nat} {l : List Mat} (h : SeqP w P 3 (.slice A n c) n (l.flatMap matCells)) (k : Nat) (x : Mat) (hx : l[k]? = some x) :
  ∃ b off, A = some ⟨b, off, none⟩ ∧ (∃ z, P b z) ∧ w.cell? ⟨b, off + k * 3, none⟩ = some (.string x.1) ∧ w.cell? ⟨b, off + k * 3 + 1, none⟩ = some (.int .i64 x.2.1) ∧ w.cell? ⟨b, off + k * 3 + 2, none⟩ = some (.string x.2.2) := by
 obtain ⟨b, off, h1, h2, h3, h4⟩ := h.mat k x hx
 refine ⟨b, off, h1, ?_, h2, h3, h4⟩
 have hk := (List.getElem?_eq_some_iff.1 hx).1
 obtain ⟨hl, A', c', hv, -, -, h5⟩ := h
 cases hv
 have hn : 0 < n := by
  rcases Nat.eq_zero_or_pos n with h0 | h0
  ·subst h0
   rw [flat_len matCells 3 (fun _ => rfl)] at hl
   omega
  ·exact h0
 obtain ⟨b', off', hA, -, hp, -⟩ := h5 hn
 rw [h1] at hA
 cases hA
 exact ⟨_, hp⟩
end
section
open Go.RowKit FracM
theorem PlanP.lit {w : World} {b : Nat} {P : Nat → Nat → Prop} {d : Nd} {mv bv : Value} (h : Blk w b 57 (insC d mv bv)) (hi : InsAt w P d mv bv) : PlanP w AnyP (.slice (some ⟨b, 0, none⟩) 1 1) [d] := by
 refine ⟨[(mv, bv)], ⟨rfl, some ⟨b, 0, none⟩, 1, rfl, Nat.le_refl _, by unfold maxLen; omega, fun _ => ⟨b, 0, rfl, h.lt, trivial, fun j u hu => ?_⟩⟩, rfl, fun i d' c h1 h2 => ?_⟩
 ·unfold Blk at h
  simp only [World.cell?, h, Nat.zero_add]
  simpa [insL] using hu
 ·cases i with
  | zero => simp at h1 h2; subst h1 h2; exact hi.any
  | succ i => simp at h1
def liveB : Nd := ⟨3, 0, 0, 0, 0, 0, 0, ⟨#[]⟩, [], []⟩
theorem liveB_ok : NdOk liveB := ⟨⟨(by unfold I64; decide), (by unfold I64; decide), (by unfold I64; decide), (by unfold I64; decide), (by unfold I64; decide), (by unfold I64; decide), (by unfold I64; decide)⟩, (by unfold maxLen; decide), (fun m h => by cases h), (fun m h => by cases h)⟩
theorem small_post {t : Tree} (h : validE t = 0) : ∀ d ∈ postT t, d.ms.length ≤ 1000000 ∧ d.bys.length ≤ 1000000 := fun d hd => by have := (postT_small h).2 d hd; omega
theorem live_post : ∃ d0 d1 d2, postT liveU = [d0, d1, d2] ∧ d0.win = 3 ∧ d2.kind = 3 := ⟨_, _, _, rfl, rfl, rfl⟩
set_option maxHeartbeats 8000000 in
set_option maxRecDepth 100000 in
theorem plives_true (w : World) (hl : WordsV w) : Calls Tryz.prog 10 #[] w (RetB (.bool true) w) := by
 have HL := Box.mk hl
 clear hl
 go_enter Tryz.func10, Tryz.ntmps10
 go_wp2_with fail
 refine (parse_at _ liveU 0 0 _ (by unfold maxLen; decide +kernel) HL.out live_q).mono ?_
 rintro e w1 ⟨mv, bv, kv, rfl, hT, hb⟩
 have HC : Box (compileM liveU = (postT liveU, 0)) := ⟨live_c⟩
 have HR : Box (reachM (postT liveU) = -3) := ⟨live_r⟩
 have HSM : Box (∀ d ∈ postT liveU, d.ms.length ≤ 1000000 ∧ d.bys.length ≤ 1000000) := ⟨small_post live_v⟩
 obtain ⟨d0, d1, d2, hpo, hw0, hk2⟩ := live_post
 obtain ⟨P, hP⟩ : ∃ P, postT liveU = P := ⟨_, rfl⟩
 rw [hP] at HC HR HSM hpo
 clear hP
 obtain ⟨T, hTe⟩ : ∃ T, liveU = T := ⟨_, rfl⟩
 rw [hTe] at hT HC ⊢
 clear hTe
 obtain ⟨d, ks⟩ := T
 obtain ⟨A1, c1, rfl, -⟩ := hT.nod.ms.form
 obtain ⟨A2, c2, rfl, -⟩ := hT.nod.bys.form
 obtain ⟨A3, c3, rfl, -⟩ := hT.nod.kform
 have HS1 : Box (Below w.heap.size w (w1.alloc (.cells (ndC d (.slice A1 d.ms.length c1) (.slice A2 d.bys.length c2) (.slice A3 ks.length c3)) 33)) ∧ Blk (w1.alloc (.cells (ndC d (.slice A1 d.ms.length c1) (.slice A2 d.bys.length c2) (.slice A3 ks.length c3)) 33)) w1.heap.size 33 (ndC d (.slice A1 d.ms.length c1) (.slice A2 d.bys.length c2) (.slice A3 ks.length c3)) ∧ TreeAt (w1.alloc (.cells (ndC d (.slice A1 d.ms.length c1) (.slice A2 d.bys.length c2) (.slice A3 ks.length c3)) 33)) (fun b _ => w.heap.size ≤ b) (.node d ks) (.slice A1 d.ms.length c1, .slice A2 d.bys.length c2, .slice A3 ks.length c3)) := ⟨bthen hb (bel1 _ _) (Nat.le_refl _), Blk.new _ _ _, hT.belo (bel1 _ _)⟩
 clear hT hb
 simp only [Tree.d]
 go_upto_region 2 with (fail)
 generalize w1.heap.size = g at *
 generalize w1.alloc (.cells (ndC d (.slice A1 d.ms.length c1) (.slice A2 d.bys.length c2) (.slice A3 ks.length c3)) 33) = W at *
 obtain ⟨k0, k1, k2, k3, k4, k5, k6, k7, k8, k9, k10⟩ := blk11z HS1.out.2.1
 have CC : Box (Calls Tryz.prog 18 #[.agg (ndC d (.slice A1 d.ms.length c1) (.slice A2 d.bys.length c2) (.slice A3 ks.length c3))] W (RetPlF (P, 0) W)) := ⟨by rw [← HC.out]; exact pcompile_any (.node d ks) _ W (.slice A1 d.ms.length c1, .slice A2 d.bys.length c2, .slice A3 ks.length c3) HS1.out.2.2 (wordsV_g (HL.out.below HS1.out.1))⟩
 go_wp2_with fail
 refine (CC.out).mono ?_
 rintro e w2 ⟨pv, rfl, hp, hb2⟩
 obtain ⟨B, cb, rfl⟩ := hp.form
 have HP2 : Box (PlanP w2 AnyP (.slice B P.length cb) P ∧ Below w.heap.size w w2) := ⟨hp.any, bthen HS1.out.1 hb2 (Nat.le_refl _)⟩
 clear k0 k1 k2 k3 k4 k5 k6 k7 k8 k9 k10
 clear hp hb2 CC HS1
 have hlen : P.length = 3 := by rw [hpo]; rfl
 rw [hlen] at HP2 ⊢
 have HLEN := Box.mk hlen
 clear hlen
 have HIB : Box (PlanP (w2.alloc (.cells (insC liveB (.slice none 0 0) (.slice none 0 0)) 57)) AnyP (.slice (some ⟨w2.heap.size, 0, none⟩) 1 1) [liveB] ∧ PlanP (w2.alloc (.cells (insC liveB (.slice none 0 0) (.slice none 0 0)) 57)) AnyP (.slice B 3 cb) P ∧ Below w.heap.size w (w2.alloc (.cells (insC liveB (.slice none 0 0) (.slice none 0 0)) 57))) := ⟨PlanP.lit (P := AnyP) (Blk.new _ _ _) ⟨liveB_ok, SeqP.nil _ _ _, SeqP.nil _ _ _⟩, HP2.out.1.anyB (bel1 _ _), bthen HP2.out.2 (bel1 _ _) (Nat.le_refl _)⟩
 have CB : Box (Calls Tryz.prog 24 #[.slice (some ⟨w2.heap.size, 0, none⟩) 1 1] (w2.alloc (.cells (insC liveB (.slice none 0 0) (.slice none 0 0)) 57)) (RetB (.int .i64 1) (w2.alloc (.cells (insC liveB (.slice none 0 0) (.slice none 0 0)) 57)))) := ⟨by have h := pcheck_any [liveB] _ _ HIB.out.1 (by intro d h; simp at h; subst h; decide) (wordsV_g (HL.out.below HIB.out.2.2)); rw [show (treeM [liveB]).2 = 1 from congrArg Prod.snd live_b] at h; exact h⟩
 go_wp2_with fail
 refine (CB.out).mono ?_
 rintro e w3 ⟨rfl, hb3⟩
 have HP3 : Box (PlanP w3 AnyP (.slice B 3 cb) P ∧ Below w.heap.size w w3) := ⟨HIB.out.2.1.anyB hb3, bthen HIB.out.2.2 hb3 (Nat.le_refl _)⟩
 clear hb3 CB HIB HP2
 obtain ⟨b0, o0, mv0, bv0, rfl, -, -, ⟨-, -, z2, -⟩, -⟩ := HP3.out.1.at_ 0 d0 (by rw [hpo]; rfl)
 obtain ⟨b0', o0', mv2, bv2, he, -, -, ⟨y0, -⟩, -⟩ := HP3.out.1.at_ 2 d2 (by rw [hpo]; rfl)
 cases he
 have x1 : w3.cell? ⟨b0, o0 + 2, none⟩ = some (.int .i64 3) := by rw [← hw0]; simpa using z2
 have x2 : w3.cell? ⟨b0, o0 + 20, none⟩ = some (.int .i64 3) := by rw [← hk2]; simpa using y0
 have CR : Box (Calls Tryz.prog 25 #[.slice (some ⟨b0, o0, none⟩) 3 cb] w3 (RetB (.int .i64 (-3)) w3)) := ⟨by rw [← HR.out]; exact preach_any P _ w3 HP3.out.1 HSM.out (wordsV_g (HL.out.below HP3.out.2))⟩
 clear z2 y0 hw0 hk2 hpo
 go_wp2_with fail
 refine (CR.out).mono ?_
 rintro e w4 ⟨rfl, hb4⟩
 have HB4 : Box (Below w.heap.size w w4) := ⟨bthen HP3.out.2 hb4 (Nat.le_refl _)⟩
 clear hb4 CR HP3 x1 x2
 go_wp2_with fail
 go_ret
 exact ⟨rfl, HB4.out⟩
end
section
open Go.RowKit FracM
theorem Ints.toP {w : World} {v : Value} {l : List Int} (h : Ints w w.heap.size v l) : IntsP w v l := by
 obtain ⟨⟨h1, A, c, hv, hn, hc, hx⟩, hz⟩ := h
 refine ⟨⟨h1, A, c, hv, hn, hc, fun h0 => ?_⟩, hz⟩
 obtain ⟨b, off, hA, hf, hcl⟩ := hx h0
 exact ⟨b, off, hA, hf.1, hf.1, hcl⟩
end
end Go.Proofs.YtkdojgkiclndfaaGreatDoor
