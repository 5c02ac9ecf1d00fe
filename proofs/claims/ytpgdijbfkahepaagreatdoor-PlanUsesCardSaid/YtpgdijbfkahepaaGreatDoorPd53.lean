/- Contracts, packed: Uy Aa Bv. -/
import Derived.Test.YtpgdijbfkahepaaGreatDoorPd31
import Derived.Test.YtpgdijbfkahepaaGreatDoorPd43
import Derived.Test.YtpgdijbfkahepaaGreatDoorPd47
import Derived.Test.YtpgdijbfkahepaaGreatDoorPd50
import Derived.Test.YtpgdijbfkahepaaGreatDoorPd51
import Derived.Test.YtpgdijbfkahepaaGreatDoorPd52
set_option linter.unusedVariables false
set_option linter.unusedSimpArgs false
namespace Go.Proofs.YtpgdijbfkahepaaGreatDoor
section
open Go.RowKit FracM
theorem PlanP.lit {w : World} {b : Nat} {P : Nat → Nat → Prop} {d : Nd} {mv bv : Value} (h : Blk w b 55 (insC d mv bv)) (hi : InsAt w P d mv bv) : PlanP w AnyP (.slice (some ⟨b, 0, none⟩) 1 1) [d] := by
 refine ⟨[(mv, bv)], ⟨rfl, some ⟨b, 0, none⟩, 1, rfl, Nat.le_refl _, by unfold maxLen; omega, fun _ => ⟨b, 0, rfl, h.lt, trivial, fun j u hu => ?_⟩⟩, rfl, fun i d' c h1 h2 => ?_⟩
 ·unfold Blk at h
  simp only [World.cell?, h, Nat.zero_add]
  simpa [insL] using hu
 ·cases i with
  | zero => simp at h1 h2; subst h1 h2; exact hi.any
  | succ i => simp at h1
def liveB : Nd := ⟨3, 0, 0, 0, 0, 0, 0, ⟨#[]⟩, [], []⟩
theorem liveB_ok : NdOk liveB := ⟨⟨(by unfold I64; decide), (by unfold I64; decide), (by unfold I64; decide), (by unfold I64; decide), (by unfold I64; decide), (by unfold I64; decide), (by unfold I64; decide)⟩, (by unfold maxLen; decide), (fun m h => by cases h), (fun m h => by cases h)⟩
theorem small_post {t : Tree} (h : validE t = 0) : ∀ d ∈ postT t, d.ms.length ≤ 1000000 ∧ d.bys.length ≤ 1000000 := fun d hd => by have := (postT_small h).2 d hd; omega
theorem live_post : ∃ d0 d1 d2, postT liveU = [d0, d1, d2] ∧ d0.win = 3 ∧ d2.kind = 3 := ⟨_, _, _, rfl, rfl, rfl⟩
set_option maxHeartbeats 8000000 in
set_option maxRecDepth 100000 in
theorem plives_true (w : World) (hl : WordsV w) : Calls Tryz.prog 11 #[] w (RetB (.bool true) w) := by
 have HL := Box.mk hl
 clear hl
 go_enter Tryz.func11, Tryz.ntmps11
 go_wp2_with fail
 refine (parse_at _ liveU 0 0 _ (by unfold maxLen; decide +kernel) HL.out live_q).mono ?_
 rintro e w1 ⟨mv, bv, kv, rfl, hT, hb⟩
 have HC : Box (compileM liveU = (postT liveU, 0)) := ⟨live_c⟩
 have HR : Box (reachM (postT liveU) = -3) := ⟨live_r⟩
 have HSM : Box (∀ d ∈ postT liveU, d.ms.length ≤ 1000000 ∧ d.bys.length ≤ 1000000) := ⟨small_post live_v⟩
 obtain ⟨d0, d1, d2, hpo, hw0, hk2⟩ := live_post
 obtain ⟨P, hP⟩ : ∃ P, postT liveU = P := ⟨_, rfl⟩
 rw [hP] at HC HR HSM hpo
 clear hP
 obtain ⟨T, hTe⟩ : ∃ T, liveU = T := ⟨_, rfl⟩
 rw [hTe] at hT HC ⊢
 clear hTe
 obtain ⟨d, ks⟩ := T
 obtain ⟨A1, c1, rfl, -⟩ := hT.nod.ms.form
 obtain ⟨A2, c2, rfl, -⟩ := hT.nod.bys.form
 obtain ⟨A3, c3, rfl, -⟩ := hT.nod.kform
 have HS1 : Box (Below w.heap.size w (w1.alloc (.cells (ndC d (.slice A1 d.ms.length c1) (.slice A2 d.bys.length c2) (.slice A3 ks.length c3)) 35)) ∧ Blk (w1.alloc (.cells (ndC d (.slice A1 d.ms.length c1) (.slice A2 d.bys.length c2) (.slice A3 ks.length c3)) 35)) w1.heap.size 35 (ndC d (.slice A1 d.ms.length c1) (.slice A2 d.bys.length c2) (.slice A3 ks.length c3)) ∧ TreeAt (w1.alloc (.cells (ndC d (.slice A1 d.ms.length c1) (.slice A2 d.bys.length c2) (.slice A3 ks.length c3)) 35)) (fun b _ => w.heap.size ≤ b) (.node d ks) (.slice A1 d.ms.length c1, .slice A2 d.bys.length c2, .slice A3 ks.length c3)) := ⟨bthen hb (bel1 _ _) (Nat.le_refl _), Blk.new _ _ _, hT.belo (bel1 _ _)⟩
 clear hT hb
 simp only [Tree.d]
 go_upto_region 2 with (fail)
 generalize w1.heap.size = g at *
 generalize w1.alloc (.cells (ndC d (.slice A1 d.ms.length c1) (.slice A2 d.bys.length c2) (.slice A3 ks.length c3)) 35) = W at *
 obtain ⟨k0, k1, k2, k3, k4, k5, k6, k7, k8, k9, k10⟩ := blk11z HS1.out.2.1
 have CC : Box (Calls Tryz.prog 24 #[.agg (ndC d (.slice A1 d.ms.length c1) (.slice A2 d.bys.length c2) (.slice A3 ks.length c3))] W (RetPlF (P, 0) W)) := ⟨by rw [← HC.out]; exact pcompile_any (.node d ks) _ W (.slice A1 d.ms.length c1, .slice A2 d.bys.length c2, .slice A3 ks.length c3) HS1.out.2.2 (wordsV_g (HL.out.below HS1.out.1))⟩
 go_wp2_with fail
 refine (CC.out).mono ?_
 rintro e w2 ⟨pv, rfl, hp, hb2⟩
 obtain ⟨B, cb, rfl⟩ := hp.form
 have HP2 : Box (PlanP w2 AnyP (.slice B P.length cb) P ∧ Below w.heap.size w w2) := ⟨hp.any, bthen HS1.out.1 hb2 (Nat.le_refl _)⟩
 clear k0 k1 k2 k3 k4 k5 k6 k7 k8 k9 k10
 clear hp hb2 CC HS1
 have hlen : P.length = 3 := by rw [hpo]; rfl
 rw [hlen] at HP2 ⊢
 have HLEN := Box.mk hlen
 clear hlen
 have HIB : Box (PlanP (w2.alloc (.cells (insC liveB (.slice none 0 0) (.slice none 0 0)) 55)) AnyP (.slice (some ⟨w2.heap.size, 0, none⟩) 1 1) [liveB] ∧ PlanP (w2.alloc (.cells (insC liveB (.slice none 0 0) (.slice none 0 0)) 55)) AnyP (.slice B 3 cb) P ∧ Below w.heap.size w (w2.alloc (.cells (insC liveB (.slice none 0 0) (.slice none 0 0)) 55))) := ⟨PlanP.lit (P := AnyP) (Blk.new _ _ _) ⟨liveB_ok, SeqP.nil _ _ _, SeqP.nil _ _ _⟩, HP2.out.1.anyB (bel1 _ _), bthen HP2.out.2 (bel1 _ _) (Nat.le_refl _)⟩
 have CB : Box (Calls Tryz.prog 18 #[.slice (some ⟨w2.heap.size, 0, none⟩) 1 1] (w2.alloc (.cells (insC liveB (.slice none 0 0) (.slice none 0 0)) 55)) (RetB (.int .i64 1) (w2.alloc (.cells (insC liveB (.slice none 0 0) (.slice none 0 0)) 55)))) := ⟨by have h := pcheck_any [liveB] _ _ HIB.out.1 (by intro d h; simp at h; subst h; decide) (wordsV_g (HL.out.below HIB.out.2.2)); rw [show (treeM [liveB]).2 = 1 from congrArg Prod.snd live_b] at h; exact h⟩
 go_wp2_with fail
 refine (CB.out).mono ?_
 rintro e w3 ⟨rfl, hb3⟩
 have HP3 : Box (PlanP w3 AnyP (.slice B 3 cb) P ∧ Below w.heap.size w w3) := ⟨HIB.out.2.1.anyB hb3, bthen HIB.out.2.2 hb3 (Nat.le_refl _)⟩
 clear hb3 CB HIB HP2
 obtain ⟨b0, o0, mv0, bv0, rfl, -, -, ⟨-, -, z2, -⟩, -⟩ := HP3.out.1.at_ 0 d0 (by rw [hpo]; rfl)
 obtain ⟨b0', o0', mv2, bv2, he, -, -, ⟨y0, -⟩, -⟩ := HP3.out.1.at_ 2 d2 (by rw [hpo]; rfl)
 cases he
 have x1 : w3.cell? ⟨b0, o0 + 2, none⟩ = some (.int .i64 3) := by rw [← hw0]; simpa using z2
 have x2 : w3.cell? ⟨b0, o0 + 20, none⟩ = some (.int .i64 3) := by rw [← hk2]; simpa using y0
 have CR : Box (Calls Tryz.prog 25 #[.slice (some ⟨b0, o0, none⟩) 3 cb] w3 (RetB (.int .i64 (-3)) w3)) := ⟨by rw [← HR.out]; exact preach_any P _ w3 HP3.out.1 HSM.out (wordsV_g (HL.out.below HP3.out.2))⟩
 clear z2 y0 hw0 hk2 hpo
 go_wp2_with fail
 refine (CR.out).mono ?_
 rintro e w4 ⟨rfl, hb4⟩
 have HB4 : Box (Below w.heap.size w w4) := ⟨bthen HP3.out.2 hb4 (Nat.le_refl _)⟩
 clear hb4 CR HP3 x1 x2
 go_wp2_with fail
 go_ret
 exact ⟨rfl, HB4.out⟩
end
section
open Go.RowKit FracM
theorem Ints.toP {w : World} {v : Value} {l : List Int} (h : Ints w w.heap.size v l) : IntsP w v l := by
 obtain ⟨⟨h1, A, c, hv, hn, hc, hx⟩, hz⟩ := h
 refine ⟨⟨h1, A, c, hv, hn, hc, fun h0 => ?_⟩, hz⟩
 obtain ⟨b, off, hA, hf, hcl⟩ := hx h0
 exact ⟨b, off, hA, hf.1, hf.1, hcl⟩
end
section
open Go.RowKit FracM
structure UlS (w W : World) (pv : Value) (p : List Nd) (cv : Value) (q : List Nd) (dv : Value) (D : List Dx) : Prop where
 below : Below w.heap.size w W
 p : PlanP W AnyP pv p
 c : PlanP W AnyP cv q
 d : DecsAt W AnyP dv D
theorem UlS.next {w W W' : World} {pv cv dv : Value} {p q : List Nd} {D : List Dx} (h : UlS w W pv p cv q dv D) (f : Below W.heap.size W W') : UlS w W' pv p cv q dv D := ⟨bthen h.below f (Nat.le_refl _), h.p.anyB f, h.c.anyB f, h.d.keep (Agree.of_below f)⟩
theorem unitsL_fitU : ∀ u ∈ unitsL, I64 u.1 ∧ I64 u.2.1 ∧ I64 u.2.2 := by
 intro u hu
 simp [unitsL] at hu
 unfold I64
 rcases hu with rfl | rfl | rfl | rfl | rfl | rfl | rfl | rfl <;> simp
theorem decs_ofU {w w1 : World} {D : List Dx} {v : Value} (hown : w1.ownsRow w.heap.size 49 12 v D.length (D.flatMap dcL)) (hg : ∀ x ∈ D, GoodD w1 0 x) : DecsAt w1 AnyP v D :=
 ⟨SeqP.of_own hown (fun _ _ _ _ => trivial), fun x hx => ⟨SeqP.of_seq (hg x hx).labs (fun _ _ _ _ _ => trivial), by have := (ns3_ok _ (hg x hx).name).2.2; unfold maxLen; omega, unitsL_fitU _ (hg x hx).unit⟩⟩
theorem usesM_len (q : List Nd) (D : List Dx) (h : D.length ≤ 1000) : (usesM q D).length ≤ 1000 := by
 unfold usesM
 split
 ·unfold usesL; rw [List.length_map]; exact h
 ·simp
theorem usesM_nil (q : List Nd) : usesM q [] = [] := by unfold usesM usesL; simp
theorem decs_nil (W : World) : DecsAt W AnyP (.slice none 0 0) [] := ⟨SeqP.nil _ _ _, fun x hx => by simp at hx⟩
theorem sameI (A1 A2 : Option Addr) (c1 c2 : Nat) (us : List Int) (w : World) (h1 : SeqP w AnyP 1 (.slice A1 us.length c1) us.length (i64L us)) (h2 : SeqP w AnyP 1 (.slice A2 us.length c2) us.length (i64L us)) (hl : us.length ≤ 1000) :
  Calls Tryz.prog 8 #[.slice A1 us.length c1, .slice A2 us.length c2] w (RetB (.bool true) w) := by
 have h := sameInts_any A1 A2 c1 c2 AnyP AnyP us us w h1 h2 (by omega) (by omega)
 rw [decide_eq_true (rfl : us = us)] at h
 exact h
set_option maxHeartbeats 8000000 in
set_option maxRecDepth 100000 in
theorem planUses_walk (AM : Option Addr) (nm cm : Nat) (lm : List Int) (AL : Option Addr) (nl cl : Nat) (ll : List Int) (at' how v : Int) (w : World) (hw : WordsV w) (h1 : Ints w w.heap.size (.slice AM nm cm) lm) (h2 : Ints w w.heap.size (.slice AL nl cl) ll)
  (a1 : -9223372036854775808 ≤ at') (a2 : at' ≤ 9223372036854775807) (b1 : -9223372036854775808 ≤ how) (b2 : how ≤ 9223372036854775807) (c1 : -9223372036854775808 ≤ v) (c2 : v ≤ 9223372036854775807) :
  Calls Tryz.prog 3 #[.slice AM nm cm, .slice AL nl cl, .int .i64 at', .int .i64 how, .int .i64 v] w fun e w' => e = .returned (.bool true) ∧ Below w.heap.size w w' := by
 have HW := Box.mk hw
 have HI := Box.mk (And.intro (And.intro a1 a2 : I64 at') (And.intro (And.intro b1 b2 : I64 how) (And.intro c1 c2 : I64 v)))
 have HM := Box.mk h1
 have HL := Box.mk h2.toP
 clear hw h1 h2 a1 a2 b1 b2 c1 c2
 go_enter Tryz.func3, Tryz.ntmps3
 go_wp2_with fail
 refine (decls_any _ _ _ lm _ HM.out).mono ?_
 rintro e w1 ⟨D, AD, nD, cD, rfl, hown, hDl, hgood, hb1⟩
 obtain ⟨AD', cD', hvD⟩ := own_form hown
 obtain rfl : nD = D.length := by injection hvD
 clear hvD
 have H1 : Box (Below w.heap.size w w1 ∧ DecsAt w1 AnyP (.slice AD D.length cD) D ∧ IntsP w1 (.slice AL nl cl) ll) := ⟨hb1, decs_ofU hown hgood, IntsP.belo HL.out hb1⟩
 have HDL : Box (D.length ≤ 1000) := ⟨by omega⟩
 clear hown hgood hb1 hDl HM HL
 go_wp2_with fail
 refine (query_any _ ll _ H1.out.2.2).mono ?_
 rintro e0 w2 ⟨t1, s1, rfl, htree, hgt, hdp, hnd, hb2⟩
 obtain ⟨xd, xs⟩ := t1
 obtain ⟨q1, q2, q3⟩ := s1
 obtain ⟨D1, n1, rfl, -⟩ := htree.form.1
 obtain ⟨D2, n2, rfl, -⟩ := htree.form.2.1
 obtain ⟨D3, n3, rfl, -⟩ := htree.form.2.2
 simp only [Tree.d]
 have HVA : Box (validE (.node xd xs) = 0) := ⟨good_valid ns3_ok (by omega) hgt (by omega) (by omega)⟩
 have HT1 : Box (TreeAt w2 AnyP (.node xd xs) (.slice D1 xd.ms.length n1, .slice D2 xd.bys.length n2, .slice D3 xs.length n3)) := ⟨by obtain ⟨Lf, h⟩ := htree; exact h.tree.mono fun _ _ _ _ => trivial⟩
 have H2 : Box (Below w.heap.size w w2 ∧ DecsAt w2 AnyP (.slice AD D.length cD) D) := ⟨bthen H1.out.1 hb2 (Nat.le_refl _), H1.out.2.1.keep (Agree.of_below hb2)⟩
 obtain ⟨pl, hpl⟩ : ∃ l, postT (.node xd xs) = l := ⟨_, rfl⟩
 have HPS : Box (∀ d ∈ pl, SmallD d) := ⟨by rw [← hpl]; exact small_post HVA.out⟩
 have HPN : Box (pl.length ≤ 200) := ⟨by rw [← hpl]; exact (postT_small HVA.out).1⟩
 have CA : Box (Calls Tryz.prog 5 #[.agg (ndC xd (.slice D1 xd.ms.length n1) (.slice D2 xd.bys.length n2) (.slice D3 xs.length n3))] w2 (RetPlE (pl, 0) AnyP w2)) := ⟨by rw [← hpl, ← compileM_ok HVA.out]; exact rcompile_any (.node xd xs) AnyP w2 (.slice D1 xd.ms.length n1, .slice D2 xd.bys.length n2, .slice D3 xs.length n3) HT1.out (by omega) (by omega)⟩
 clear htree hgt hdp hnd hb2 H1 hpl HVA HT1
 go_wp2_with fail
 with_reducible refine (CA.out).mono ?_
 rintro e1 w3 ⟨qv, rfl, hq, hb⟩
 obtain ⟨PA, pc, rfl⟩ := hq.form
 have H3 : Box (Below w.heap.size w w3 ∧ DecsAt w3 AnyP (.slice AD D.length cD) D ∧ PlanP w3 AnyP (.slice PA pl.length pc) pl) := ⟨bthen H2.out.1 hb (Nat.le_refl _), H2.out.2.keep (Agree.of_below hb), hq.any⟩
 clear hq hb CA H2
 have C3 : Box (Calls Tryz.prog 7 #[.slice PA pl.length pc, .int .i64 at', .int .i64 how, .int .i64 v] w3 (RetCh pl w3)) := ⟨rchanged_any pl _ at' how v w3 H3.out.2.2 HPS.out (by have := HPN.out; omega) HI.out.1 HI.out.2.1 HI.out.2.2⟩
 go_wp2_with fail
 refine (C3.out).mono ?_
 rintro e3 w4 ⟨xl, xv, rfl, hx, hxl, hxs, hb⟩
 obtain ⟨XA, xc, rfl⟩ := hx.form
 have HS : Box (UlS w w4 (.slice PA pl.length pc) pl (.slice XA xl.length xc) xl (.slice AD D.length cD) D) := ⟨⟨bthen H3.out.1 hb (Nat.le_refl _), H3.out.2.2.anyB hb, hx.any, H3.out.2.1.keep (Agree.of_below hb)⟩⟩
 have HXS := Box.mk hxs
 clear hx hxl hxs hb H3 C3
 obtain ⟨us, hus⟩ : ∃ us, usesM pl D = us := ⟨_, rfl⟩
 obtain ⟨vs, hvs⟩ : ∃ vs, usesM xl D = vs := ⟨_, rfl⟩
 have hul : us.length ≤ 1000 := by rw [← hus]; exact usesM_len _ _ HDL.out
 have hvl : vs.length ≤ 1000 := by rw [← hvs]; exact usesM_len _ _ HDL.out
 have CU1 : Box (∀ W : World, UlS w W (.slice PA pl.length pc) pl (.slice XA xl.length xc) xl (.slice AD D.length cD) D → Calls Tryz.prog 9 #[.slice PA pl.length pc, .slice AD D.length cD] W (RetUs us W)) := ⟨fun W h => by rw [← hus]; exact puses_any pl _ D _ W h.p HPS.out h.d HDL.out (wordsV_g (HW.out.below h.below))⟩
 have CR1 : Box (∀ W : World, UlS w W (.slice PA pl.length pc) pl (.slice XA xl.length xc) xl (.slice AD D.length cD) D → Calls Tryz.prog 10 #[.slice PA pl.length pc, .slice AD D.length cD] W (RetUs us W)) := ⟨fun W h => by rw [← hus]; exact ruses_any pl _ D _ W h.p h.d HDL.out⟩
 have CU2 : Box (∀ W : World, UlS w W (.slice PA pl.length pc) pl (.slice XA xl.length xc) xl (.slice AD D.length cD) D → Calls Tryz.prog 9 #[.slice XA xl.length xc, .slice AD D.length cD] W (RetUs vs W)) := ⟨fun W h => by rw [← hvs]; exact puses_any xl _ D _ W h.c HXS.out h.d HDL.out (wordsV_g (HW.out.below h.below))⟩
 have CR2 : Box (∀ W : World, UlS w W (.slice PA pl.length pc) pl (.slice XA xl.length xc) xl (.slice AD D.length cD) D → Calls Tryz.prog 10 #[.slice XA xl.length xc, .slice AD D.length cD] W (RetUs vs W)) := ⟨fun W h => by rw [← hvs]; exact ruses_any xl _ D _ W h.c h.d HDL.out⟩
 have CU3 : Box (∀ W : World, UlS w W (.slice PA pl.length pc) pl (.slice XA xl.length xc) xl (.slice AD D.length cD) D → Calls Tryz.prog 9 #[.slice PA pl.length pc, .slice none 0 0] W (RetUs [] W)) := ⟨fun W h => by have h2 := puses_any pl _ [] _ W h.p HPS.out (decs_nil W) (by simp) (wordsV_g (HW.out.below h.below)); rw [usesM_nil] at h2; exact h2⟩
 clear hus hvs
 go_wp2_with fail
 refine (CU1.out _ HS.out).mono ?_
 rintro e5 w5 ⟨A5, c5, rfl, hs5, hb⟩
 have HS5 := Box.mk (HS.out.next hb)
 have HQ5 := Box.mk hs5
 clear hs5 hb HS CU1
 go_wp2_with fail
 refine (CR1.out _ HS5.out).mono ?_
 rintro e6 w6 ⟨A6, c6, rfl, hs6, hb⟩
 have HS6 := Box.mk (HS5.out.next hb)
 have HQ6 := Box.mk (And.intro (HQ5.out.belo hb) hs6)
 clear hs6 hb HS5 HQ5 CR1
 go_wp2_with fail
 refine (sameI _ _ _ _ us w6 HQ6.out.1 HQ6.out.2 hul).mono ?_
 rintro e7 w7 ⟨rfl, hb⟩
 have HS7 := Box.mk (HS6.out.next hb)
 clear hb HS6 HQ6
 go_wp2_with fail
 refine (CU2.out _ HS7.out).mono ?_
 rintro e8 w8 ⟨A8, c8, rfl, hs8, hb⟩
 have HS8 := Box.mk (HS7.out.next hb)
 have HQ8 := Box.mk hs8
 clear hs8 hb HS7 CU2
 go_wp2_with fail
 refine (CR2.out _ HS8.out).mono ?_
 rintro e9 w9 ⟨A9, c9, rfl, hs9, hb⟩
 have HS9 := Box.mk (HS8.out.next hb)
 have HQ9 := Box.mk (And.intro (HQ8.out.belo hb) hs9)
 clear hs9 hb HS8 HQ8 CR2
 go_wp2_with fail
 refine (sameI _ _ _ _ vs w9 HQ9.out.1 HQ9.out.2 hvl).mono ?_
 rintro e10 w10 ⟨rfl, hb⟩
 have HS10 := Box.mk (HS9.out.next hb)
 clear hb HS9 HQ9
 go_wp2_with fail
 refine (CU3.out _ HS10.out).mono ?_
 rintro e11 w11 ⟨A11, c11, rfl, hs11, hb⟩
 have HS11 := Box.mk (HS10.out.next hb)
 clear hs11 hb HS10 CU3
 go_wp2_with fail
 refine (plives_true w11 (HW.out.below HS11.out.below)).mono ?_
 rintro e12 wL ⟨rfl, hb⟩
 have HBL : Box (Below w.heap.size w wL) := ⟨bthen HS11.out.below hb (Nat.le_refl _)⟩
 clear hb
 go_wp2_with fail
 go_ret
 exact ⟨rfl, HBL.out⟩
end
end Go.Proofs.YtpgdijbfkahepaaGreatDoor
