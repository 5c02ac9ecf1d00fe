/- Contracts, packed: Ux Uy. -/
import Derived.Test.YtipafbppaaflcaaDoorPu32
import Derived.Test.YtipafbppaaflcaaDoorPu45
import Derived.WalkLawsBesides
set_option linter.unusedVariables false
set_option linter.unusedSimpArgs false
namespace Go.Proofs.YtipafbppaaflcaaDoor
section
open Go.RowKit FracM
theorem ptree_any (l : List Nd) (pv : Value) (w : World) (hp : PlanP w AnyP pv l) (hsm : ∀ d ∈ l, d.ms.length ≤ 1000000 ∧ d.bys.length ≤ 1000000) (hw : WordsG w) : Calls Tryd.prog 26 #[pv] w (RetTr (treeM l) w) := by
 by_cases h : 200 < l.length
 ·exact ptree_big l pv w hp h
 ·exact ptree_small l pv w hp hsm hw (by omega)
set_option maxHeartbeats 4000000 in
set_option maxRecDepth 100000 in
theorem pcheck_any (l : List Nd) (pv : Value) (w : World) (hp : PlanP w AnyP pv l) (hsm : ∀ d ∈ l, d.ms.length ≤ 1000000 ∧ d.bys.length ≤ 1000000) (hw : WordsG w) : Calls Tryd.prog 19 #[pv] w (RetB (.int .i64 (treeM l).2) w) := by
 obtain ⟨A, c, rfl, -⟩ := hp.form
 have CT := Box.mk (ptree_any l _ w hp hsm hw)
 clear hp hsm hw
 obtain ⟨q, hq⟩ : ∃ q, treeM l = q := ⟨_, rfl⟩
 rw [hq] at CT ⊢
 clear hq
 obtain ⟨⟨d, ks⟩, er⟩ := q
 go_enter Tryd.func19, Tryd.ntmps19
 go_wp2_with fail
 with_reducible refine (CT.out).mono ?_
 rintro e1 w1 ⟨mv, bv, kv, rfl, hT, hb⟩
 obtain ⟨A1, c1, rfl, -⟩ := hT.nod.ms.form
 obtain ⟨A2, c2, rfl, -⟩ := hT.nod.bys.form
 obtain ⟨A3, c3, rfl, -⟩ := hT.nod.kform
 have HB := Box.mk hb
 clear hT hb CT
 simp only [Tree.d]
 go_wp2_with fail
 go_ret
 exact ⟨rfl, bthen HB.out (bel1 _ _) (Nat.le_refl _)⟩
theorem reach_bd : ∀ (l : List Nd) (r : Int), (∀ d ∈ l, rangedB d = true) → -9000 ≤ r → r ≤ 0 → -9000 ≤ reachL r l ∧ reachL r l ≤ 0 := by
 intro l
 induction l with
 | nil => intro r _ h1 h2; exact ⟨h1, h2⟩
 | cons d q ih =>
  intro r h h1 h2
  show -9000 ≤ reachL (if d.kind = 1 then min r (firstM d) else r) q ∧ reachL (if d.kind = 1 then min r (firstM d) else r) q ≤ 0
  by_cases hk : d.kind = 1
  ·rw [if_pos hk]
   have hr := h d (by simp)
   have h3 := firstM_le hr hk
   have h4 : -9000 ≤ firstM d := by
    unfold rangedB at hr
    rw [if_pos hk] at hr
    simp only [Bool.and_eq_true, decide_eq_true_eq] at hr
    unfold firstM
    by_cases h0 : d.fn = 0
    ·rw [if_pos h0]; omega
    ·rw [if_neg h0] at hr ⊢
     simp only [Bool.and_eq_true, decide_eq_true_eq] at hr
     split <;> omega
   exact ih _ (fun e he => h e (by simp [he])) (by omega) (by omega)
  ·rw [if_neg hk]
   exact ih _ (fun e he => h e (by simp [he])) h1 h2
theorem reach_take {l : List Nd} {k : Nat} {d : Nd} (hd : l[k]? = some d) (r : Int) : reachL r (l.take (k + 1)) = if d.kind = 1 then min (reachL r (l.take k)) (firstM d) else reachL r (l.take k) := by
 rw [show l.take (k + 1) = l.take k ++ [d] by rw [List.take_add_one, hd]; rfl, reach_app]
 rfl
structure RcS (w W : World) (pv : Value) (l : List Nd) : Prop where
 below : Below w.heap.size w W
 pl : PlanP W AnyP pv l
theorem RcS.next {w W W' : World} {pv : Value} {l : List Nd} (h : RcS w W pv l) (f : Below W.heap.size W W') : RcS w W' pv l := ⟨bthen h.below f (Nat.le_refl _), h.pl.anyB f⟩
set_option maxHeartbeats 8000000 in
set_option maxRecDepth 100000 in
theorem preach_any (l : List Nd) (pv : Value) (w : World) (hp : PlanP w AnyP pv l) (hsm : ∀ d ∈ l, d.ms.length ≤ 1000000 ∧ d.bys.length ≤ 1000000) (hw : WordsG w) : Calls Tryd.prog 24 #[pv] w (RetB (.int .i64 (reachM l)) w) := by
 obtain ⟨A, c, rfl, lA⟩ := hp.form
 have CC := Box.mk (pcheck_any l _ w hp hsm hw)
 have HP := Box.mk hp
 clear hp hsm hw
 by_cases h0 : (treeM l).2 = 0
 ·have HRG := Box.mk (plan_rng h0)
  have HRM : Box (reachM l = reachL 0 l) := ⟨by unfold reachM; rw [if_pos h0]⟩
  rw [h0] at CC
  clear h0
  go_enter Tryd.func24, Tryd.ntmps24
  go_wp2_with fail
  with_reducible refine (CC.out).mono ?_
  rintro e1 w1 ⟨rfl, hb1⟩
  have HS1 : Box (RcS w w1 (.slice A l.length c) l) := ⟨hb1, HP.out.anyB hb1⟩
  clear hb1 CC HP
  go_wp2_with fail
  go_loopw [3, 12] (fun r v wr => ∃ k : Nat, k ≤ l.length ∧ v = .int .i64 (k : Nat) ∧ r = .int .i64 (reachL 0 (l.take k)) ∧ Box (RcS w wr (.slice A l.length c) l)) (fun _ v _ => l.length - (intOf v).toNat)
  case atStart => exact ⟨0, by omega, rfl, rfl, HS1⟩
  case round =>
   clear HS1
   obtain ⟨k, hk, rfl, rfl, HS⟩ := hrel
   by_cases hlt : k < l.length
   ·obtain ⟨d, hd⟩ : ∃ d, l[k]? = some d := ⟨l[k], List.getElem?_eq_getElem _⟩
    have HRT := Box.mk (reach_take hd 0)
    obtain ⟨r1, r2⟩ := reach_bd (l.take k) 0 (fun e he => HRG.out e (List.mem_of_mem_take he)) (by omega) (by omega)
    have hrd := HRG.out d (List.mem_of_getElem? hd)
    obtain ⟨r, hr⟩ : ∃ r, reachL 0 (l.take k) = r := ⟨_, rfl⟩
    rw [hr] at HRT r1 r2 ⊢
    obtain ⟨pb, po, mv, bv, rfl, plt, -, ⟨k0, k1, k2, k3, k4, k5, k6, k7, k8, k9⟩, hx⟩ := HS.out.pl.at_ k d hd
    obtain ⟨X1, x1, rfl, -⟩ := hx.ms.form
    obtain ⟨X2, x2, rfl, -⟩ := hx.bys.form
    have hlt2 : (k : Int) < (l.length : Int) := by omega
    have hk0 : (0 : Int) ≤ (k : Int) := by omega
    clear hx hd hr
    by_cases hkd : d.kind = 1
    ·have hrd2 := hrd
     unfold rangedB at hrd2
     rw [if_pos hkd] at hrd2
     simp only [Bool.and_eq_true, decide_eq_true_eq] at hrd2
     obtain ⟨⟨o1, o2⟩, hrw⟩ := hrd2
     have hw1 : 0 ≤ d.win ∧ d.win ≤ 4096 := by
      by_cases hf : d.fn = 0
      ·rw [if_pos hf] at hrw
       simp only [Bool.and_eq_true, beq_iff_eq] at hrw
       omega
      ·rw [if_neg hf] at hrw
       simp only [Bool.and_eq_true, decide_eq_true_eq] at hrw
       omega
     obtain ⟨w1', w2'⟩ := hw1
     have HFM : Box (reachL 0 (l.take (k + 1)) = min r (firstM d)) := ⟨by rw [HRT.out, if_pos hkd]⟩
     have e1 : (d.kind != 1) = false := by simp [hkd]
     have e1' : (d.kind == 1) = true := by simp [hkd]
     clear hrd hrw HRT hkd
     by_cases f0 : d.fn = 0
     ·have HF : Box (firstM d = -d.off) := ⟨by unfold firstM; rw [if_pos f0]⟩
      have g0 : (d.fn == 0) = true := by simp [f0]
      have g5 : (d.fn == 5) = false := by simp [f0]
      have g6 : (d.fn == 6) = false := by simp [f0]
      rw [HF.out] at HFM
      clear f0 HF
      go_wp2_with fail
      go_roundw
      case rel => exact ⟨k + 1, by omega, by go_num, by rw [HFM.out], ⟨HS.out.next (bel1 _ _)⟩⟩
      case measure => simp [intOf]; omega
     ·by_cases f5 : d.fn = 5
      ·have HF : Box (firstM d = -d.off - d.win) := ⟨by unfold firstM; rw [if_neg f0, if_pos (.inl f5)]⟩
       have g0 : (d.fn == 0) = false := by simp [f5]
       have g5 : (d.fn == 5) = true := by simp [f5]
       have g6 : (d.fn == 6) = false := by simp [f5]
       rw [HF.out] at HFM
       clear f0 f5 HF
       go_wp2_with fail
       go_roundw
       case rel => exact ⟨k + 1, by omega, by go_num, by rw [HFM.out], ⟨HS.out.next (bel1 _ _)⟩⟩
       case measure => simp [intOf]; omega
      ·by_cases f6 : d.fn = 6
       ·have HF : Box (firstM d = -d.off - d.win) := ⟨by unfold firstM; rw [if_neg f0, if_pos (.inr f6)]⟩
        have g0 : (d.fn == 0) = false := by simp [f6]
        have g5 : (d.fn == 5) = false := by simp [f6]
        have g6 : (d.fn == 6) = true := by simp [f6]
        rw [HF.out] at HFM
        clear f0 f5 f6 HF
        go_wp2_with fail
        go_roundw
        case rel => exact ⟨k + 1, by omega, by go_num, by rw [HFM.out], ⟨HS.out.next (bel1 _ _)⟩⟩
        case measure => simp [intOf]; omega
       ·have HF : Box (firstM d = -d.off - (d.win - 1)) := ⟨by unfold firstM; rw [if_neg f0, if_neg (by omega)]⟩
        have g0 : (d.fn == 0) = false := by simpa using f0
        have g5 : (d.fn == 5) = false := by simpa using f5
        have g6 : (d.fn == 6) = false := by simpa using f6
        rw [HF.out] at HFM
        clear f0 f5 f6 HF
        go_wp2_with fail
        go_roundw
        case rel => exact ⟨k + 1, by omega, by go_num, by rw [HFM.out], ⟨HS.out.next (bel1 _ _)⟩⟩
        case measure => simp [intOf]; omega
    ·have e1 : (d.kind != 1) = true := by simpa using hkd
     have e1' : (d.kind == 1) = false := by simpa using hkd
     have HFM : Box (reachL 0 (l.take (k + 1)) = r) := ⟨by rw [HRT.out, if_neg hkd]⟩
     clear hrd HRT hkd
     go_wp2_with fail
     go_roundw
     case rel => exact ⟨k + 1, by omega, by go_num, by rw [HFM.out], ⟨HS.out.next (bel1 _ _)⟩⟩
     case measure => simp [intOf]; omega
   ·have hlt2 : ¬ (k : Int) < (l.length : Int) := by omega
    have hke : k = l.length := by omega
    subst hke
    rw [List.take_length]
    go_wp2_with fail
    go_ret
    exact ⟨by rw [HRM.out]; rfl, HS.out.below⟩
 ·have HRM : Box (reachM l = 0) := ⟨by unfold reachM; rw [if_neg h0]⟩
  obtain ⟨er, her⟩ : ∃ er, (treeM l).2 = er := ⟨_, rfl⟩
  rw [her] at h0 CC
  have h1 : (er != 0) = true := by simpa using h0
  have h2 : (er == 0) = false := by simpa using h0
  clear h0 her
  go_enter Tryd.func24, Tryd.ntmps24
  go_wp2_with fail
  with_reducible refine (CC.out).mono ?_
  rintro e1 w1 ⟨rfl, hb1⟩
  have HB := Box.mk hb1
  clear hb1 CC HP
  go_wp2_with fail
  go_ret
  exact ⟨by rw [HRM.out]; rfl, HB.out⟩
end
section
open Go.RowKit FracM
theorem PlanP.lit {w : World} {b : Nat} {P : Nat → Nat → Prop} {d : Nd} {mv bv : Value} (h : Blk w b 45 (insC d mv bv)) (hi : InsAt w P d mv bv) : PlanP w AnyP (.slice (some ⟨b, 0, none⟩) 1 1) [d] := by
 refine ⟨[(mv, bv)], ⟨rfl, some ⟨b, 0, none⟩, 1, rfl, Nat.le_refl _, by unfold maxLen; omega, fun _ => ⟨b, 0, rfl, h.lt, trivial, fun j u hu => ?_⟩⟩, rfl, fun i d' c h1 h2 => ?_⟩
 ·unfold Blk at h
  simp only [World.cell?, h, Nat.zero_add]
  simpa [insL] using hu
 ·cases i with
  | zero => simp at h1 h2; subst h1 h2; exact hi.any
  | succ i => simp at h1
def liveB : Nd := ⟨3, 0, 0, 0, 0, 0, 0, ⟨#[]⟩, [], []⟩
theorem liveB_ok : NdOk liveB := ⟨⟨(by unfold I64; decide), (by unfold I64; decide), (by unfold I64; decide), (by unfold I64; decide), (by unfold I64; decide), (by unfold I64; decide), (by unfold I64; decide)⟩, (by unfold maxLen; decide), (fun m h => by cases h), (fun m h => by cases h)⟩
theorem small_post {t : Tree} (h : validE t = 0) : ∀ d ∈ postT t, d.ms.length ≤ 1000000 ∧ d.bys.length ≤ 1000000 := fun d hd => by have := (postT_small h).2 d hd; omega
theorem live_post : ∃ d0 d1 d2, postT liveU = [d0, d1, d2] ∧ d0.win = 3 ∧ d2.kind = 3 := ⟨_, _, _, rfl, rfl, rfl⟩
set_option maxHeartbeats 8000000 in
set_option maxRecDepth 100000 in
theorem plives_true (w : World) (hl : WordsV w) : Calls Tryd.prog 12 #[] w (RetB (.bool true) w) := by
 have HL := Box.mk hl
 clear hl
 go_enter Tryd.func12, Tryd.ntmps12
 go_wp2_with fail
 refine (parse_at _ liveU 0 0 _ (by unfold maxLen; decide +kernel) HL.out live_q).mono ?_
 rintro e w1 ⟨mv, bv, kv, rfl, hT, hb⟩
 have HC : Box (compileM liveU = (postT liveU, 0)) := ⟨live_c⟩
 have HR : Box (reachM (postT liveU) = -3) := ⟨live_r⟩
 have HSM : Box (∀ d ∈ postT liveU, d.ms.length ≤ 1000000 ∧ d.bys.length ≤ 1000000) := ⟨small_post live_v⟩
 obtain ⟨d0, d1, d2, hpo, hw0, hk2⟩ := live_post
 obtain ⟨P, hP⟩ : ∃ P, postT liveU = P := ⟨_, rfl⟩
 rw [hP] at HC HR HSM hpo
 clear hP
 obtain ⟨T, hTe⟩ : ∃ T, liveU = T := ⟨_, rfl⟩
 rw [hTe] at hT HC ⊢
 clear hTe
 obtain ⟨d, ks⟩ := T
 obtain ⟨A1, c1, rfl, -⟩ := hT.nod.ms.form
 obtain ⟨A2, c2, rfl, -⟩ := hT.nod.bys.form
 obtain ⟨A3, c3, rfl, -⟩ := hT.nod.kform
 have HS1 : Box (Below w.heap.size w (w1.alloc (.cells (ndC d (.slice A1 d.ms.length c1) (.slice A2 d.bys.length c2) (.slice A3 ks.length c3)) 29)) ∧ Blk (w1.alloc (.cells (ndC d (.slice A1 d.ms.length c1) (.slice A2 d.bys.length c2) (.slice A3 ks.length c3)) 29)) w1.heap.size 29 (ndC d (.slice A1 d.ms.length c1) (.slice A2 d.bys.length c2) (.slice A3 ks.length c3)) ∧ TreeAt (w1.alloc (.cells (ndC d (.slice A1 d.ms.length c1) (.slice A2 d.bys.length c2) (.slice A3 ks.length c3)) 29)) (fun b _ => w.heap.size ≤ b) (.node d ks) (.slice A1 d.ms.length c1, .slice A2 d.bys.length c2, .slice A3 ks.length c3)) := ⟨bthen hb (bel1 _ _) (Nat.le_refl _), Blk.new _ _ _, hT.belo (bel1 _ _)⟩
 clear hT hb
 simp only [Tree.d]
 go_upto_region 2 with (fail)
 generalize w1.heap.size = g at *
 generalize w1.alloc (.cells (ndC d (.slice A1 d.ms.length c1) (.slice A2 d.bys.length c2) (.slice A3 ks.length c3)) 29) = W at *
 obtain ⟨k0, k1, k2, k3, k4, k5, k6, k7, k8, k9, k10⟩ := blk11z HS1.out.2.1
 have CC : Box (Calls Tryd.prog 22 #[.agg (ndC d (.slice A1 d.ms.length c1) (.slice A2 d.bys.length c2) (.slice A3 ks.length c3))] W (RetPlF (P, 0) W)) := ⟨by rw [← HC.out]; exact pcompile_any (.node d ks) _ W (.slice A1 d.ms.length c1, .slice A2 d.bys.length c2, .slice A3 ks.length c3) HS1.out.2.2 (wordsV_g (HL.out.below HS1.out.1))⟩
 go_wp2_with fail
 refine (CC.out).mono ?_
 rintro e w2 ⟨pv, rfl, hp, hb2⟩
 obtain ⟨B, cb, rfl⟩ := hp.form
 have HP2 : Box (PlanP w2 AnyP (.slice B P.length cb) P ∧ Below w.heap.size w w2) := ⟨hp.any, bthen HS1.out.1 hb2 (Nat.le_refl _)⟩
 clear k0 k1 k2 k3 k4 k5 k6 k7 k8 k9 k10
 clear hp hb2 CC HS1
 have hlen : P.length = 3 := by rw [hpo]; rfl
 rw [hlen] at HP2 ⊢
 have HLEN := Box.mk hlen
 clear hlen
 have HIB : Box (PlanP (w2.alloc (.cells (insC liveB (.slice none 0 0) (.slice none 0 0)) 45)) AnyP (.slice (some ⟨w2.heap.size, 0, none⟩) 1 1) [liveB] ∧ PlanP (w2.alloc (.cells (insC liveB (.slice none 0 0) (.slice none 0 0)) 45)) AnyP (.slice B 3 cb) P ∧ Below w.heap.size w (w2.alloc (.cells (insC liveB (.slice none 0 0) (.slice none 0 0)) 45))) := ⟨PlanP.lit (P := AnyP) (Blk.new _ _ _) ⟨liveB_ok, SeqP.nil _ _ _, SeqP.nil _ _ _⟩, HP2.out.1.anyB (bel1 _ _), bthen HP2.out.2 (bel1 _ _) (Nat.le_refl _)⟩
 have CB : Box (Calls Tryd.prog 19 #[.slice (some ⟨w2.heap.size, 0, none⟩) 1 1] (w2.alloc (.cells (insC liveB (.slice none 0 0) (.slice none 0 0)) 45)) (RetB (.int .i64 1) (w2.alloc (.cells (insC liveB (.slice none 0 0) (.slice none 0 0)) 45)))) := ⟨by have h := pcheck_any [liveB] _ _ HIB.out.1 (by intro d h; simp at h; subst h; decide) (wordsV_g (HL.out.below HIB.out.2.2)); rw [show (treeM [liveB]).2 = 1 from congrArg Prod.snd live_b] at h; exact h⟩
 go_wp2_with fail
 refine (CB.out).mono ?_
 rintro e w3 ⟨rfl, hb3⟩
 have HP3 : Box (PlanP w3 AnyP (.slice B 3 cb) P ∧ Below w.heap.size w w3) := ⟨HIB.out.2.1.anyB hb3, bthen HIB.out.2.2 hb3 (Nat.le_refl _)⟩
 clear hb3 CB HIB HP2
 obtain ⟨b0, o0, mv0, bv0, rfl, -, -, ⟨-, -, z2, -⟩, -⟩ := HP3.out.1.at_ 0 d0 (by rw [hpo]; rfl)
 obtain ⟨b0', o0', mv2, bv2, he, -, -, ⟨y0, -⟩, -⟩ := HP3.out.1.at_ 2 d2 (by rw [hpo]; rfl)
 cases he
 have x1 : w3.cell? ⟨b0, o0 + 2, none⟩ = some (.int .i64 3) := by rw [← hw0]; simpa using z2
 have x2 : w3.cell? ⟨b0, o0 + 20, none⟩ = some (.int .i64 3) := by rw [← hk2]; simpa using y0
 have CR : Box (Calls Tryd.prog 24 #[.slice (some ⟨b0, o0, none⟩) 3 cb] w3 (RetB (.int .i64 (-3)) w3)) := ⟨by rw [← HR.out]; exact preach_any P _ w3 HP3.out.1 HSM.out (wordsV_g (HL.out.below HP3.out.2))⟩
 clear z2 y0 hw0 hk2 hpo
 go_wp2_with fail
 refine (CR.out).mono ?_
 rintro e w4 ⟨rfl, hb4⟩
 have HB4 : Box (Below w.heap.size w w4) := ⟨bthen HP3.out.2 hb4 (Nat.le_refl _)⟩
 clear hb4 CR HP3 x1 x2
 go_wp2_with fail
 go_ret
 exact ⟨rfl, HB4.out⟩
end
end Go.Proofs.YtipafbppaaflcaaDoor
