/- Contracts, packed: Ux. -/
import Derived.Test.YtpgdijbfkahepaaGreatDoorPd46
import Derived.WalkLawsBesides
set_option linter.unusedVariables false
set_option linter.unusedSimpArgs false
namespace Go.Proofs.YtpgdijbfkahepaaGreatDoor
section
open Go.RowKit FracM
theorem ptree_any (l : List Nd) (pv : Value) (w : World) (hp : PlanP w AnyP pv l) (hsm : ∀ d ∈ l, d.ms.length ≤ 1000000 ∧ d.bys.length ≤ 1000000) (hw : WordsG w) : Calls Tryz.prog 33 #[pv] w (RetTr (treeM l) w) := by
 by_cases h : 200 < l.length
 ·exact ptree_big l pv w hp h
 ·exact ptree_small l pv w hp hsm hw (by omega)
set_option maxHeartbeats 4000000 in
set_option maxRecDepth 100000 in
theorem pcheck_any (l : List Nd) (pv : Value) (w : World) (hp : PlanP w AnyP pv l) (hsm : ∀ d ∈ l, d.ms.length ≤ 1000000 ∧ d.bys.length ≤ 1000000) (hw : WordsG w) : Calls Tryz.prog 18 #[pv] w (RetB (.int .i64 (treeM l).2) w) := by
 obtain ⟨A, c, rfl, -⟩ := hp.form
 have CT := Box.mk (ptree_any l _ w hp hsm hw)
 clear hp hsm hw
 obtain ⟨q, hq⟩ : ∃ q, treeM l = q := ⟨_, rfl⟩
 rw [hq] at CT ⊢
 clear hq
 obtain ⟨⟨d, ks⟩, er⟩ := q
 go_enter Tryz.func18, Tryz.ntmps18
 go_wp2_with fail
 with_reducible refine (CT.out).mono ?_
 rintro e1 w1 ⟨mv, bv, kv, rfl, hT, hb⟩
 obtain ⟨A1, c1, rfl, -⟩ := hT.nod.ms.form
 obtain ⟨A2, c2, rfl, -⟩ := hT.nod.bys.form
 obtain ⟨A3, c3, rfl, -⟩ := hT.nod.kform
 have HB := Box.mk hb
 clear hT hb CT
 simp only [Tree.d]
 go_wp2_with fail
 go_ret
 exact ⟨rfl, bthen HB.out (bel1 _ _) (Nat.le_refl _)⟩
theorem reach_bd : ∀ (l : List Nd) (r : Int), (∀ d ∈ l, rangedB d = true) → -9000 ≤ r → r ≤ 0 → -9000 ≤ reachL r l ∧ reachL r l ≤ 0 := by
 intro l
 induction l with
 | nil => intro r _ h1 h2; exact ⟨h1, h2⟩
 | cons d q ih =>
  intro r h h1 h2
  show -9000 ≤ reachL (if d.kind = 1 then min r (firstM d) else r) q ∧ reachL (if d.kind = 1 then min r (firstM d) else r) q ≤ 0
  by_cases hk : d.kind = 1
  ·rw [if_pos hk]
   have hr := h d (by simp)
   have h3 := firstM_le hr hk
   have h4 : -9000 ≤ firstM d := by
    unfold rangedB at hr
    rw [if_pos hk] at hr
    simp only [Bool.and_eq_true, decide_eq_true_eq] at hr
    unfold firstM
    by_cases h0 : d.fn = 0
    ·rw [if_pos h0]; omega
    ·rw [if_neg h0] at hr ⊢
     simp only [Bool.and_eq_true, decide_eq_true_eq] at hr
     split <;> omega
   exact ih _ (fun e he => h e (by simp [he])) (by omega) (by omega)
  ·rw [if_neg hk]
   exact ih _ (fun e he => h e (by simp [he])) h1 h2
theorem reach_take {l : List Nd} {k : Nat} {d : Nd} (hd : l[k]? = some d) (r : Int) : reachL r (l.take (k + 1)) = if d.kind = 1 then min (reachL r (l.take k)) (firstM d) else reachL r (l.take k) := by
 rw [show l.take (k + 1) = l.take k ++ [d] by rw [List.take_add_one, hd]; rfl, reach_app]
 rfl
structure RcS (w W : World) (pv : Value) (l : List Nd) : Prop where
 below : Below w.heap.size w W
 pl : PlanP W AnyP pv l
theorem RcS.next {w W W' : World} {pv : Value} {l : List Nd} (h : RcS w W pv l) (f : Below W.heap.size W W') : RcS w W' pv l := ⟨bthen h.below f (Nat.le_refl _), h.pl.anyB f⟩
set_option maxHeartbeats 8000000 in
set_option maxRecDepth 100000 in
theorem preach_any (l : List Nd) (pv : Value) (w : World) (hp : PlanP w AnyP pv l) (hsm : ∀ d ∈ l, d.ms.length ≤ 1000000 ∧ d.bys.length ≤ 1000000) (hw : WordsG w) : Calls Tryz.prog 25 #[pv] w (RetB (.int .i64 (reachM l)) w) := by
 obtain ⟨A, c, rfl, lA⟩ := hp.form
 have CC := Box.mk (pcheck_any l _ w hp hsm hw)
 have HP := Box.mk hp
 clear hp hsm hw
 by_cases h0 : (treeM l).2 = 0
 ·have HRG := Box.mk (plan_rng h0)
  have HRM : Box (reachM l = reachL 0 l) := ⟨by unfold reachM; rw [if_pos h0]⟩
  rw [h0] at CC
  clear h0
  go_enter Tryz.func25, Tryz.ntmps25
  go_wp2_with fail
  with_reducible refine (CC.out).mono ?_
  rintro e1 w1 ⟨rfl, hb1⟩
  have HS1 : Box (RcS w w1 (.slice A l.length c) l) := ⟨hb1, HP.out.anyB hb1⟩
  clear hb1 CC HP
  go_wp2_with fail
  go_loopw [3, 12] (fun r v wr => ∃ k : Nat, k ≤ l.length ∧ v = .int .i64 (k : Nat) ∧ r = .int .i64 (reachL 0 (l.take k)) ∧ Box (RcS w wr (.slice A l.length c) l)) (fun _ v _ => l.length - (intOf v).toNat)
  case atStart => exact ⟨0, by omega, rfl, rfl, HS1⟩
  case round =>
   clear HS1
   obtain ⟨k, hk, rfl, rfl, HS⟩ := hrel
   by_cases hlt : k < l.length
   ·obtain ⟨d, hd⟩ : ∃ d, l[k]? = some d := ⟨l[k], List.getElem?_eq_getElem _⟩
    have HRT := Box.mk (reach_take hd 0)
    obtain ⟨r1, r2⟩ := reach_bd (l.take k) 0 (fun e he => HRG.out e (List.mem_of_mem_take he)) (by omega) (by omega)
    have hrd := HRG.out d (List.mem_of_getElem? hd)
    obtain ⟨r, hr⟩ : ∃ r, reachL 0 (l.take k) = r := ⟨_, rfl⟩
    rw [hr] at HRT r1 r2 ⊢
    obtain ⟨pb, po, mv, bv, rfl, plt, -, ⟨k0, k1, k2, k3, k4, k5, k6, k7, k8, k9⟩, hx⟩ := HS.out.pl.at_ k d hd
    obtain ⟨X1, x1, rfl, -⟩ := hx.ms.form
    obtain ⟨X2, x2, rfl, -⟩ := hx.bys.form
    have hlt2 : (k : Int) < (l.length : Int) := by omega
    have hk0 : (0 : Int) ≤ (k : Int) := by omega
    clear hx hd hr
    by_cases hkd : d.kind = 1
    ·have hrd2 := hrd
     unfold rangedB at hrd2
     rw [if_pos hkd] at hrd2
     simp only [Bool.and_eq_true, decide_eq_true_eq] at hrd2
     obtain ⟨⟨o1, o2⟩, hrw⟩ := hrd2
     have hw1 : 0 ≤ d.win ∧ d.win ≤ 4096 := by
      by_cases hf : d.fn = 0
      ·rw [if_pos hf] at hrw
       simp only [Bool.and_eq_true, beq_iff_eq] at hrw
       omega
      ·rw [if_neg hf] at hrw
       simp only [Bool.and_eq_true, decide_eq_true_eq] at hrw
       omega
     obtain ⟨w1', w2'⟩ := hw1
     have HFM : Box (reachL 0 (l.take (k + 1)) = min r (firstM d)) := ⟨by rw [HRT.out, if_pos hkd]⟩
     have e1 : (d.kind != 1) = false := by simp [hkd]
     have e1' : (d.kind == 1) = true := by simp [hkd]
     clear hrd hrw HRT hkd
     by_cases f0 : d.fn = 0
     ·have HF : Box (firstM d = -d.off) := ⟨by unfold firstM; rw [if_pos f0]⟩
      have g0 : (d.fn == 0) = true := by simp [f0]
      have g5 : (d.fn == 5) = false := by simp [f0]
      have g6 : (d.fn == 6) = false := by simp [f0]
      rw [HF.out] at HFM
      clear f0 HF
      go_wp2_with fail
      go_roundw
      case rel => exact ⟨k + 1, by omega, by go_num, by rw [HFM.out], ⟨HS.out.next (bel1 _ _)⟩⟩
      case measure => simp [intOf]; omega
     ·by_cases f5 : d.fn = 5
      ·have HF : Box (firstM d = -d.off - d.win) := ⟨by unfold firstM; rw [if_neg f0, if_pos (.inl f5)]⟩
       have g0 : (d.fn == 0) = false := by simp [f5]
       have g5 : (d.fn == 5) = true := by simp [f5]
       have g6 : (d.fn == 6) = false := by simp [f5]
       rw [HF.out] at HFM
       clear f0 f5 HF
       go_wp2_with fail
       go_roundw
       case rel => exact ⟨k + 1, by omega, by go_num, by rw [HFM.out], ⟨HS.out.next (bel1 _ _)⟩⟩
       case measure => simp [intOf]; omega
      ·by_cases f6 : d.fn = 6
       ·have HF : Box (firstM d = -d.off - d.win) := ⟨by unfold firstM; rw [if_neg f0, if_pos (.inr f6)]⟩
        have g0 : (d.fn == 0) = false := by simp [f6]
        have g5 : (d.fn == 5) = false := by simp [f6]
        have g6 : (d.fn == 6) = true := by simp [f6]
        rw [HF.out] at HFM
        clear f0 f5 f6 HF
        go_wp2_with fail
        go_roundw
        case rel => exact ⟨k + 1, by omega, by go_num, by rw [HFM.out], ⟨HS.out.next (bel1 _ _)⟩⟩
        case measure => simp [intOf]; omega
       ·have HF : Box (firstM d = -d.off - (d.win - 1)) := ⟨by unfold firstM; rw [if_neg f0, if_neg (by omega)]⟩
        have g0 : (d.fn == 0) = false := by simpa using f0
        have g5 : (d.fn == 5) = false := by simpa using f5
        have g6 : (d.fn == 6) = false := by simpa using f6
        rw [HF.out] at HFM
        clear f0 f5 f6 HF
        go_wp2_with fail
        go_roundw
        case rel => exact ⟨k + 1, by omega, by go_num, by rw [HFM.out], ⟨HS.out.next (bel1 _ _)⟩⟩
        case measure => simp [intOf]; omega
    ·have e1 : (d.kind != 1) = true := by simpa using hkd
     have e1' : (d.kind == 1) = false := by simpa using hkd
     have HFM : Box (reachL 0 (l.take (k + 1)) = r) := ⟨by rw [HRT.out, if_neg hkd]⟩
     clear hrd HRT hkd
     go_wp2_with fail
     go_roundw
     case rel => exact ⟨k + 1, by omega, by go_num, by rw [HFM.out], ⟨HS.out.next (bel1 _ _)⟩⟩
     case measure => simp [intOf]; omega
   ·have hlt2 : ¬ (k : Int) < (l.length : Int) := by omega
    have hke : k = l.length := by omega
    subst hke
    rw [List.take_length]
    go_wp2_with fail
    go_ret
    exact ⟨by rw [HRM.out]; rfl, HS.out.below⟩
 ·have HRM : Box (reachM l = 0) := ⟨by unfold reachM; rw [if_neg h0]⟩
  obtain ⟨er, her⟩ : ∃ er, (treeM l).2 = er := ⟨_, rfl⟩
  rw [her] at h0 CC
  have h1 : (er != 0) = true := by simpa using h0
  have h2 : (er == 0) = false := by simpa using h0
  clear h0 her
  go_enter Tryz.func25, Tryz.ntmps25
  go_wp2_with fail
  with_reducible refine (CC.out).mono ?_
  rintro e1 w1 ⟨rfl, hb1⟩
  have HB := Box.mk hb1
  clear hb1 CC HP
  go_wp2_with fail
  go_ret
  exact ⟨by rw [HRM.out]; rfl, HB.out⟩
end
end Go.Proofs.YtpgdijbfkahepaaGreatDoor
