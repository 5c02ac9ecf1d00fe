/- Contracts, packed: Ac Ux Uy Ag. -/
import Derived.Test.YtipafbppaaflcaaDoorPl41
import Derived.Test.YtipafbppaaflcaaDoorPl42
import Derived.Test.YtipafbppaaflcaaDoorPl45
import Derived.Test.YtipafbppaaflcaaDoorPl46
import Derived.WalkLawsBesides
import Derived.Deep.QuietTactic
import Derived.BigQuiet
set_option linter.unusedVariables false
set_option linter.unusedSimpArgs false
namespace Go.Proofs.YtipafbppaaflcaaDoor
section
open Go.RowKit FracM
def SmallD (d : Nd) : Prop := d.ms.length ≤ 1000000 ∧ d.bys.length ≤ 1000000
theorem own_set {w : World} {B t size n g c j : Nat} {u : Value} {xs : List Value} (h : w.ownsRow B t size (.slice (some ⟨g, 0, none⟩) n c) n xs) : (w.setCell ⟨g, j, none⟩ u).ownsRow B t size (.slice (some ⟨g, 0, none⟩) n c) n (xs.set j u) := by
 obtain ⟨h1, h2⟩ := h
 refine ⟨by rw [List.length_set]; exact h1, ?_⟩
 rcases h2 with ⟨hv, _⟩ | ⟨g', cap, cur, hv, hg, hh, hn, hc, hs, hx⟩
 ·cases hv
 ·cases hv
  refine .inr ⟨g, _, cur.setIfInBounds j u, rfl, hg, ?_, hn, hc, by simpa using hs, ?_⟩
  ·simp [World.setCell, Array.getElem?_modify, hh]
  ·rw [Array.toList_setIfInBounds, List.take_set, hx]
abbrev put10 (W : World) (g o : Nat) (u0 u1 u2 u3 u4 u5 u6 u7 u8 u9 : Value) : World := ((((((((((W.setCell ⟨g, o, none⟩ u0).setCell ⟨g, o + 1, none⟩ u1).setCell ⟨g, o + 2, none⟩ u2).setCell ⟨g, o + 3, none⟩ u3).setCell ⟨g, o + 4, none⟩ u4).setCell ⟨g, o + 5, none⟩ u5).setCell ⟨g, o + 6, none⟩ u6).setCell ⟨g, o + 7, none⟩ u7).setCell ⟨g, o + 8, none⟩ u8).setCell ⟨g, o + 9, none⟩ u9)
theorem flat_split {l : List Nd} {cs : List Sl2} (hl : cs.length = l.length) {i : Nat} {d : Nd} {c : Sl2} (hd : l[i]? = some d) (hc : cs[i]? = some c) :
  ∃ A B : List Value, A.length = i * 10 ∧ (l.zip cs).flatMap insL = A ++ (insL (d, c) ++ B) ∧ ∀ d' c', ((l.set i d').zip (cs.set i c')).flatMap insL = A ++ (insL (d', c') ++ B) := by
 have hi : i < l.length := (List.getElem?_eq_some_iff.1 hd).1
 have e1 : l = l.take i ++ d :: l.drop (i + 1) := by
  have h := List.drop_eq_getElem_cons hi
  rw [(List.getElem?_eq_some_iff.1 hd).2] at h
  rw [← h, List.take_append_drop]
 have e2 : cs = cs.take i ++ c :: cs.drop (i + 1) := by
  have h := List.drop_eq_getElem_cons (List.getElem?_eq_some_iff.1 hc).1
  rw [(List.getElem?_eq_some_iff.1 hc).2] at h
  rw [← h, List.take_append_drop]
 have hlt : (l.take i).length = (cs.take i).length := by rw [List.length_take, List.length_take, hl]
 have hli : (l.take i).length = i := by rw [List.length_take]; omega
 have hci : (cs.take i).length = i := by rw [List.length_take]; omega
 refine ⟨((l.take i).zip (cs.take i)).flatMap insL, ((l.drop (i + 1)).zip (cs.drop (i + 1))).flatMap insL, ?_, ?_, fun d' c' => ?_⟩
 ·rw [insL_len _ _ hlt.symm, hli]
 ·conv => lhs; rw [e1, e2, List.zip_append hlt, List.zip_cons_cons, List.flatMap_append, List.flatMap_cons]
 ·have f1 : l.set i d' = l.take i ++ d' :: l.drop (i + 1) := by
   conv => lhs; rw [e1]
   rw [List.set_append_right _ _ (by omega), hli, Nat.sub_self, List.set_cons_zero]
  have f2 : cs.set i c' = cs.take i ++ c' :: cs.drop (i + 1) := by
   conv => lhs; rw [e2]
   rw [List.set_append_right _ _ (by omega), hci, Nat.sub_self, List.set_cons_zero]
  rw [f1, f2, List.zip_append hlt, List.zip_cons_cons, List.flatMap_append, List.flatMap_cons]
theorem set_at (A r : List Value) (k j : Nat) (hk : A.length = k) (u : Value) : (A ++ r).set (k + j) u = A ++ r.set j u := by
 rw [List.set_append_right _ _ (by omega)]
 congr 2
 omega
theorem InsRows.set {w : World} {P : Nat → Nat → Prop} {l : List Nd} {cs : List Sl2} (h : InsRows w P l cs) (i : Nat) {d : Nd} {c : Sl2} (hd : InsAt w P d c.1 c.2) : InsRows w P (l.set i d) (cs.set i c) := by
 refine ⟨by rw [List.length_set, List.length_set, h.1], fun k e s h1 h2 => ?_⟩
 rw [List.getElem?_set] at h1 h2
 by_cases hk : i = k
 ·rw [if_pos hk] at h1 h2
  split at h1
  ·split at h2
   ·cases h1; cases h2; exact hd
   ·cases h2
  ·cases h1
 ·rw [if_neg hk] at h1 h2
  exact h.2 k e s h1 h2
/-- an instruction of an own plan is replaced -/
theorem PlW.put {W : World} {B g n c i : Nat} {P : Nat → Nat → Prop} {l : List Nd} {d0 d : Nd} {mv bv : Value} (h : PlW W B P (.slice (some ⟨g, 0, none⟩) n c) l) (hn : n = l.length) (h0 : l[i]? = some d0) (hd : InsAt W P d mv bv) (hP : ∀ b e, P b e → b < g) (hB : B ≤ g) :
  PlW (put10 W g (i * 10) (.int .i64 d.kind) (.int .i64 d.fn) (.int .i64 d.win) (.int .i64 d.off) (.int .i64 d.k) (.int .i64 d.num) (.int .i64 d.den) (.string d.name) mv bv) B P (.slice (some ⟨g, 0, none⟩) n c) (l.set i d) ∧ Below g W (put10 W g (i * 10) (.int .i64 d.kind) (.int .i64 d.fn) (.int .i64 d.win) (.int .i64 d.off) (.int .i64 d.k) (.int .i64 d.num) (.int .i64 d.den) (.string d.name) mv bv) := by
 subst hn
 obtain ⟨cs, hown, hrow⟩ := h
 obtain ⟨c0, hc0⟩ : ∃ c0, cs[i]? = some c0 := ⟨cs[i]'(by rw [hrow.1]; exact (List.getElem?_eq_some_iff.1 h0).1), List.getElem?_eq_getElem _⟩
 obtain ⟨A, R, hA, e1, e2⟩ := flat_split hrow.1 h0 hc0
 have hb : Below g W (put10 W g (i * 10) (.int .i64 d.kind) (.int .i64 d.fn) (.int .i64 d.win) (.int .i64 d.off) (.int .i64 d.k) (.int .i64 d.num) (.int .i64 d.den) (.string d.name) mv bv) :=
  ((((((((((Below.refl g W).setCell (p := ⟨g, _, none⟩) (Nat.le_refl _) _).setCell (p := ⟨g, _, none⟩) (Nat.le_refl _) _).setCell (p := ⟨g, _, none⟩) (Nat.le_refl _) _).setCell (p := ⟨g, _, none⟩) (Nat.le_refl _) _).setCell (p := ⟨g, _, none⟩) (Nat.le_refl _) _).setCell (p := ⟨g, _, none⟩) (Nat.le_refl _) _).setCell (p := ⟨g, _, none⟩) (Nat.le_refl _) _).setCell (p := ⟨g, _, none⟩) (Nat.le_refl _) _).setCell (p := ⟨g, _, none⟩) (Nat.le_refl _) _).setCell (p := ⟨g, _, none⟩) (Nat.le_refl _) _
 refine ⟨⟨cs.set i (mv, bv), ?_, (hrow.set i (c := (mv, bv)) hd).keep (Agree.of_lt hb hP)⟩, hb⟩
 have h10 := own_set (j := i * 10 + 9) (u := bv) (own_set (j := i * 10 + 8) (u := mv) (own_set (j := i * 10 + 7) (u := .string d.name) (own_set (j := i * 10 + 6) (u := .int .i64 d.den) (own_set (j := i * 10 + 5) (u := .int .i64 d.num) (own_set (j := i * 10 + 4) (u := .int .i64 d.k) (own_set (j := i * 10 + 3) (u := .int .i64 d.off) (own_set (j := i * 10 + 2) (u := .int .i64 d.win) (own_set (j := i * 10 + 1) (u := .int .i64 d.fn) (own_set (j := i * 10) (u := .int .i64 d.kind) hown)))))))))
 rw [List.length_set, e2]
 have e3 : (A ++ (insL (d0, c0) ++ R)).set (i * 10) (.int .i64 d.kind) = A ++ (insL (d0, c0) ++ R).set 0 (.int .i64 d.kind) := set_at A _ (i * 10) 0 hA _
 rw [e1, e3, set_at A _ (i * 10) 1 hA, set_at A _ (i * 10) 2 hA, set_at A _ (i * 10) 3 hA, set_at A _ (i * 10) 4 hA, set_at A _ (i * 10) 5 hA, set_at A _ (i * 10) 6 hA, set_at A _ (i * 10) 7 hA, set_at A _ (i * 10) 8 hA, set_at A _ (i * 10) 9 hA] at h10
 exact h10
/-- a number of an instruction of an own plan is replaced -/
theorem PlW.put1 {W : World} {B g n c i j : Nat} {P : Nat → Nat → Prop} {l : List Nd} {d d' : Nd} {u : Value} (h : PlW W B P (.slice (some ⟨g, 0, none⟩) n c) l) (hn : n = l.length) (h0 : l[i]? = some d) (hd : ∀ mv bv, InsAt W P d mv bv → InsAt W P d' mv bv) (hu : ∀ mv bv, (insL (d, mv, bv)).set j u = insL (d', mv, bv)) (hj : j < 10) (hP : ∀ b e, P b e → b < g) (hB : B ≤ g) :
  PlW (W.setCell ⟨g, i * 10 + j, none⟩ u) B P (.slice (some ⟨g, 0, none⟩) n c) (l.set i d') ∧ Below g W (W.setCell ⟨g, i * 10 + j, none⟩ u) := by
 subst hn
 obtain ⟨cs, hown, hrow⟩ := h
 obtain ⟨c0, hc0⟩ : ∃ c0, cs[i]? = some c0 := ⟨cs[i]'(by rw [hrow.1]; exact (List.getElem?_eq_some_iff.1 h0).1), List.getElem?_eq_getElem _⟩
 obtain ⟨A, R, hA, e1, e2⟩ := flat_split hrow.1 h0 hc0
 have hb : Below g W (W.setCell ⟨g, i * 10 + j, none⟩ u) := (Below.refl g W).setCell (p := ⟨g, _, none⟩) (Nat.le_refl _) _
 refine ⟨⟨cs.set i c0, ?_, (hrow.set i (c := c0) (hd _ _ (hrow.2 i d c0 h0 hc0))).keep (Agree.of_lt hb hP)⟩, hb⟩
 have h1 := own_set (j := i * 10 + j) (u := u) hown
 rw [List.length_set, e2]
 rw [e1, set_at A _ (i * 10) j hA, List.set_append_left _ _ (by show j < 10; exact hj), hu] at h1
 exact h1
end
section
open Go.RowKit FracM
theorem ptree_any (l : List Nd) (pv : Value) (w : World) (hp : PlanP w AnyP pv l) (hsm : ∀ d ∈ l, d.ms.length ≤ 1000000 ∧ d.bys.length ≤ 1000000) (hw : WordsG w) : Calls Tryd.prog 26 #[pv] w (RetTr (treeM l) w) := by
 by_cases h : 200 < l.length
 ·exact ptree_big l pv w hp h
 ·exact ptree_small l pv w hp hsm hw (by omega)
set_option maxHeartbeats 4000000 in
set_option maxRecDepth 100000 in
theorem pcheck_any (l : List Nd) (pv : Value) (w : World) (hp : PlanP w AnyP pv l) (hsm : ∀ d ∈ l, d.ms.length ≤ 1000000 ∧ d.bys.length ≤ 1000000) (hw : WordsG w) : Calls Tryd.prog 19 #[pv] w (RetB (.int .i64 (treeM l).2) w) := by
 obtain ⟨A, c, rfl, -⟩ := hp.form
 have CT := Box.mk (ptree_any l _ w hp hsm hw)
 clear hp hsm hw
 obtain ⟨q, hq⟩ : ∃ q, treeM l = q := ⟨_, rfl⟩
 rw [hq] at CT ⊢
 clear hq
 obtain ⟨⟨d, ks⟩, er⟩ := q
 go_enter Tryd.func19, Tryd.ntmps19
 go_wp2_with fail
 with_reducible refine (CT.out).mono ?_
 rintro e1 w1 ⟨mv, bv, kv, rfl, hT, hb⟩
 obtain ⟨A1, c1, rfl, -⟩ := hT.nod.ms.form
 obtain ⟨A2, c2, rfl, -⟩ := hT.nod.bys.form
 obtain ⟨A3, c3, rfl, -⟩ := hT.nod.kform
 have HB := Box.mk hb
 clear hT hb CT
 simp only [Tree.d]
 go_wp2_with fail
 go_ret
 exact ⟨rfl, bthen HB.out (bel1 _ _) (Nat.le_refl _)⟩
theorem reach_bd : ∀ (l : List Nd) (r : Int), (∀ d ∈ l, rangedB d = true) → -9000 ≤ r → r ≤ 0 → -9000 ≤ reachL r l ∧ reachL r l ≤ 0 := by
 intro l
 induction l with
 | nil => intro r _ h1 h2; exact ⟨h1, h2⟩
 | cons d q ih =>
  intro r h h1 h2
  show -9000 ≤ reachL (if d.kind = 1 then min r (firstM d) else r) q ∧ reachL (if d.kind = 1 then min r (firstM d) else r) q ≤ 0
  by_cases hk : d.kind = 1
  ·rw [if_pos hk]
   have hr := h d (by simp)
   have h3 := firstM_le hr hk
   have h4 : -9000 ≤ firstM d := by
    unfold rangedB at hr
    rw [if_pos hk] at hr
    simp only [Bool.and_eq_true, decide_eq_true_eq] at hr
    unfold firstM
    by_cases h0 : d.fn = 0
    ·rw [if_pos h0]; omega
    ·rw [if_neg h0] at hr ⊢
     simp only [Bool.and_eq_true, decide_eq_true_eq] at hr
     split <;> omega
   exact ih _ (fun e he => h e (by simp [he])) (by omega) (by omega)
  ·rw [if_neg hk]
   exact ih _ (fun e he => h e (by simp [he])) h1 h2
theorem reach_take {l : List Nd} {k : Nat} {d : Nd} (hd : l[k]? = some d) (r : Int) : reachL r (l.take (k + 1)) = if d.kind = 1 then min (reachL r (l.take k)) (firstM d) else reachL r (l.take k) := by
 rw [show l.take (k + 1) = l.take k ++ [d] by rw [List.take_add_one, hd]; rfl, reach_app]
 rfl
structure RcS (w W : World) (pv : Value) (l : List Nd) : Prop where
 below : Below w.heap.size w W
 pl : PlanP W AnyP pv l
theorem RcS.next {w W W' : World} {pv : Value} {l : List Nd} (h : RcS w W pv l) (f : Below W.heap.size W W') : RcS w W' pv l := ⟨bthen h.below f (Nat.le_refl _), h.pl.anyB f⟩
set_option maxHeartbeats 8000000 in
set_option maxRecDepth 100000 in
theorem preach_any (l : List Nd) (pv : Value) (w : World) (hp : PlanP w AnyP pv l) (hsm : ∀ d ∈ l, d.ms.length ≤ 1000000 ∧ d.bys.length ≤ 1000000) (hw : WordsG w) : Calls Tryd.prog 24 #[pv] w (RetB (.int .i64 (reachM l)) w) := by
 obtain ⟨A, c, rfl, lA⟩ := hp.form
 have CC := Box.mk (pcheck_any l _ w hp hsm hw)
 have HP := Box.mk hp
 clear hp hsm hw
 by_cases h0 : (treeM l).2 = 0
 ·have HRG := Box.mk (plan_rng h0)
  have HRM : Box (reachM l = reachL 0 l) := ⟨by unfold reachM; rw [if_pos h0]⟩
  rw [h0] at CC
  clear h0
  go_enter Tryd.func24, Tryd.ntmps24
  go_wp2_with fail
  with_reducible refine (CC.out).mono ?_
  rintro e1 w1 ⟨rfl, hb1⟩
  have HS1 : Box (RcS w w1 (.slice A l.length c) l) := ⟨hb1, HP.out.anyB hb1⟩
  clear hb1 CC HP
  go_wp2_with fail
  go_loopw [3, 12] (fun r v wr => ∃ k : Nat, k ≤ l.length ∧ v = .int .i64 (k : Nat) ∧ r = .int .i64 (reachL 0 (l.take k)) ∧ Box (RcS w wr (.slice A l.length c) l)) (fun _ v _ => l.length - (intOf v).toNat)
  case atStart => exact ⟨0, by omega, rfl, rfl, HS1⟩
  case round =>
   clear HS1
   obtain ⟨k, hk, rfl, rfl, HS⟩ := hrel
   by_cases hlt : k < l.length
   ·obtain ⟨d, hd⟩ : ∃ d, l[k]? = some d := ⟨l[k], List.getElem?_eq_getElem _⟩
    have HRT := Box.mk (reach_take hd 0)
    obtain ⟨r1, r2⟩ := reach_bd (l.take k) 0 (fun e he => HRG.out e (List.mem_of_mem_take he)) (by omega) (by omega)
    have hrd := HRG.out d (List.mem_of_getElem? hd)
    obtain ⟨r, hr⟩ : ∃ r, reachL 0 (l.take k) = r := ⟨_, rfl⟩
    rw [hr] at HRT r1 r2 ⊢
    obtain ⟨pb, po, mv, bv, rfl, plt, -, ⟨k0, k1, k2, k3, k4, k5, k6, k7, k8, k9⟩, hx⟩ := HS.out.pl.at_ k d hd
    obtain ⟨X1, x1, rfl, -⟩ := hx.ms.form
    obtain ⟨X2, x2, rfl, -⟩ := hx.bys.form
    have hlt2 : (k : Int) < (l.length : Int) := by omega
    have hk0 : (0 : Int) ≤ (k : Int) := by omega
    clear hx hd hr
    by_cases hkd : d.kind = 1
    ·have hrd2 := hrd
     unfold rangedB at hrd2
     rw [if_pos hkd] at hrd2
     simp only [Bool.and_eq_true, decide_eq_true_eq] at hrd2
     obtain ⟨⟨o1, o2⟩, hrw⟩ := hrd2
     have hw1 : 0 ≤ d.win ∧ d.win ≤ 4096 := by
      by_cases hf : d.fn = 0
      ·rw [if_pos hf] at hrw
       simp only [Bool.and_eq_true, beq_iff_eq] at hrw
       omega
      ·rw [if_neg hf] at hrw
       simp only [Bool.and_eq_true, decide_eq_true_eq] at hrw
       omega
     obtain ⟨w1', w2'⟩ := hw1
     have HFM : Box (reachL 0 (l.take (k + 1)) = min r (firstM d)) := ⟨by rw [HRT.out, if_pos hkd]⟩
     have e1 : (d.kind != 1) = false := by simp [hkd]
     have e1' : (d.kind == 1) = true := by simp [hkd]
     clear hrd hrw HRT hkd
     by_cases f0 : d.fn = 0
     ·have HF : Box (firstM d = -d.off) := ⟨by unfold firstM; rw [if_pos f0]⟩
      have g0 : (d.fn == 0) = true := by simp [f0]
      have g5 : (d.fn == 5) = false := by simp [f0]
      have g6 : (d.fn == 6) = false := by simp [f0]
      rw [HF.out] at HFM
      clear f0 HF
      go_wp2_with fail
      go_roundw
      case rel => exact ⟨k + 1, by omega, by go_num, by rw [HFM.out], ⟨HS.out.next (bel1 _ _)⟩⟩
      case measure => simp [intOf]; omega
     ·by_cases f5 : d.fn = 5
      ·have HF : Box (firstM d = -d.off - d.win) := ⟨by unfold firstM; rw [if_neg f0, if_pos (.inl f5)]⟩
       have g0 : (d.fn == 0) = false := by simp [f5]
       have g5 : (d.fn == 5) = true := by simp [f5]
       have g6 : (d.fn == 6) = false := by simp [f5]
       rw [HF.out] at HFM
       clear f0 f5 HF
       go_wp2_with fail
       go_roundw
       case rel => exact ⟨k + 1, by omega, by go_num, by rw [HFM.out], ⟨HS.out.next (bel1 _ _)⟩⟩
       case measure => simp [intOf]; omega
      ·by_cases f6 : d.fn = 6
       ·have HF : Box (firstM d = -d.off - d.win) := ⟨by unfold firstM; rw [if_neg f0, if_pos (.inr f6)]⟩
        have g0 : (d.fn == 0) = false := by simp [f6]
        have g5 : (d.fn == 5) = false := by simp [f6]
        have g6 : (d.fn == 6) = true := by simp [f6]
        rw [HF.out] at HFM
        clear f0 f5 f6 HF
        go_wp2_with fail
        go_roundw
        case rel => exact ⟨k + 1, by omega, by go_num, by rw [HFM.out], ⟨HS.out.next (bel1 _ _)⟩⟩
        case measure => simp [intOf]; omega
       ·have HF : Box (firstM d = -d.off - (d.win - 1)) := ⟨by unfold firstM; rw [if_neg f0, if_neg (by omega)]⟩
        have g0 : (d.fn == 0) = false := by simpa using f0
        have g5 : (d.fn == 5) = false := by simpa using f5
        have g6 : (d.fn == 6) = false := by simpa using f6
        rw [HF.out] at HFM
        clear f0 f5 f6 HF
        go_wp2_with fail
        go_roundw
        case rel => exact ⟨k + 1, by omega, by go_num, by rw [HFM.out], ⟨HS.out.next (bel1 _ _)⟩⟩
        case measure => simp [intOf]; omega
    ·have e1 : (d.kind != 1) = true := by simpa using hkd
     have e1' : (d.kind == 1) = false := by simpa using hkd
     have HFM : Box (reachL 0 (l.take (k + 1)) = r) := ⟨by rw [HRT.out, if_neg hkd]⟩
     clear hrd HRT hkd
     go_wp2_with fail
     go_roundw
     case rel => exact ⟨k + 1, by omega, by go_num, by rw [HFM.out], ⟨HS.out.next (bel1 _ _)⟩⟩
     case measure => simp [intOf]; omega
   ·have hlt2 : ¬ (k : Int) < (l.length : Int) := by omega
    have hke : k = l.length := by omega
    subst hke
    rw [List.take_length]
    go_wp2_with fail
    go_ret
    exact ⟨by rw [HRM.out]; rfl, HS.out.below⟩
 ·have HRM : Box (reachM l = 0) := ⟨by unfold reachM; rw [if_neg h0]⟩
  obtain ⟨er, her⟩ : ∃ er, (treeM l).2 = er := ⟨_, rfl⟩
  rw [her] at h0 CC
  have h1 : (er != 0) = true := by simpa using h0
  have h2 : (er == 0) = false := by simpa using h0
  clear h0 her
  go_enter Tryd.func24, Tryd.ntmps24
  go_wp2_with fail
  with_reducible refine (CC.out).mono ?_
  rintro e1 w1 ⟨rfl, hb1⟩
  have HB := Box.mk hb1
  clear hb1 CC HP
  go_wp2_with fail
  go_ret
  exact ⟨by rw [HRM.out]; rfl, HB.out⟩
end
section
open Go.RowKit FracM
theorem PlanP.lit {w : World} {b : Nat} {P : Nat → Nat → Prop} {d : Nd} {mv bv : Value} (h : Blk w b 45 (insC d mv bv)) (hi : InsAt w P d mv bv) : PlanP w AnyP (.slice (some ⟨b, 0, none⟩) 1 1) [d] := by
 refine ⟨[(mv, bv)], ⟨rfl, some ⟨b, 0, none⟩, 1, rfl, Nat.le_refl _, by unfold maxLen; omega, fun _ => ⟨b, 0, rfl, h.lt, trivial, fun j u hu => ?_⟩⟩, rfl, fun i d' c h1 h2 => ?_⟩
 ·unfold Blk at h
  simp only [World.cell?, h, Nat.zero_add]
  simpa [insL] using hu
 ·cases i with
  | zero => simp at h1 h2; subst h1 h2; exact hi.any
  | succ i => simp at h1
def liveB : Nd := ⟨3, 0, 0, 0, 0, 0, 0, ⟨#[]⟩, [], []⟩
theorem liveB_ok : NdOk liveB := ⟨⟨(by unfold I64; decide), (by unfold I64; decide), (by unfold I64; decide), (by unfold I64; decide), (by unfold I64; decide), (by unfold I64; decide), (by unfold I64; decide)⟩, (by unfold maxLen; decide), (fun m h => by cases h), (fun m h => by cases h)⟩
theorem small_post {t : Tree} (h : validE t = 0) : ∀ d ∈ postT t, d.ms.length ≤ 1000000 ∧ d.bys.length ≤ 1000000 := fun d hd => by have := (postT_small h).2 d hd; omega
theorem live_post : ∃ d0 d1 d2, postT liveU = [d0, d1, d2] ∧ d0.win = 3 ∧ d2.kind = 3 := ⟨_, _, _, rfl, rfl, rfl⟩
set_option maxHeartbeats 8000000 in
set_option maxRecDepth 100000 in
theorem plives_true (w : World) (hl : WordsV w) : Calls Tryd.prog 12 #[] w (RetB (.bool true) w) := by
 have HL := Box.mk hl
 clear hl
 go_enter Tryd.func12, Tryd.ntmps12
 go_wp2_with fail
 refine (parse_at _ liveU 0 0 _ (by unfold maxLen; decide +kernel) HL.out live_q).mono ?_
 rintro e w1 ⟨mv, bv, kv, rfl, hT, hb⟩
 have HC : Box (compileM liveU = (postT liveU, 0)) := ⟨live_c⟩
 have HR : Box (reachM (postT liveU) = -3) := ⟨live_r⟩
 have HSM : Box (∀ d ∈ postT liveU, d.ms.length ≤ 1000000 ∧ d.bys.length ≤ 1000000) := ⟨small_post live_v⟩
 obtain ⟨d0, d1, d2, hpo, hw0, hk2⟩ := live_post
 obtain ⟨P, hP⟩ : ∃ P, postT liveU = P := ⟨_, rfl⟩
 rw [hP] at HC HR HSM hpo
 clear hP
 obtain ⟨T, hTe⟩ : ∃ T, liveU = T := ⟨_, rfl⟩
 rw [hTe] at hT HC ⊢
 clear hTe
 obtain ⟨d, ks⟩ := T
 obtain ⟨A1, c1, rfl, -⟩ := hT.nod.ms.form
 obtain ⟨A2, c2, rfl, -⟩ := hT.nod.bys.form
 obtain ⟨A3, c3, rfl, -⟩ := hT.nod.kform
 have HS1 : Box (Below w.heap.size w (w1.alloc (.cells (ndC d (.slice A1 d.ms.length c1) (.slice A2 d.bys.length c2) (.slice A3 ks.length c3)) 29)) ∧ Blk (w1.alloc (.cells (ndC d (.slice A1 d.ms.length c1) (.slice A2 d.bys.length c2) (.slice A3 ks.length c3)) 29)) w1.heap.size 29 (ndC d (.slice A1 d.ms.length c1) (.slice A2 d.bys.length c2) (.slice A3 ks.length c3)) ∧ TreeAt (w1.alloc (.cells (ndC d (.slice A1 d.ms.length c1) (.slice A2 d.bys.length c2) (.slice A3 ks.length c3)) 29)) (fun b _ => w.heap.size ≤ b) (.node d ks) (.slice A1 d.ms.length c1, .slice A2 d.bys.length c2, .slice A3 ks.length c3)) := ⟨bthen hb (bel1 _ _) (Nat.le_refl _), Blk.new _ _ _, hT.belo (bel1 _ _)⟩
 clear hT hb
 simp only [Tree.d]
 go_upto_region 2 with (fail)
 generalize w1.heap.size = g at *
 generalize w1.alloc (.cells (ndC d (.slice A1 d.ms.length c1) (.slice A2 d.bys.length c2) (.slice A3 ks.length c3)) 29) = W at *
 obtain ⟨k0, k1, k2, k3, k4, k5, k6, k7, k8, k9, k10⟩ := blk11z HS1.out.2.1
 have CC : Box (Calls Tryd.prog 22 #[.agg (ndC d (.slice A1 d.ms.length c1) (.slice A2 d.bys.length c2) (.slice A3 ks.length c3))] W (RetPlF (P, 0) W)) := ⟨by rw [← HC.out]; exact pcompile_any (.node d ks) _ W (.slice A1 d.ms.length c1, .slice A2 d.bys.length c2, .slice A3 ks.length c3) HS1.out.2.2 (wordsV_g (HL.out.below HS1.out.1))⟩
 go_wp2_with fail
 refine (CC.out).mono ?_
 rintro e w2 ⟨pv, rfl, hp, hb2⟩
 obtain ⟨B, cb, rfl⟩ := hp.form
 have HP2 : Box (PlanP w2 AnyP (.slice B P.length cb) P ∧ Below w.heap.size w w2) := ⟨hp.any, bthen HS1.out.1 hb2 (Nat.le_refl _)⟩
 clear k0 k1 k2 k3 k4 k5 k6 k7 k8 k9 k10
 clear hp hb2 CC HS1
 have hlen : P.length = 3 := by rw [hpo]; rfl
 rw [hlen] at HP2 ⊢
 have HLEN := Box.mk hlen
 clear hlen
 have HIB : Box (PlanP (w2.alloc (.cells (insC liveB (.slice none 0 0) (.slice none 0 0)) 45)) AnyP (.slice (some ⟨w2.heap.size, 0, none⟩) 1 1) [liveB] ∧ PlanP (w2.alloc (.cells (insC liveB (.slice none 0 0) (.slice none 0 0)) 45)) AnyP (.slice B 3 cb) P ∧ Below w.heap.size w (w2.alloc (.cells (insC liveB (.slice none 0 0) (.slice none 0 0)) 45))) := ⟨PlanP.lit (P := AnyP) (Blk.new _ _ _) ⟨liveB_ok, SeqP.nil _ _ _, SeqP.nil _ _ _⟩, HP2.out.1.anyB (bel1 _ _), bthen HP2.out.2 (bel1 _ _) (Nat.le_refl _)⟩
 have CB : Box (Calls Tryd.prog 19 #[.slice (some ⟨w2.heap.size, 0, none⟩) 1 1] (w2.alloc (.cells (insC liveB (.slice none 0 0) (.slice none 0 0)) 45)) (RetB (.int .i64 1) (w2.alloc (.cells (insC liveB (.slice none 0 0) (.slice none 0 0)) 45)))) := ⟨by have h := pcheck_any [liveB] _ _ HIB.out.1 (by intro d h; simp at h; subst h; decide) (wordsV_g (HL.out.below HIB.out.2.2)); rw [show (treeM [liveB]).2 = 1 from congrArg Prod.snd live_b] at h; exact h⟩
 go_wp2_with fail
 refine (CB.out).mono ?_
 rintro e w3 ⟨rfl, hb3⟩
 have HP3 : Box (PlanP w3 AnyP (.slice B 3 cb) P ∧ Below w.heap.size w w3) := ⟨HIB.out.2.1.anyB hb3, bthen HIB.out.2.2 hb3 (Nat.le_refl _)⟩
 clear hb3 CB HIB HP2
 obtain ⟨b0, o0, mv0, bv0, rfl, -, -, ⟨-, -, z2, -⟩, -⟩ := HP3.out.1.at_ 0 d0 (by rw [hpo]; rfl)
 obtain ⟨b0', o0', mv2, bv2, he, -, -, ⟨y0, -⟩, -⟩ := HP3.out.1.at_ 2 d2 (by rw [hpo]; rfl)
 cases he
 have x1 : w3.cell? ⟨b0, o0 + 2, none⟩ = some (.int .i64 3) := by rw [← hw0]; simpa using z2
 have x2 : w3.cell? ⟨b0, o0 + 20, none⟩ = some (.int .i64 3) := by rw [← hk2]; simpa using y0
 have CR : Box (Calls Tryd.prog 24 #[.slice (some ⟨b0, o0, none⟩) 3 cb] w3 (RetB (.int .i64 (-3)) w3)) := ⟨by rw [← HR.out]; exact preach_any P _ w3 HP3.out.1 HSM.out (wordsV_g (HL.out.below HP3.out.2))⟩
 clear z2 y0 hw0 hk2 hpo
 go_wp2_with fail
 refine (CR.out).mono ?_
 rintro e w4 ⟨rfl, hb4⟩
 have HB4 : Box (Below w.heap.size w w4) := ⟨bthen HP3.out.2 hb4 (Nat.le_refl _)⟩
 clear hb4 CR HP3 x1 x2
 go_wp2_with fail
 go_ret
 exact ⟨rfl, HB4.out⟩
set_option maxHeartbeats 4000000 in
set_option maxRecDepth 100000 in
theorem compiles_any (t : Tree) (P : Nat → Nat → Prop) (w : World) (s : Sl) (hT : TreeAt w P t s) (hn : nds t ≤ 1000000) (hd : dep t ≤ 1000000) (hw : WordsV w) : Calls Tryd.prog 9 #[.agg (ndC t.d s.1 s.2.1 s.2.2)] w (RetB (.bool true) w) := by
 obtain ⟨d, ks⟩ := t
 obtain ⟨mv, bv, kv⟩ := s
 obtain ⟨A1, c1, rfl, -⟩ := hT.nod.ms.form
 obtain ⟨A2, c2, rfl, -⟩ := hT.nod.bys.form
 obtain ⟨A3, c3, rfl, -⟩ := hT.nod.kform
 have HL := Box.mk hw
 have HN := Box.mk (And.intro hn hd)
 have HS1 : Box (Below w.heap.size w (w.alloc (.cells (ndC d (.slice A1 d.ms.length c1) (.slice A2 d.bys.length c2) (.slice A3 ks.length c3)) 29)) ∧ Blk (w.alloc (.cells (ndC d (.slice A1 d.ms.length c1) (.slice A2 d.bys.length c2) (.slice A3 ks.length c3)) 29)) w.heap.size 29 (ndC d (.slice A1 d.ms.length c1) (.slice A2 d.bys.length c2) (.slice A3 ks.length c3)) ∧ TreeAt (w.alloc (.cells (ndC d (.slice A1 d.ms.length c1) (.slice A2 d.bys.length c2) (.slice A3 ks.length c3)) 29)) P (.node d ks) (.slice A1 d.ms.length c1, .slice A2 d.bys.length c2, .slice A3 ks.length c3)) := ⟨bel1 _ _, Blk.new _ _ _, hT.belo (bel1 _ _)⟩
 clear hT hw hn hd
 simp only [Tree.d]
 go_enter Tryd.func9, Tryd.ntmps9
 go_upto_region 1 with (fail)
 generalize w.alloc (.cells (ndC d (.slice A1 d.ms.length c1) (.slice A2 d.bys.length c2) (.slice A3 ks.length c3)) 29) = W at *
 obtain ⟨p, hp⟩ : ∃ p, compileM (.node d ks) = p := ⟨_, rfl⟩
 obtain ⟨l, er⟩ := p
 have CC : Box (Calls Tryd.prog 22 #[.agg (ndC d (.slice A1 d.ms.length c1) (.slice A2 d.bys.length c2) (.slice A3 ks.length c3))] W (RetPlF (l, er) W)) := ⟨by rw [← hp]; exact pcompile_any (.node d ks) _ W (.slice A1 d.ms.length c1, .slice A2 d.bys.length c2, .slice A3 ks.length c3) HS1.out.2.2 (wordsV_g (HL.out.below HS1.out.1))⟩
 have CR : Box (∀ W' : World, TreeAt W' P (.node d ks) (.slice A1 d.ms.length c1, .slice A2 d.bys.length c2, .slice A3 ks.length c3) → Calls Tryd.prog 13 #[.agg (ndC d (.slice A1 d.ms.length c1) (.slice A2 d.bys.length c2) (.slice A3 ks.length c3))] W' (RetPlE (l, er) P W')) := ⟨fun W' h => by rw [← hp]; exact rcompile_any (.node d ks) P W' (.slice A1 d.ms.length c1, .slice A2 d.bys.length c2, .slice A3 ks.length c3) h HN.out.1 HN.out.2⟩
 clear hp
 obtain ⟨k0, k1, k2, k3, k4, k5, k6, k7, k8, k9, k10⟩ := blk11z HS1.out.2.1
 go_wp2_with fail
 refine (CC.out).mono ?_
 rintro e w2 ⟨pv, rfl, hp, hb2⟩
 obtain ⟨B, cb, rfl⟩ := hp.form
 have HS2 : Box (Below w.heap.size w w2 ∧ Blk w2 w.heap.size 29 (ndC d (.slice A1 d.ms.length c1) (.slice A2 d.bys.length c2) (.slice A3 ks.length c3)) ∧ TreeAt w2 P (.node d ks) (.slice A1 d.ms.length c1, .slice A2 d.bys.length c2, .slice A3 ks.length c3) ∧ PlanP w2 AnyP (.slice B l.length cb) l) := ⟨bthen HS1.out.1 hb2 (Nat.le_refl _), HS1.out.2.1.below hb2, HS1.out.2.2.belo hb2, hp.any⟩
 clear k0 k1 k2 k3 k4 k5 k6 k7 k8 k9 k10
 clear hp hb2 CC HS1
 obtain ⟨k0, k1, k2, k3, k4, k5, k6, k7, k8, k9, k10⟩ := blk11z HS2.out.2.1
 go_wp2_with fail
 with_reducible refine (CR.out _ HS2.out.2.2.1).mono ?_
 rintro e w3 ⟨qv, rfl, hq, hb3⟩
 obtain ⟨C, cc, rfl⟩ := hq.form
 have HS3 : Box (Below w.heap.size w w3 ∧ PlanP w3 AnyP (.slice B l.length cb) l ∧ PlanP w3 AnyP (.slice C l.length cc) l) := ⟨bthen HS2.out.1 hb3 (Nat.le_refl _), HS2.out.2.2.2.anyB hb3, hq.any⟩
 clear k0 k1 k2 k3 k4 k5 k6 k7 k8 k9 k10
 clear hq hb3 CR HS2
 have hee : (er == er) = true := by simp
 have CS : Box (Calls Tryd.prog 31 #[.slice B l.length cb, .slice C l.length cc] w3 (RetB (.bool true) w3)) := ⟨by rw [← same_self l]; exact rsame_any _ _ l l w3 HS3.out.2.1 HS3.out.2.2⟩
 go_wp2_with fail
 refine (CS.out).mono ?_
 rintro e w4 ⟨rfl, hb4⟩
 have HB4 : Box (Below w.heap.size w w4) := ⟨bthen HS3.out.1 hb4 (Nat.le_refl _)⟩
 clear hb4 CS HS3
 go_wp2_with fail
 go_ret
 exact ⟨rfl, HB4.out⟩
end
section
open Go.RowKit FracM
theorem rreach_take {l : List Nd} {k : Nat} {d : Nd} (hd : l[k]? = some d) (r : Int) : rreachL r (l.take (k + 1)) = min (rreachL r (l.take k)) (firstR d) := by
 rw [show l.take (k + 1) = l.take k ++ [d] by rw [List.take_add_one, hd]; rfl]
 unfold rreachL
 rw [List.foldl_append]
 rfl
set_option maxHeartbeats 8000000 in
set_option maxRecDepth 100000 in
theorem rreach_any (l : List Nd) (pv : Value) (w : World) (hp : PlanP w AnyP pv l) : Calls Tryd.prog 25 #[pv] w (RetB (.int .i64 (reachM l)) w) := by
 obtain ⟨A, c, rfl, lA⟩ := hp.form
 have CC := Box.mk (rpcheck_any l _ w hp)
 have HP := Box.mk hp
 clear hp
 by_cases h0 : (treeM l).2 = 0
 ·have HRG := Box.mk (plan_rng h0)
  have HRM : Box (reachM l = rreachL 0 l) := ⟨by unfold reachM; rw [if_pos h0, reach_same l 0 (plan_rng h0) (by omega)]⟩
  rw [h0] at CC
  clear h0
  go_enter Tryd.func25, Tryd.ntmps25
  go_wp2_with fail
  with_reducible refine (CC.out).mono ?_
  rintro e1 w1 ⟨rfl, hb1⟩
  have HS1 : Box (RcS w w1 (.slice A l.length c) l) := ⟨hb1, HP.out.anyB hb1⟩
  clear hb1 CC HP
  go_wp2_with fail
  go_loopw [3, 4] (fun r v wr => ∃ k : Nat, k ≤ l.length ∧ v = .int .i64 (k : Nat) ∧ r = .int .i64 (rreachL 0 (l.take k)) ∧ Box (RcS w wr (.slice A l.length c) l)) (fun _ v _ => l.length - (intOf v).toNat)
  case atStart => exact ⟨0, by omega, rfl, rfl, HS1⟩
  case round =>
   clear HS1
   obtain ⟨k, hk, rfl, rfl, HS⟩ := hrel
   by_cases hlt : k < l.length
   ·obtain ⟨d, hd⟩ : ∃ d, l[k]? = some d := ⟨l[k], List.getElem?_eq_getElem _⟩
    have HRT := Box.mk (rreach_take hd 0)
    obtain ⟨r1, r2⟩ := reach_bd (l.take k) 0 (fun e he => HRG.out e (List.mem_of_mem_take he)) (by omega) (by omega)
    have hrs := reach_same (l.take k) 0 (fun e he => HRG.out e (List.mem_of_mem_take he)) (by omega)
    rw [← hrs] at r1 r2
    have hrd := HRG.out d (List.mem_of_getElem? hd)
    obtain ⟨r, hr⟩ : ∃ r, rreachL 0 (l.take k) = r := ⟨_, rfl⟩
    rw [hr] at HRT r1 r2 ⊢
    obtain ⟨pb, po, mv, bv, rfl, plt, -, ⟨k0, k1, k2, k3, k4, k5, k6, k7, k8, k9⟩, hx⟩ := HS.out.pl.at_ k d hd
    have hlt2 : (k : Int) < (l.length : Int) := by omega
    have hk0 : (0 : Int) ≤ (k : Int) := by omega
    clear hx hd hr hrs k4 k5 k6 k7 k8 k9
    by_cases hkd : d.kind = 1
    ·have hrd2 := hrd
     unfold rangedB at hrd2
     rw [if_pos hkd] at hrd2
     simp only [Bool.and_eq_true, decide_eq_true_eq] at hrd2
     obtain ⟨⟨o1, o2⟩, hrw⟩ := hrd2
     have hw1 : 0 ≤ d.win ∧ d.win ≤ 4096 := by
      by_cases hf : d.fn = 0
      ·rw [if_pos hf] at hrw
       simp only [Bool.and_eq_true, beq_iff_eq] at hrw
       omega
      ·rw [if_neg hf] at hrw
       simp only [Bool.and_eq_true, decide_eq_true_eq] at hrw
       omega
     obtain ⟨w1', w2'⟩ := hw1
     have e1' : (d.kind == 1) = true := by simp [hkd]
     clear hrd hrw
     by_cases hf : d.fn ≠ 0 ∧ d.fn ≠ 5 ∧ d.fn ≠ 6
     ·have HFM : Box (rreachL 0 (l.take (k + 1)) = min r (-d.off - d.win + 1)) := ⟨by rw [HRT.out]; unfold firstR; rw [if_pos hkd, if_pos hf]⟩
      have g0 : (d.fn != 0) = true := by simpa using hf.1
      have g5 : (d.fn != 5) = true := by simpa using hf.2.1
      have g6 : (d.fn != 6) = true := by simpa using hf.2.2
      clear hf HRT hkd
      go_wp2_with fail
      go_quiet (fail)
      go_wp2_with fail
      go_roundw
      case rel => exact ⟨k + 1, by omega, by go_num, by rw [HFM.out], ⟨HS.out.next (below_drewN wr _)⟩⟩
      case measure => simp [intOf]; omega
     ·have HFM : Box (rreachL 0 (l.take (k + 1)) = min r (-d.off - d.win)) := ⟨by rw [HRT.out]; unfold firstR; rw [if_pos hkd, if_neg hf]⟩
      by_cases f0 : d.fn = 0
      ·have g0 : (d.fn != 0) = false := by simp [f0]
       clear hf HRT hkd f0
       go_wp2_with fail
       go_quiet (fail)
       go_wp2_with fail
       go_roundw
       case rel => exact ⟨k + 1, by omega, by go_num, by rw [HFM.out], ⟨HS.out.next (below_drewN wr _)⟩⟩
       case measure => simp [intOf]; omega
      ·by_cases f5 : d.fn = 5
       ·have g0 : (d.fn != 0) = true := by simpa using f0
        have g5 : (d.fn != 5) = false := by simp [f5]
        clear hf HRT hkd f0 f5
        go_wp2_with fail
        go_quiet (fail)
        go_wp2_with fail
        go_roundw
        case rel => exact ⟨k + 1, by omega, by go_num, by rw [HFM.out], ⟨HS.out.next (below_drewN wr _)⟩⟩
        case measure => simp [intOf]; omega
       ·have f6 : d.fn = 6 := by omega
        have g0 : (d.fn != 0) = true := by simpa using f0
        have g5 : (d.fn != 5) = true := by simpa using f5
        have g6 : (d.fn != 6) = false := by simp [f6]
        clear hf HRT hkd f0 f5 f6
        go_wp2_with fail
        go_quiet (fail)
        go_wp2_with fail
        go_roundw
        case rel => exact ⟨k + 1, by omega, by go_num, by rw [HFM.out], ⟨HS.out.next (below_drewN wr _)⟩⟩
        case measure => simp [intOf]; omega
    ·have e1' : (d.kind == 1) = false := by simpa using hkd
     have HFM : Box (rreachL 0 (l.take (k + 1)) = min r 0) := ⟨by rw [HRT.out]; unfold firstR; rw [if_neg hkd]⟩
     clear hrd HRT hkd
     go_wp2_with fail
     go_roundw
     case rel => exact ⟨k + 1, by omega, by go_num, by rw [HFM.out], HS⟩
     case measure => simp [intOf]; omega
   ·have hlt2 : ¬ (k : Int) < (l.length : Int) := by omega
    have hke : k = l.length := by omega
    subst hke
    rw [List.take_length]
    go_wp2_with fail
    go_ret
    exact ⟨by rw [HRM.out]; rfl, HS.out.below⟩
 ·have HRM : Box (reachM l = 0) := ⟨by unfold reachM; rw [if_neg h0]⟩
  obtain ⟨er, her⟩ : ∃ er, (treeM l).2 = er := ⟨_, rfl⟩
  rw [her] at h0 CC
  have h1 : (er != 0) = true := by simpa using h0
  have h2 : (er == 0) = false := by simpa using h0
  clear h0 her
  go_enter Tryd.func25, Tryd.ntmps25
  go_wp2_with fail
  with_reducible refine (CC.out).mono ?_
  rintro e1 w1 ⟨rfl, hb1⟩
  have HB := Box.mk hb1
  clear hb1 CC HP
  go_wp2_with fail
  go_ret
  exact ⟨by rw [HRM.out]; rfl, HB.out⟩
end
end Go.Proofs.YtipafbppaaflcaaDoor
