/- Contracts, packed: Li Ea Ky. -/
import Derived.Test.YthoibeajhdhdhaaGreatDoorPs30
import Derived.Test.YthoibeajhdhdhaaGreatDoorPs32
import Derived.Test.YthoibeajhdhdhaaGreatDoorPs35
import Derived.Test.YthoibeajhdhdhaaGreatDoorPs41
import Derived.Test.YthoibeajhdhdhaaGreatDoorPs42
import Derived.Recover
import Derived.Tactics2
set_option linter.unusedVariables false
set_option linter.unusedSimpArgs false
namespace Go.Proofs.YthoibeajhdhdhaaGreatDoor
section
open Go.RowKit FracM
theorem namesL_sz : ∀ x ∈ namesL, x.data.toList.length ≤ 4 := by decide +kernel
theorem valuesL_sz : ∀ x ∈ valuesL8, x.data.toList.length ≤ 4 := by decide +kernel
theorem gmat_len {m : Mat} (h : GoodMat m) : (matL m).length ≤ 12 := by
 have h1 := namesL_sz _ h.1
 have h2 := valuesL_sz _ h.2.2
 have h3 : (matchT.getD m.2.1.toNat []).length ≤ 2 := by
  have hk : m.2.1.toNat < 3 := by have := h.2.1; omega
  generalize m.2.1.toNat = k at hk
  match k, hk with
  | 0, _ => decide
  | 1, _ => decide
  | 2, _ => decide
 unfold matL
 simp only [List.length_append, List.length_cons, List.length_nil]
 omega
theorem gmats_len {ms : List Mat} (h : ∀ m ∈ ms, GoodMat m) (hl : ms.length ≤ 3) : (matsL ms).length ≤ 41 := by
 have hr : ∀ l : List Mat, (∀ m ∈ l, GoodMat m) → (matsR l).length ≤ 13 * l.length + 1 := by
  intro l
  induction l with
  | nil => intro _; simp [matsR]
  | cons m l ih =>
   intro hm
   have h1 := gmat_len (hm m (by simp))
   have h2 := ih fun x hx => hm x (by simp [hx])
   rw [matsR]
   simp only [List.length_append, List.length_cons]
   omega
 cases ms with
 | nil => simp [matsL]
 | cons m ms =>
  have h1 := gmat_len (h m (by simp))
  have h2 := hr ms fun x hx => h x (by simp [hx])
  rw [matsL]
  simp only [List.length_append, List.length_cons] at hl ⊢
  omega
theorem gbys_len {l : List ByteArray} (h : l.Sublist namesL) : (bysL l).length ≤ 40 := by
 have hl : l.length ≤ 6 := by simpa [namesL] using h.length_le
 have hx : ∀ x ∈ l, x.data.toList.length ≤ 4 := fun x hx => namesL_sz x (h.subset hx)
 have hr : ∀ l : List ByteArray, (∀ x ∈ l, x.data.toList.length ≤ 4) → (bysR l).length ≤ 5 * l.length + 1 := by
  intro l
  induction l with
  | nil => intro _; simp [bysR]
  | cons x l ih =>
   intro hm
   have h1 := hm x (by simp)
   have h2 := ih fun y hy => hm y (by simp [hy])
   rw [bysR]
   simp only [List.length_append, List.length_cons]
   omega
 cases l with
 | nil => simp [bysL]
 | cons x xs =>
  have h1 := hx x (by simp)
  have h2 := hr xs fun y hy => hx y (by simp [hy])
  rw [bysL]
  simp only [List.length_append, List.length_cons, List.length_nil] at hl ⊢
  omega
theorem fun_sz (k : Nat) : (funcsT.getD k []).length ≤ 8 := by
 rw [List.getD_eq_getElem?_getD]
 match k with
 | 0 => decide
 | 1 => decide
 | 2 => decide
 | 3 => decide
 | 4 => decide
 | 5 => decide
 | 6 => decide
 | 7 => decide
 | n + 8 => simp [funcsT]
theorem gnode_len {ns : List ByteArray} {most : Int} (hn : NamesOk ns) (hm : most ≤ 4096) {d : Nd} {n : Nat} (h : GoodN ns most d n) : (d.kind = 0 → (numL d.num d.den).length ≤ 160) ∧ (d.kind = 1 → (selL d).length ≤ 160) ∧ (d.kind = 2 → (grpL d).length ≤ 90) ∧ (d.kind = 0 → natE d.num d.den = true) := by
 cases h with
 | num x hx =>
  have hz : natE x 1 = true := by
   unfold numsL at hx
   unfold natE
   simp only [List.mem_cons, List.not_mem_nil, or_false] at hx
   simp only [Bool.and_eq_true, decide_eq_true_eq, beq_self_eq_true, true_and]
   omega
  refine ⟨fun _ => ?_, fun h => by simp at h, fun h => by simp at h, fun _ => hz⟩
  have hb : 0 ≤ x ∧ x ≤ 1073741824 := by unfold natE at hz; simpa using hz
  unfold numL
  simp only
  rw [if_pos hz]
  have := itoa_sz x (by omega) (by omega)
  omega
 | sel fn win off k nm ms h1 h2 hnm ho ho2 hw hk hl hms =>
  refine ⟨fun h => by simp at h, fun _ => ?_, fun h => by simp at h, fun h => by simp at h⟩
  have z1 := (hn nm hnm).2.2
  rw [← data_size] at z1
  have z2 := gmats_len hms hl
  have z3 := fun_sz fn.toNat
  have z4 : (Lib.itoa off).length ≤ 21 := itoa_sz off (by omega) (by omega)
  have z5 : (Lib.itoa win).length ≤ 21 := itoa_sz win (by omega) (by omega)
  have z6 : (Lib.itoa k).length ≤ 21 := itoa_sz k (by omega) (by omega)
  unfold selL funL offL
  simp only [List.length_append]
  have z7 : (if fn = 0 then ([] : List UInt8) else 46 :: (funcsT.getD fn.toNat [] ++ (40 :: (Lib.itoa win ++ ((if fn = 7 then 44 :: Lib.itoa k else []) ++ [41]))))).length ≤ 60 := by
   split
   ·simp
   ·split <;> simp only [List.length_append, List.length_cons, List.length_nil] <;> omega
  have z8 : (if off = 0 then ([] : List UInt8) else 64 :: Lib.itoa off).length ≤ 22 := by
   split
   ·simp
   ·simp only [List.length_cons]; omega
  omega
 | grp fn k bys h1 h2 hk hb =>
  refine ⟨fun h => by simp at h, fun h => by simp at h, fun _ => ?_, fun h => by simp at h⟩
  have z1 := gbys_len hb
  have z2 := grpSz fn.toNat
  have z3 : (Lib.itoa k).length ≤ 21 := itoa_sz k (by omega) (by omega)
  unfold grpL
  simp only [List.length_append]
  have z7 : (if fn = 4 then 40 :: (Lib.itoa k ++ [41]) else if bys.isEmpty then ([] : List UInt8) else [32]).length ≤ 23 := by
   split
   ·simp only [List.length_append, List.length_cons, List.length_nil]; omega
   ·split <;> simp
  omega
 | bin fn h1 h2 => exact ⟨fun h => by simp at h, fun h => by simp at h, fun h => by simp at h, fun h => by simp at h⟩
theorem good_show {ns : List ByteArray} {most : Int} (hn : NamesOk ns) (hm : most ≤ 4096) {t : Tree} (h : GoodT ns most t) : (showT t).length ≤ 100 * nds t + 60 ∧ natT t = true := by
 induction h with
 | mk d ks hd hk ih =>
  have h1 := good_chk1 hd hn hm
  obtain ⟨n0, n1, n2, n3⟩ := gnode_len hn hm hd
  have hnat : natT (.node d ks) = true := by
   rw [natT]
   have a : (!(d.kind == 0) || natE d.num d.den) = true := by
    by_cases h0 : d.kind = 0
    ·rw [n3 h0]; simp
    ·simp [h0]
   rw [a, Bool.true_and]
   clear hd h1 hk n0 n1 n2 n3 a
   induction ks with
   | nil => rfl
   | cons x xs ihx => rw [natL, (ih x (by simp)).2, ihx fun t ht => ih t (by simp [ht])]; rfl
  refine ⟨?_, hnat⟩
  rw [showT, nds]
  unfold joinN
  rcases shape_cases (chk1_all h1).1 with hk' | hk' | hk' | hk'
  ·rw [if_pos hk'.1]; have := n0 hk'.1; omega
  ·rw [if_neg (by omega), if_pos hk'.1]; have := n1 hk'.1; omega
  ·rw [if_neg (by omega), if_neg (by omega), if_pos hk'.1]
   match ks, hk'.2.1 with
   | [t], _ =>
    have := (ih t (by simp)).1
    have h3 := n2 hk'.1
    simp only [showL, ndsL, List.headD_cons, List.length_append, List.length_cons, List.length_nil]
    omega
  ·rw [if_neg (by omega), if_neg (by omega), if_neg (by omega)]
   match ks, hk'.2.1 with
   | [a, b], _ =>
    have i1 := (ih a (by simp)).1
    have i2 := (ih b (by simp)).1
    have e1 := encl_len (decide (precT a.d < precT d)) (showT a)
    have e2 := encl_len (decide (precT b.d ≤ precT d)) (showT b)
    have o1 := oprSz d.fn.toNat
    simp only [showL, ndsL, List.map_cons, List.map_nil, List.length_append]
    omega
/-- the generator's trees: printed and parsed back -/
theorem good_round {ns : List ByteArray} {most : Int} (hn : NamesOk ns) (hm : most ≤ 4096) {t : Tree} (h : GoodT ns most t) (h1 : dep t ≤ 12) (h2 : nds t ≤ 19) : printT t = (showT t, 0) ∧ parseT (showT t) = (t, 0, 0) ∧ (showT t).length ≤ 2000 := by
 obtain ⟨g1, g2⟩ := good_show hn hm h
 have hl : (showT t).length ≤ 2000 := by omega
 have hf : fitB t = true := by unfold fitB; simp only [Bool.and_eq_true, decide_eq_true_eq]; omega
 refine ⟨?_, parse_print (good_chk hn hm h) g2 hl hf, hl⟩
 unfold printT
 rw [if_pos (good_valid hn hm h h1 (by omega)), if_neg (by rw [prt_nat t g2]; simp), if_neg (by omega)]
end
section
open Go.RowKit FracM
def tJoinF (d : Nd) (ls : List (List ETok)) : List ETok :=
 if d.kind = 0 then tNum d.num d.den
 else if d.kind = 1 then tSel d
 else if d.kind = 2 then tGrup d ++ (eS [40] :: (ls.headD [] ++ [eS [41]]))
 else match ls with
  | [x, y] => x ++ (eS (opersT.getD d.fn.toNat []) :: y)
  | _ => []
mutual
/-- the tokens of a tree with parentheses around every part -/
def tF : Tree → List ETok
 | .node d ks => eS [40] :: (tJoinF d (tFL ks) ++ [eS [41]])
def tFL : List Tree → List (List ETok)
 | [] => []
 | t :: ts => tF t :: tFL ts
end
/-- the text with parentheses lexes to these tokens -/
theorem Lx_full : ∀ t, chk t = 0 → prtB t = true → ∀ prec r es, nh wrdB r → Lx r es → Lx (showR true t prec ++ r) (tF t ++ es) := Tree.ind fun d ks ih hc hp prec r es hr h => by
 obtain ⟨h1, h2⟩ := chk_ok hc
 obtain ⟨a1, _⟩ := chk1_all h1
 rw [showR_node, Bool.or_true, tF]
 have key : ∀ r' es', nh wrdB r' → Lx r' es' → Lx (joinR d (showRL true ks (kidPrec d)) ++ r') (tJoinF d (tFL ks) ++ es') := by
  intro r' es' hr' h'
  unfold joinR tJoinF
  rcases shape_cases a1 with hk | hk | hk | hk
  ·simp only [if_pos hk.1]
   rw [prtB, if_pos hk.1] at hp
   exact Lx_num hp (valid_iff.1 (shaped_num a1 hk.1)).1 hr' h'
  ·simp only [if_neg (show ¬ d.kind = 0 by omega), if_pos hk.1]
   exact Lx_sel (psel_ok h1 hk.1) hr' h'
  ·simp only [if_neg (show ¬ d.kind = 0 by omega), if_neg (show ¬ d.kind = 1 by omega), if_pos hk.1]
   rw [prtB, if_neg (by omega)] at hp
   match ks, hk.2.1 with
   | [t], _ =>
    have h3 := ih t (by simp) (h2 t (by simp)) (prtL_all hp t (by simp)) (kidPrec d) (41 :: r') (eS [41] :: es') (nh_cons (by decide)) (Lx.sym (by decide) h')
    have h4 := Lx_grp (pgrp_ok h1 hk.1) (nhs (by decide)) (Lx.sym (c := 40) (by decide) h3)
    simpa [showRL, tFL, List.append_assoc] using h4
  ·simp only [if_neg (show ¬ d.kind = 0 by omega), if_neg (show ¬ d.kind = 1 by omega), if_neg (show ¬ d.kind = 2 by omega)]
   rw [prtB, if_neg (by omega)] at hp
   match ks, hk.2.1 with
   | [a, b], _ =>
    obtain ⟨c, hc1, hc2⟩ := opr_sym d.fn.toNat (by omega)
    have h3 := ih b (by simp) (h2 b (by simp)) (prtL_all hp b (by simp)) (kidPrec d + 1) r' es' hr' h'
    have h4 := Lx.sym hc2 h3
    have h5 := ih a (by simp) (h2 a (by simp)) (prtL_all hp a (by simp)) (kidPrec d) _ _ (nh_cons (sym_nw hc2)) h4
    simp only [showRL, tFL]
    rw [hc1]
    simpa [List.append_assoc] using h5
 have h6 := Lx_encl (q := true) hr key h
 unfold tEncl at h6
 simpa using h6
/-- what the parser makes of these tokens -/
def BackF (t : Tree) : Prop := ∀ en n ts es, (tF t).length < n → ts.map er = tF t ++ es → PR (facM en n ts) (norm t) es
theorem BackF.expr {t : Tree} (h : BackF t) {en : Int} {n : Nat} {ts : List Tok} {es : List ETok} (hn : (tF t).length < n) (hu : ts.map er = tF t ++ es) (hf : Fw1 es) : PR (exprOf (facM en n) ts) (norm t) es :=
 expr_done (Chain.base (term_done (Chain.base (h en n ts es hn hu)) hf.1)) hf
theorem backF_all : ∀ t, chk t = 0 → BackF t := Tree.ind fun d ks ih hc => by
 obtain ⟨h1, h2⟩ := chk_ok hc
 obtain ⟨a1, _⟩ := chk1_all h1
 intro en n ts es hn hu
 rw [tF] at hn hu
 simp only [List.length_cons, List.length_append, List.length_nil] at hn
 obtain ⟨n, rfl⟩ : ∃ k, n = k + 1 := ⟨n - 1, by omega⟩
 refine fac_open (l := tJoinF d (tFL ks)) (by rw [hu]; simp) fun us hv => ?_
 rcases shape_cases a1 with hk | hk | hk | hk
 ·have e : tJoinF d (tFL ks) = toksT (.node d ks) := by rw [toksT]; unfold tJoinF tJoin; rw [if_pos hk.1, if_pos hk.1]
  rw [e] at hv hn
  exact expr_done ((back_all _ hc).expr en n us _ (by omega) hv (F1_shut es).1) (F1_shut es)
 ·have e : tJoinF d (tFL ks) = toksT (.node d ks) := by rw [toksT]; unfold tJoinF tJoin; simp only [if_neg (show ¬ d.kind = 0 by omega), if_pos hk.1]
  rw [e] at hv hn
  exact expr_done ((back_all _ hc).expr en n us _ (by omega) hv (F1_shut es).1) (F1_shut es)
 ·have hs := grp_p h1 hk.1
  match ks, hk.2.1, ih, h2, hn, hv with
  | [t], _, ih, h2, hn, hv =>
   have hb := ih t (by simp) (h2 t (by simp))
   unfold tJoinF at hn hv
   rw [if_neg (by omega), if_neg (by omega), if_pos hk.1] at hn hv
   unfold tGrup at hn hv
   simp only [tFL, List.headD_cons, List.length_append, List.length_cons] at hn
   simp only [tFL, List.headD_cons, List.cons_append, List.append_assoc] at hv
   refine expr_done (Chain.base (term_done (Chain.base ?_) (F1_shut es).1)) (F1_shut es)
   obtain ⟨n, rfl⟩ : ∃ k, n = k + 1 := ⟨n - 1, by omega⟩
   obtain ⟨-, b2, -, b4, -⟩ := hd_er hv
   obtain ⟨f, hfn⟩ : ∃ f : Nat, d.fn = f := ⟨d.fn.toNat, by omega⟩
   have b2' : (headT us).text = groupsT.getD f [] := by rw [b2, hfn]; simp
   have hix := idx_grp f (by omega)
   rw [norm, if_neg (by omega), facM, kindT_er, hv, if_neg (by simp [kindE]), isT_er, hv, if_neg (by simp [isE]), kindT_er, hv, if_pos (by simp [kindE]), b2', hix, if_pos (by omega), ← hfn]
   refine group_ok (tt := tF t) (by simpa using b4) hs fun vs hw => hb.expr (by simp at hn; omega) hw (F1_shut _)
 ·obtain ⟨f, hf, rfl⟩ := bin_p h1 hk.1
  match ks, hk.2.1, ih, h2, hn, hv with
  | [a, b], _, ih, h2, hn, hv =>
   have ha := ih a (by simp) (h2 a (by simp))
   have hb := ih b (by simp) (h2 b (by simp))
   have e : tJoinF (binT f (numT 0) (numT 0)).d (tFL [a, b]) = tF a ++ (eS (opAt f) :: tF b) := by
    unfold tJoinF
    have k3 : (binT f (numT 0) (numT 0)).d.kind = 3 := rfl
    rw [if_neg (by rw [k3]; omega), if_neg (by rw [k3]; omega), if_neg (by rw [k3]; omega)]
    simp only [tFL]
    rfl
   rw [e] at hn hv
   simp only [List.length_append, List.length_cons] at hn
   simp only [List.append_assoc, List.cons_append] at hv
   show PR (exprOf (facM en n) us) (binT f (norm a) (norm b)) (eS [41] :: es)
   by_cases h2 : f < 2
   ·refine expr_done (Chain.step (fn := f) (rs := tF b) (by omega) (by omega) (Chain.base (term_done (Chain.base (ha en n us _ (by omega) hv)) (F2_pm h2 _))) fun vs hw => term_done (Chain.base (hb en n vs _ (by omega) hw)) (F1_shut es).1) (F1_shut es)
   ·refine expr_done (Chain.base (term_done (Chain.step (fn := f) (rs := tF b) (by omega) (by omega) (Chain.base (ha en n us _ (by omega) hv)) fun vs hw => hb en n vs _ (by omega) hw) (F1_shut es).1)) (F1_shut es)
/-- a text whose tokens are parsed to a tree -/
theorem parse_Lx {u : List UInt8} {es : List ETok} {t : Tree} (hx : Lx u es) (hl : u.length ≤ 2000) (hp : ∀ en n T, es.length < n → T.map er = es → PR (exprOf (facM en n) T) t []) (hf : fitB t = true) : parseT u = (t, 0, 0) := by
 obtain ⟨T, h1, h2⟩ := hx u.length 0 (Nat.le_refl _)
 have hlen : es.length < u.length + 1 := by
  have := lexM_len u.length 0 u
  rw [h1] at this
  simp only at this
  rw [← h2, List.length_map]
  omega
 obtain ⟨us, h3, h4⟩ := hp u.length (u.length + 1) T hlen h2
 have hu : us = [] := by simpa using h4
 subst hu
 unfold parseT
 rw [if_neg (by omega), h1]
 simp only [↓reduceIte]
 rw [show exprOf (facM ↑u.length (u.length + 1)) T = .ok (t, []) from h3]
 simp only
 rw [if_pos hf]
end
section
open Go.RowKit FracM
theorem blk11v {w : World} {b : Nat} {t : TypeId} {v0 v1 v2 v3 v4 v5 v6 v7 v8 v9 v10 : Value} (h : Blk w b t #[v0, v1, v2, v3, v4, v5, v6, v7, v8, v9, v10]) : w.cell? ⟨b, 0, none⟩ = some v0 ∧ w.cell? ⟨b, 1, none⟩ = some v1 ∧ w.cell? ⟨b, 2, none⟩ = some v2 ∧ w.cell? ⟨b, 3, none⟩ = some v3 ∧ w.cell? ⟨b, 4, none⟩ = some v4 ∧ w.cell? ⟨b, 5, none⟩ = some v5 ∧ w.cell? ⟨b, 6, none⟩ = some v6 ∧ w.cell? ⟨b, 7, none⟩ = some v7 ∧ w.cell? ⟨b, 8, none⟩ = some v8 ∧ w.cell? ⟨b, 9, none⟩ = some v9 ∧ w.cell? ⟨b, 10, none⟩ = some v10 := by
 unfold Blk at h
 refine ⟨?_, ?_, ?_, ?_, ?_, ?_, ?_, ?_, ?_, ?_, ?_⟩ <;> simp [World.cell?, h]
theorem put11_blkv {W : World} {o : Nat} {t : TypeId} {v0 v1 v2 v3 v4 v5 v6 v7 v8 v9 v10 u0 u1 u2 u3 u4 u5 u6 u7 u8 u9 u10 : Value} (h : Blk W o t #[v0, v1, v2, v3, v4, v5, v6, v7, v8, v9, v10]) : Blk (put11 W o u0 u1 u2 u3 u4 u5 u6 u7 u8 u9 u10) o t #[u0, u1, u2, u3, u4, u5, u6, u7, u8, u9, u10] := by
 unfold put11
 have := ((((((((((h.set 0 u0).set 1 u1).set 2 u2).set 3 u3).set 4 u4).set 5 u5).set 6 u6).set 7 u7).set 8 u8).set 9 u9).set 10 u10
 simpa using this
set_option maxRecDepth 100000 in
set_option maxHeartbeats 4000000 in
theorem pcatch_fail (ps pe pa pr B : Nat) (f : Int × Int) (s : ByteArray) (w : World) (cs0 : Array Value) (v0 v1 v2 v3 v4 v5 v6 v7 v8 v9 v10 : Value) (a0 e0 : Value) (hs : w.cell? ⟨ps, 0, none⟩ = some (.string s))
  (he : Blk w pe 29 #[v0, v1, v2, v3, v4, v5, v6, v7, v8, v9, v10]) (ha : Blk w pa 3 #[a0]) (hr : Blk w pr 44 #[e0]) (n1 : pe ≠ pa) (n2 : pe ≠ pr) (n3 : pa ≠ pr) (hB : B ≤ pe ∧ B ≤ pa ∧ B ≤ pr ∧ B ≤ w.heap.size) :
  CallsD Tryz.prog 55 #[.pointer (some ⟨ps, 0, none⟩), .pointer (some ⟨pe, 0, none⟩), .pointer (some ⟨pa, 0, none⟩), .pointer (some ⟨pr, 0, none⟩)] (.panicking [{ v := .iface 82 (.agg #[.int .i64 f.1, .int .i64 f.2]), recovered := false }]) w fun e u' w' =>
   e = .returned (.tuple #[]) ∧ u' = .panicking [{ v := .iface 82 (.agg #[.int .i64 f.1, .int .i64 f.2]), recovered := true }] ∧ Blk w' pe 29 zeroC ∧ Blk w' pa 3 #[.int .i64 f.1] ∧ Blk w' pr 44 #[.int .i64 f.2] ∧ Below B w w' := by
 refine callsD_of_wpS Tryz.func55 rfl fun c₀ cs hu => ?_
 apply wpS_seq
 apply wpS_region
 simp [wpOpsS, go_sem, recoverD, hu, Tryz.ntmps55, Exit.thenS]
 refine wpS_of_wp ?_
 simp only [Array.replicate_succ, Array.replicate_zero, List.push_toArray, List.append_toArray, List.nil_append, List.cons_append, List.setIfInBounds_toArray, List.set_cons_succ, List.set_cons_zero]
 have hta : ∀ W : World, (Instr.typeAssert (.iface 82 (.agg #[.int .i64 f.1, .int .i64 f.2])) 20 82 true).run Tryz.prog W = .ok (.tuple #[.agg #[.int .i64 f.1, .int .i64 f.2], .bool true]) W := fun _ => by kernel_rfl
 have HW : Box (Blk (w.alloc (.cells #[.int .i64 f.1, .int .i64 f.2] 82)) pe 29 #[v0, v1, v2, v3, v4, v5, v6, v7, v8, v9, v10] ∧ Blk (w.alloc (.cells #[.int .i64 f.1, .int .i64 f.2] 82)) pa 3 #[a0] ∧ Blk (w.alloc (.cells #[.int .i64 f.1, .int .i64 f.2] 82)) pr 44 #[e0] ∧ Blk (w.alloc (.cells #[.int .i64 f.1, .int .i64 f.2] 82)) w.heap.size 82 #[.int .i64 f.1, .int .i64 f.2] ∧ Below w.heap.size w (w.alloc (.cells #[.int .i64 f.1, .int .i64 f.2] 82))) := ⟨he.alloc _, ha.alloc _, hr.alloc _, Blk.new _ _ _, bel1 _ _⟩
 have l1 := he.lt
 have l2 := ha.lt
 have l3 := hr.lt
 have m1 : ¬ w.heap.size = pe := by omega
 have m2 : ¬ w.heap.size = pa := by omega
 have m3 : ¬ w.heap.size = pr := by omega
 have m4 : ¬ pa = pe := fun h => n1 h.symm
 have m5 : ¬ pr = pe := fun h => n2 h.symm
 have m6 : ¬ pr = pa := fun h => n3 h.symm
 have m7 : ¬ pe = pa := n1
 have m8 : ¬ pe = pr := n2
 have m9 : ¬ pa = pr := n3
 clear he ha hr hs
 go_upto_region 5 with (fail)
 clear hta
 generalize w.alloc (.cells #[.int .i64 f.1, .int .i64 f.2] 82) = W1 at HW ⊢
 generalize hfb : w.heap.size = fb at *
 obtain ⟨x0, x1, x2, x3, x4, x5, x6, x7, x8, x9, x10⟩ := blk11v HW.out.1
 have ha0 := HW.out.2.1.c1
 have hr0 := HW.out.2.2.1.c1
 obtain ⟨f0, f1⟩ := HW.out.2.2.2.1.c2
 have ef := HW.out.1.frozen
 have af := HW.out.2.1.frozen
 have rf := HW.out.2.2.1.frozen
 go_region
 have HF : Box (Blk ((((put11 W1 pe (.int .i64 0) (.int .i64 0) (.int .i64 0) (.int .i64 0) (.int .i64 0) (.int .i64 0) (.int .i64 0) (.string ⟨#[]⟩) nilV nilV nilV).setCell ⟨pa, 0, none⟩ (.int .i64 f.1)).setCell ⟨pr, 0, none⟩ (.int .i64 f.2)).drew) pe 29 zeroC ∧ Blk ((((put11 W1 pe (.int .i64 0) (.int .i64 0) (.int .i64 0) (.int .i64 0) (.int .i64 0) (.int .i64 0) (.int .i64 0) (.string ⟨#[]⟩) nilV nilV nilV).setCell ⟨pa, 0, none⟩ (.int .i64 f.1)).setCell ⟨pr, 0, none⟩ (.int .i64 f.2)).drew) pa 3 #[.int .i64 f.1] ∧ Blk ((((put11 W1 pe (.int .i64 0) (.int .i64 0) (.int .i64 0) (.int .i64 0) (.int .i64 0) (.int .i64 0) (.int .i64 0) (.string ⟨#[]⟩) nilV nilV nilV).setCell ⟨pa, 0, none⟩ (.int .i64 f.1)).setCell ⟨pr, 0, none⟩ (.int .i64 f.2)).drew) pr 44 #[.int .i64 f.2] ∧ Below B w ((((put11 W1 pe (.int .i64 0) (.int .i64 0) (.int .i64 0) (.int .i64 0) (.int .i64 0) (.int .i64 0) (.int .i64 0) (.string ⟨#[]⟩) nilV nilV nilV).setCell ⟨pa, 0, none⟩ (.int .i64 f.1)).setCell ⟨pr, 0, none⟩ (.int .i64 f.2)).drew)) := ⟨by
  have b1 := put11_only (W := W1) (o := pe) (.int .i64 0) (.int .i64 0) (.int .i64 0) (.int .i64 0) (.int .i64 0) (.int .i64 0) (.int .i64 0) (.string ⟨#[]⟩) nilV nilV nilV
  have z1 : Blk (put11 W1 pe (.int .i64 0) (.int .i64 0) (.int .i64 0) (.int .i64 0) (.int .i64 0) (.int .i64 0) (.int .i64 0) (.string ⟨#[]⟩) nilV nilV nilV) pe 29 zeroC := put11_blkv HW.out.1
  have za := b1.blk HW.out.2.1 m4
  have zr := b1.blk HW.out.2.2.1 m5
  have zb := (HW.out.2.2.2.2.mono hB.2.2.2).trans (b1.below (B := B) hB.1 (by have := HW.out.2.2.2.2.size; omega))
  generalize put11 W1 pe (.int .i64 0) (.int .i64 0) (.int .i64 0) (.int .i64 0) (.int .i64 0) (.int .i64 0) (.int .i64 0) (.string ⟨#[]⟩) nilV nilV nilV = W2 at *
  refine ⟨Blk.drewN ((z1.far (p := ⟨pa, 0, none⟩) m7 _).far (p := ⟨pr, 0, none⟩) m8 _) 1, Blk.drewN (Blk.far (p := ⟨pr, 0, none⟩) (by simpa using za.set 0 (.int .i64 f.1)) m9 _) 1, Blk.drewN (by have := (zr.far (p := ⟨pa, 0, none⟩) m6 (.int .i64 f.1)).set 0 (.int .i64 f.2); simpa using this) 1, bdrew ((zb.setCell (p := ⟨pa, 0, none⟩) hB.2.1 _).setCell (p := ⟨pr, 0, none⟩) hB.2.2.1 _) 1⟩⟩
 exact ⟨rfl, _, rfl, _, results_none rfl _ _ _, rfl, rfl, HF.out.1, HF.out.2.1, HF.out.2.2.1, HF.out.2.2.2⟩
end
end Go.Proofs.YthoibeajhdhdhaaGreatDoor
