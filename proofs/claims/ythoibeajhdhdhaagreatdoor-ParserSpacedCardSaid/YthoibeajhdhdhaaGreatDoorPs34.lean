/- Contracts, packed: Lf Lg. -/
import Derived.Test.YthoibeajhdhdhaaGreatDoorPs31
set_option linter.unusedVariables false
set_option linter.unusedSimpArgs false
namespace Go.Proofs.YthoibeajhdhdhaaGreatDoor
section
open Go.RowKit FracM
theorem F3_op {x : List UInt8} {es : List ETok} (h1 : x ≠ [123]) (h2 : x ≠ [46]) (h3 : x ≠ [64]) : Fw3 (eS x :: es) := by
 refine ⟨?_, ?_, ?_⟩ <;> simp [isE] <;> assumption
theorem F1_shut (es : List ETok) : Fw1 (eS [41] :: es) := by
 refine ⟨⟨⟨?_, ?_, ?_⟩, ?_, ?_⟩, ?_, ?_⟩ <;> simp [isE]
theorem F2_pm {k : Nat} (h : k < 2) (es : List ETok) : Fw2 (eS (opAt k) :: es) := by
 match k, h with
 | 0, _ => refine ⟨⟨?_, ?_, ?_⟩, ?_, ?_⟩ <;> simp [isE, opAt, opersT]
 | 1, _ => refine ⟨⟨?_, ?_, ?_⟩, ?_, ?_⟩ <;> simp [isE, opAt, opersT]
theorem F3_opr {k : Nat} (h : k < 4) (es : List ETok) : Fw3 (eS (opAt k) :: es) := by
 match k, h with
 | 0, _ => exact F3_op (by decide) (by decide) (by decide)
 | 1, _ => exact F3_op (by decide) (by decide) (by decide)
 | 2, _ => exact F3_op (by decide) (by decide) (by decide)
 | 3, _ => exact F3_op (by decide) (by decide) (by decide)
theorem term_done {fac : List Tok → Res Tree} {t : Tree} {ts : List Tok} {es : List ETok} (h : Chain fac 2 t ts es) (hf : Fw2 es) : PR (termOf fac ts) t es := h.done (by omega) hf.2.1 hf.2.2
theorem expr_done {fac : List Tok → Res Tree} {t : Tree} {ts : List Tok} {es : List ETok} (h : Chain (termOf fac) 0 t ts es) (hf : Fw1 es) : PR (exprOf fac ts) t es := h.done (by omega) hf.2.1 hf.2.2
theorem fac_num {en : Int} {n : Nat} {k : Int} {ts : List Tok} {es : List ETok} (h : ts.map er = eN k :: es) : PR (facM en (n + 1) ts) (numT k) es := by
 obtain ⟨-, -, h3, h4, -⟩ := hd_er h
 rw [facM, kindT_er, h, if_pos (by simp [kindE]), show (headT ts).n = k from h3]
 exact PR.ok h4
theorem fac_open {en : Int} {n : Nat} {l : List ETok} {t : Tree} {ts : List Tok} {es : List ETok} (h : ts.map er = eS [40] :: (l ++ eS [41] :: es)) (hx : ∀ us, us.map er = l ++ eS [41] :: es → PR (exprOf (facM en n) us) t (eS [41] :: es)) : PR (facM en (n + 1) ts) t es := by
 rw [facM, kindT_er, h, if_neg (by simp [kindE]), isT_er, h, if_pos (by simp [isE])]
 exact (hx _ (hd_er h).2.2.2.1).and fun u1 hu1 => (symbol_ok hu1).and fun u2 hu2 => PR.ok hu2
/-- a number and its denominator -/
def fracT (a d : Int) : Tree := if d = 1 then numT a else binT 3 (numT a) (numT d)
theorem term_frac {en : Int} {n : Nat} {a d : Int} {ts : List Tok} {es : List ETok} (h : ts.map er = eN a :: ((if d = 1 then [] else [eS [47], eN d]) ++ es)) (hf : Fw2 es) : PR (termOf (facM en (n + 1)) ts) (fracT a d) es := by
 refine term_done ?_ hf
 unfold fracT
 by_cases hd : d = 1
 ·rw [if_pos hd] at h ⊢
  exact Chain.base (fac_num (by simpa using h))
 ·rw [if_neg hd] at h ⊢
  refine Chain.step (fn := 3) (rs := [eN d]) (by omega) (by omega) (Chain.base (fac_num (by simpa [opAt, opersT] using h))) fun us hu => fac_num (by simpa using hu)
theorem fac_number {en : Int} {n : Nat} {a d : Int} {ts : List Tok} {es : List ETok} (h : ts.map er = tNum a d ++ es) (hn : (tNum a d).length < n) : PR (facM en n ts) (normN a d) es := by
 obtain ⟨n, rfl⟩ : ∃ k, n = k + 1 := ⟨n - 1, by omega⟩
 unfold tNum at h hn
 unfold normN
 by_cases hz : natE a d = true
 ·rw [if_pos hz] at h ⊢
  exact fac_num (by simpa using h)
 ·rw [if_neg hz] at h hn ⊢
  obtain ⟨n, rfl⟩ : ∃ k, n = k + 1 := ⟨n - 1, by simp only [List.length_cons, List.length_append] at hn; omega⟩
  have e : (if a < 0 then (if d = 1 then binT 1 (numT 0) (numT (absI a)) else binT 1 (numT 0) (binT 3 (numT (absI a)) (numT d))) else (if d = 1 then numT (absI a) else binT 3 (numT (absI a)) (numT d))) = (if a < 0 then binT 1 (numT 0) (fracT (absI a) d) else fracT (absI a) d) := by
   unfold fracT
   split <;> split <;> rfl
  have hx : ∀ us, us.map er = ((if a < 0 then [eN 0, eS [45]] else []) ++ (eN (absI a) :: (if d = 1 then [] else [eS [47], eN d]))) ++ eS [41] :: es → PR (exprOf (facM en (n + 1)) us) (if a < 0 then binT 1 (numT 0) (fracT (absI a) d) else fracT (absI a) d) (eS [41] :: es) := by
   intro us hu
   refine expr_done ?_ (F1_shut es)
   by_cases ha : a < 0
   ·rw [if_pos ha] at hu ⊢
    refine Chain.step (fn := 1) (rs := eN (absI a) :: (if d = 1 then [] else [eS [47], eN d])) (by omega) (by omega) (Chain.base ?_) fun vs hv => term_frac (by simpa using hv) (F1_shut es).1
    have := term_frac (en := en) (n := n) (a := 0) (d := 1) (ts := us) (es := eS (opAt 1) :: (eN (absI a) :: (if d = 1 then [] else [eS [47], eN d]) ++ eS [41] :: es)) (by simpa [opAt, opersT] using hu) (F2_pm (by omega) _)
    simpa [fracT] using this
   ·rw [if_neg ha] at hu ⊢
    exact Chain.base (term_frac (by simpa using hu) (F1_shut es).1)
  have hd1 : ¬ a < 0 → ¬ d = 1 → True := fun _ _ => trivial
  have hgoal := fac_open (en := en) (n := n + 1) (t := if a < 0 then binT 1 (numT 0) (fracT (absI a) d) else fracT (absI a) d) (ts := ts) (es := es) (l := (if a < 0 then [eN 0, eS [45]] else []) ++ (eN (absI a) :: (if d = 1 then [] else [eS [47], eN d]))) (by rw [h]; simp) hx
  rw [← e] at hgoal
  exact hgoal
end
section
open Go.RowKit FracM
theorem ba_nil {s : ByteArray} (h : s.toList.isEmpty = true) : s = ⟨#[]⟩ := by
 rw [ByteArray.toList_eq] at h
 obtain ⟨l⟩ := s
 simp at h
 rw [h]
theorem no_grp {s : ByteArray} (h : inGroups s = false) : ¬ (0 ≤ idxT groupsT s.data.toList) := by
 have e : inGroups s = groupsT.any fun y => y == s.data.toList := by
  unfold inGroups
  simp only [ByteArray.toList_eq, groupsL, groupsT, List.any_cons, List.any_nil]
 rw [e] at h
 unfold idxT
 rw [List.findIdx?_eq_none_iff.2 (fun x hx => by
  have := List.any_eq_false.1 h x hx
  simpa using this)]
 decide
theorem sel_p {d : Nd} {n : Nat} (h : chk1 d n = 0) (hk : d.kind = 1) : SelP d ∧ inGroups d.name = false := by
 obtain ⟨a1, a2, a3, a4, a5⟩ := chk1_all h
 have hs := psel_ok h hk
 unfold namedB at a2
 simp only [Bool.and_eq_true] at a2
 have hg := a2.1.1
 rw [show (d.kind == 1) = true by simpa using hk] at hg
 simp at hg
 unfold rangedB at a5
 rw [if_pos hk] at a5
 simp only [Bool.and_eq_true, decide_eq_true_eq] at a5
 unfold shapedB at a1
 rw [if_neg (by omega), if_pos hk] at a1
 unfold noNumB at a1
 simp only [Bool.and_eq_true, decide_eq_true_eq, beq_iff_eq, List.isEmpty_iff] at a1
 refine ⟨⟨hs, hk, fun hf => ?_, fun hf => ?_, a1.1.2, a1.2, a3⟩, hg.2⟩
 ·have := a5.2; rw [if_pos hf] at this; simpa using this
 ·have := a5.2
  by_cases h0 : d.fn = 0
  ·rw [if_pos h0] at this; simp at this; exact this.2
  ·rw [if_neg h0, if_neg hf] at this; simp at this; exact this.2
theorem grp_p {d : Nd} {n : Nat} (h : chk1 d n = 0) (hk : d.kind = 2) : GrpP d := by
 obtain ⟨a1, a2, a3, a4, a5⟩ := chk1_all h
 have hs := pgrp_ok h hk
 unfold namedB at a2
 simp only [Bool.and_eq_true] at a2
 unfold rangedB at a5
 rw [if_neg (by omega), if_pos hk] at a5
 unfold shapedB at a1
 rw [if_neg (by omega), if_neg (by omega), if_pos hk] at a1
 unfold noNumB noSelB at a1
 simp only [Bool.and_eq_true, decide_eq_true_eq, beq_iff_eq] at a1
 refine ⟨hs, hk, ⟨a1.2.1.1.1, a1.2.1.1.2, a1.1.2.1, a1.1.2.2⟩, fun hf => ?_, ba_nil a1.2.1.2, List.isEmpty_iff.1 a1.2.2, a2.2, a4⟩
 rw [if_neg hf] at a5
 simpa using a5
theorem bin_p {d : Nd} {n : Nat} (h : chk1 d n = 0) (hk : d.kind = 3) : ∃ f : Nat, f < 4 ∧ d = (binT f (numT 0) (numT 0)).d := by
 obtain ⟨a1, a2, a3, a4, a5⟩ := chk1_all h
 unfold shapedB at a1
 rw [if_neg (by omega), if_neg (by omega), if_neg (by omega), if_pos hk] at a1
 unfold noNumB noSelB at a1
 simp only [Bool.and_eq_true, decide_eq_true_eq, beq_iff_eq, List.isEmpty_iff] at a1
 obtain ⟨⟨⟨⟨⟨⟨b1, b2⟩, b3⟩, b4⟩, b5⟩, b6⟩, b7⟩ := a1
 obtain ⟨kd, fn, wi, of, k, nu, de, na, ms, bys⟩ := d
 simp only at b1 b2 b3 b4 b5 b6 b7 hk
 obtain ⟨⟨⟨c1, c2⟩, c3⟩, c4⟩ := b5
 obtain ⟨c5, c6⟩ := b4
 have c3' := ba_nil (s := na) (by simpa using c3)
 subst c1 c2 c3' c4 c5 c6 b6 b7 hk
 obtain ⟨f, rfl⟩ : ∃ f : Nat, fn = f := ⟨fn.toNat, by omega⟩
 exact ⟨f, by omega, rfl⟩
theorem normL_eq (ks : List Tree) : normL ks = ks.map norm := by
 induction ks with
 | nil => rfl
 | cons t ts ih => rw [normL, ih]; rfl
/-- what the parser makes of the tokens of a tree -/
structure Back (t : Tree) : Prop where
 fac : t.d.kind ≠ 3 → ∀ en n ts es, (toksT t).length < n → ts.map er = toksT t ++ es → Fw3 es → PR (facM en n ts) (norm t) es
 term : precT t.d ≠ 1 → ∀ en n ts es, (toksT t).length < n → ts.map er = toksT t ++ es → Fw3 es → Chain (facM en n) 2 (norm t) ts es
 expr : ∀ en n ts es, (toksT t).length < n → ts.map er = toksT t ++ es → Fw2 es → Chain (termOf (facM en n)) 0 (norm t) ts es
theorem Back.of_fac {t : Tree} (h : ∀ en n ts es, (toksT t).length < n → ts.map er = toksT t ++ es → Fw3 es → PR (facM en n ts) (norm t) es) : Back t :=
 ⟨fun _ => h, fun _ en n ts es hn hu hf => Chain.base (h en n ts es hn hu hf), fun en n ts es hn hu hf => Chain.base (term_done (Chain.base (h en n ts es hn hu hf.1)) hf)⟩
theorem Back.of_term {t : Tree} (hk : t.d.kind = 3) (h : ∀ en n ts es, (toksT t).length < n → ts.map er = toksT t ++ es → Fw3 es → Chain (facM en n) 2 (norm t) ts es) : Back t :=
 ⟨fun h => absurd hk h, fun _ => h, fun en n ts es hn hu hf => Chain.base (term_done (h en n ts es hn hu hf.1) hf)⟩
theorem Back.paren {t : Tree} (h : Back t) {en : Int} {n : Nat} {ts : List Tok} {es : List ETok} (hn : (toksT t).length + 2 < n) (hu : ts.map er = tEncl true (toksT t) ++ es) : PR (facM en n ts) (norm t) es := by
 obtain ⟨n, rfl⟩ : ∃ k, n = k + 1 := ⟨n - 1, by omega⟩
 refine fac_open (l := toksT t) (by rw [hu]; simp [tEncl]) fun us hv => expr_done (h.expr en n us _ (by omega) hv (F1_shut es).1) (F1_shut es)
theorem prec_cases (t : Tree) : precT t.d = 1 ∨ precT t.d = 2 ∨ (precT t.d = 3 ∧ t.d.kind ≠ 3) := by
 unfold precT
 split
 ·split
  ·exact .inl rfl
  ·exact .inr (.inl rfl)
 ·next h => exact .inr (.inr ⟨rfl, h⟩)
theorem precT_bin (f : Nat) (a b : Tree) (h : f < 4) : precT (binT f a b).d = if f < 2 then 1 else 2 := by
 match f, h with
 | 0, _ => rfl
 | 1, _ => rfl
 | 2, _ => rfl
 | 3, _ => rfl
theorem back_bin {f : Nat} (hf : f < 4) {a b : Tree} (ha : Back a) (hb : Back b) (hT : toksT (binT f a b) = tEncl (decide (precT a.d < if f < 2 then 1 else 2)) (toksT a) ++ (eS (opAt f) :: tEncl (decide (precT b.d ≤ if f < 2 then 1 else 2)) (toksT b))) (hN : norm (binT f a b) = binT f (norm a) (norm b)) : Back (binT f a b) := by
 have hlen : ∀ q (l : List ETok), (tEncl q l).length = if q then l.length + 2 else l.length := fun q l => by cases q <;> simp [tEncl]
 by_cases h2 : f < 2
 ·rw [if_pos h2, show decide (precT a.d < 1) = false by rcases prec_cases a with h | h | h <;> simp [h]] at hT
  refine ⟨fun h => absurd rfl h, fun h => ?_, fun en n ts es hn hu hF => ?_⟩
  ·rw [precT_bin f a b hf, if_pos h2] at h; exact absurd rfl h
  ·rw [hT] at hn hu
   rw [hN]
   simp only [List.length_append, List.length_cons, hlen] at hn
   simp only [tEncl, if_neg (show ¬ (false = true) by simp), List.append_assoc, List.cons_append, Bool.false_eq_true, ↓reduceIte] at hu
   refine Chain.step (fn := f) (rs := tEncl (decide (precT b.d ≤ 1)) (toksT b)) (by omega) (by omega) (ha.expr en n ts _ (by simp at hn; omega) (by simpa [tEncl] using hu) (F2_pm h2 _)) fun us hv => ?_
   rcases prec_cases b with h | h | h
   ·rw [h] at hv hn
    exact term_done (Chain.base (hb.paren (by simp at hn; omega) (by simpa using hv))) hF
   ·rw [h] at hv hn
    exact term_done (hb.term (by omega) en n us es (by simp at hn; omega) (by simpa [tEncl] using hv) hF.1) hF
   ·rw [h.1] at hv hn
    exact term_done (hb.term (by omega) en n us es (by simp at hn; omega) (by simpa [tEncl] using hv) hF.1) hF
 ·rw [if_neg h2] at hT
  refine Back.of_term rfl fun en n ts es hn hu hF => ?_
  rw [hT] at hn hu
  rw [hN]
  simp only [List.length_append, List.length_cons, hlen] at hn
  simp only [List.append_assoc, List.cons_append] at hu
  refine Chain.step (fn := f) (rs := tEncl (decide (precT b.d ≤ 2)) (toksT b)) (by omega) (by omega) ?_ fun us hv => ?_
  ·rcases prec_cases a with h | h | h
   ·rw [h] at hu hn
    exact Chain.base (ha.paren (by simp at hn; omega) (by simpa using hu))
   ·rw [h] at hu hn
    exact ha.term (by omega) en n ts _ (by simp at hn; omega) (by simpa [tEncl] using hu) (F3_opr hf _)
   ·rw [h.1] at hu hn
    exact ha.term (by omega) en n ts _ (by simp at hn; omega) (by simpa [tEncl] using hu) (F3_opr hf _)
  ·rcases prec_cases b with h | h | h
   ·rw [h] at hv hn
    exact hb.paren (by simp at hn; omega) (by simpa using hv)
   ·rw [h] at hv hn
    exact hb.paren (by simp at hn; omega) (by simpa using hv)
   ·rw [h.1] at hv hn
    exact hb.fac h.2 en n us es (by simp at hn; omega) (by simpa [tEncl] using hv) hF
theorem back_all : ∀ t, chk t = 0 → Back t := Tree.ind fun d ks ih hc => by
 obtain ⟨h1, h2⟩ := chk_ok hc
 obtain ⟨a1, _⟩ := chk1_all h1
 rcases shape_cases a1 with hk | hk | hk | hk
 ·refine Back.of_fac fun en n ts es hn hu hf => ?_
  rw [toksT] at hn hu
  unfold tJoin at hn hu
  rw [if_pos hk.1] at hn hu
  rw [norm, if_pos hk.1]
  exact fac_number hu hn
 ·obtain ⟨hs, hg⟩ := sel_p h1 hk.1
  refine Back.of_fac fun en n ts es hn hu hf => ?_
  rw [toksT] at hn hu
  unfold tJoin at hn hu
  rw [if_neg (by omega), if_pos hk.1] at hn hu
  unfold tSel at hn hu
  simp only [List.length_cons] at hn
  obtain ⟨n, rfl⟩ : ∃ k, n = k + 1 := ⟨n - 1, by omega⟩
  simp only [List.cons_append, List.append_assoc] at hu
  obtain ⟨-, b2, -, b4, -⟩ := hd_er hu
  match ks, hk.2.1 with
  | [], _ =>
   rw [norm, if_neg (by omega)]
   rw [facM, kindT_er, hu, if_neg (by simp [kindE]), isT_er, hu, if_neg (by simp [isE]), kindT_er, hu, if_pos (by simp [kindE]), show (headT ts).text = d.name.data.toList from b2, if_neg (no_grp hg)]
   exact select_ok b4 hs hf (no_curl hf) (no_dot hf)
 ·have hs := grp_p h1 hk.1
  match ks, hk.2.1, ih, h2 with
  | [t], _, ih, h2 =>
   have hb := ih t (by simp) (h2 t (by simp))
   refine Back.of_fac fun en n ts es hn hu hf => ?_
   rw [toksT] at hn hu
   unfold tJoin at hn hu
   rw [if_neg (by omega), if_neg (by omega), if_pos hk.1] at hn hu
   unfold tGrup at hn hu
   simp only [toksL, List.headD_cons, List.length_append, List.length_cons] at hn
   simp only [toksL, List.headD_cons, List.cons_append, List.append_assoc] at hu
   obtain ⟨n, rfl⟩ : ∃ k, n = k + 1 := ⟨n - 1, by omega⟩
   obtain ⟨-, b2, -, b4, -⟩ := hd_er hu
   obtain ⟨f, hfn⟩ : ∃ f : Nat, d.fn = f := ⟨d.fn.toNat, by omega⟩
   have b2' : (headT ts).text = groupsT.getD f [] := by rw [b2, hfn]; simp
   have hix := idx_grp f (by omega)
   rw [norm, if_neg (by omega), facM, kindT_er, hu, if_neg (by simp [kindE]), isT_er, hu, if_neg (by simp [isE]), kindT_er, hu, if_pos (by simp [kindE]), b2', hix, if_pos (by omega), ← hfn]
   refine group_ok (tt := toksT t) (by simpa using b4) hs fun us hv => expr_done (hb.expr en n us _ (by omega) hv (F1_shut es).1) (F1_shut es)
 ·obtain ⟨f, hf, rfl⟩ := bin_p h1 hk.1
  match ks, hk.2.1, ih, h2 with
  | [a, b], _, ih, h2 =>
   refine back_bin (a := a) (b := b) hf (ih a (by simp) (h2 a (by simp))) (ih b (by simp) (h2 b (by simp))) ?_ rfl
   show toksT (.node (binT f (numT 0) (numT 0)).d [a, b]) = _
   rw [toksT]
   unfold tJoin
   have k3 : (binT f (numT 0) (numT 0)).d.kind = 3 := rfl
   rw [if_neg (by rw [k3]; omega), if_neg (by rw [k3]; omega), if_neg (by rw [k3]; omega)]
   simp only [List.map_cons, List.map_nil, toksL]
   rw [precT_bin f _ _ hf]
   rfl
end
end Go.Proofs.YthoibeajhdhdhaaGreatDoor
