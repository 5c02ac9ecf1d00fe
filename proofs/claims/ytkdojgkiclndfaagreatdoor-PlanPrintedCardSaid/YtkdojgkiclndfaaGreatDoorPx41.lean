/- Contracts, packed: Um Sn Ss Lh. -/
import Derived.Test.YtkdojgkiclndfaaGreatDoorPx34
import Derived.Test.YtkdojgkiclndfaaGreatDoorPx40
import Derived.Sort.CutIn
import Derived.Sort.BigQuietIn
import Derived.Deep.CutBlock
set_option linter.unusedVariables false
set_option linter.unusedSimpArgs false
namespace Go.Proofs.YtkdojgkiclndfaaGreatDoor
section
open Go.RowKit Go.Shelf FracM
attribute [local go_sem] Oper.semAt_some
theorem agree_pr {Pr : Nat → Prop} {A B : World} (hs : A.heap.size ≤ B.heap.size) (h : ∀ k, Pr k → B.heap[k]? = A.heap[k]?) : Agree (fun b _ => Pr b) A B := ⟨hs, fun b e o hp hb _ => World.cell?_of_block (a := ⟨b, o, none⟩) (h b hp)⟩
theorem postL_snoc (l : List Tree) (t : Tree) : postL (l ++ [t]) = postL l ++ postT t := by
 induction l with
 | nil => rw [List.nil_append, postL, postL, postL, List.append_nil]; rfl
 | cons x r ih => rw [List.cons_append, postL, postL, ih, List.append_assoc]
abbrev VisitPost (J : (Nat → Prop) → List (Nd × Sl) → World → Prop) (t : Tree) (Pr : Nat → Prop) (pre : List (Nd × Sl)) (W : World) (e : Ending) (W' : World) : Prop :=
 e = .returned (.bool true) ∧ ∃ xs : List (Nd × Sl), xs.map (·.1) = postT t ∧ J Pr (pre ++ xs) W' ∧ W.heap.size ≤ W'.heap.size ∧ ∀ k, Pr k → W'.heap[k]? = W.heap[k]?
theorem postL_appU (a b : List Tree) : postL (a ++ b) = postL a ++ postL b := by
 induction a with
 | nil => rfl
 | cons t r ih => rw [List.cons_append, postL, postL, ih, List.append_assoc]
theorem kid_pre {p : List Nd} {d : Nd} {ks : List Tree} {L : List Nd} (h : (p ++ postT (.node d ks)) <+: L) (k : Nat) : (p ++ postL (ks.take k)) <+: L := by
 refine List.IsPrefix.trans ?_ h
 refine ⟨postL (ks.drop k) ++ [d], ?_⟩
 have e := postL_appU (ks.take k) (ks.drop k)
 rw [List.take_append_drop] at e
 rw [postT, e]
 simp
set_option maxRecDepth 100000 in
set_option maxHeartbeats 4000000 in
theorem visit_in (L : List Nd) (l : Nat) (J : (Nat → Prop) → List (Nd × Sl) → World → Prop) (hT : ∀ Pr Pr' s A B, J Pr s A → Below A.heap.size A B → (∀ k, Pr' k → Pr k ∨ (A.heap.size ≤ k ∧ k < B.heap.size)) → J Pr' s B)
  (hl : ∀ Pr s A, J Pr s A → ∀ k, Pr k → k < A.heap.size)
  (hY : ∀ m Pr pre (x : Nd × Sl) W1, InsAt W1 (fun b _ => Pr b) x.1 x.2.1 x.2.2.1 → (∃ A n c, x.2.2.2 = .slice A n c) → (pre.map (·.1) ++ [x.1]) <+: L → J Pr pre W1 → YieldAt Fence.wide m Tryz.prog l #[.agg (ndC x.1 x.2.1 x.2.2.1 x.2.2.2)] W1 fun e W' => e = .returned (.bool true) ∧ J Pr (pre ++ [x]) W' ∧ W1.heap.size ≤ W'.heap.size ∧ ∀ k, Pr k → W'.heap[k]? = W1.heap[k]?) :
  ∀ t, ∀ (n : Nat) (Pr : Nat → Prop) (pre : List (Nd × Sl)) (W : World) (mv bv kv : Value), TreeAt W (fun b _ => Pr b) t (mv, bv, kv) → J Pr pre W → (pre.map (·.1) ++ postT t) <+: L →
   CallsIn Fence.wide n Tryz.prog 76 #[.agg (ndC t.d mv bv kv), .func (.yield l) #[] #[]] W (VisitPost J t Pr pre W) := Tree.ind fun d ks ih n Pr pre W mv bv kv ht hj hpx => by
 have HPX := Box.mk hpx
 clear hpx
 have HIH := Box.mk ih
 have HYY := Box.mk hY
 have HTT := Box.mk hT
 have HLL := Box.mk hl
 obtain ⟨A, c, rfl, hkl⟩ := ht.nod.kform
 obtain ⟨A1, c1, rfl, -⟩ := ht.nod.ms.form
 obtain ⟨A2, c2, rfl, -⟩ := ht.nod.bys.form
 have HT := Box.mk ht
 have HJ := Box.mk hj
 clear ih hY hT hl ht hj
 show CallsIn Fence.wide n Tryz.prog 76 #[.agg (ndC d (.slice A1 d.ms.length c1) (.slice A2 d.bys.length c2) (.slice A ks.length c)), .func (.yield l) #[] #[]] W (VisitPost J (.node d ks) Pr pre W)
 refine callsIn_of_wp Tryz.func76 rfl trivial ?_ rfl
 simp only [Tryz.ntmps76, List.size_toArray, List.length_cons, List.length_nil, Nat.reduceAdd, Nat.reduceSub, Array.replicate_succ, Array.replicate_zero, List.push_toArray, List.append_toArray, List.nil_append, List.cons_append]
 gi_upto_region 1 with (fail)
 have HS0 : Box (Blk (W.alloc (.cells (ndC d (.slice A1 d.ms.length c1) (.slice A2 d.bys.length c2) (.slice A ks.length c)) 33)) W.heap.size 33 (ndC d (.slice A1 d.ms.length c1) (.slice A2 d.bys.length c2) (.slice A ks.length c)) ∧ J (fun k => Pr k ∨ k = W.heap.size) pre (W.alloc (.cells (ndC d (.slice A1 d.ms.length c1) (.slice A2 d.bys.length c2) (.slice A ks.length c)) 33)) ∧ TreeAt (W.alloc (.cells (ndC d (.slice A1 d.ms.length c1) (.slice A2 d.bys.length c2) (.slice A ks.length c)) 33)) (fun b _ => Pr b ∨ b = W.heap.size) (.node d ks) (.slice A1 d.ms.length c1, .slice A2 d.bys.length c2, .slice A ks.length c) ∧ Below W.heap.size W (W.alloc (.cells (ndC d (.slice A1 d.ms.length c1) (.slice A2 d.bys.length c2) (.slice A ks.length c)) 33))) :=
  ⟨⟨Blk.new _ _ _, HTT.out _ _ _ _ _ HJ.out (bel1 _ _) (fun k hk => hk.elim .inl fun h => .inr (by subst h; simp)), (HT.out.belo (bel1 _ _)).mono (fun b e _ h => .inl h), bel1 _ _⟩⟩
 have hb0 : W.heap.size < (W.alloc (.cells (ndC d (.slice A1 d.ms.length c1) (.slice A2 d.bys.length c2) (.slice A ks.length c)) 33)).heap.size := by simp
 obtain ⟨b0, hb0e⟩ : ∃ b0, W.heap.size = b0 := ⟨_, rfl⟩
 rw [hb0e] at HS0 hb0 ⊢
 generalize W.alloc (.cells (ndC d (.slice A1 d.ms.length c1) (.slice A2 d.bys.length c2) (.slice A ks.length c)) 33) = W1 at HS0 hb0 ⊢
 have HB0E := Box.mk hb0e
 clear hb0e
 obtain ⟨k0, k1, k2, k3, k4, k5, k6, k7, k8, k9, k10⟩ := blk11z (d := d) HS0.out.1
 gi_wp2
 clear k0 k1 k2 k3 k4 k5 k6 k7 k8 k9 k10
 gi_loopw [6, 10] (fun v6 v wr => ∃ (i : Nat) (xs : List (Nd × Sl)), v = .int .i64 (i : Int) ∧ i ≤ ks.length ∧ Box (xs.map (·.1) = postL (ks.take i)) ∧ Box (J (fun k => Pr k ∨ k = b0) (pre ++ xs) wr) ∧ Box (W1.heap.size ≤ wr.heap.size ∧ ∀ k, Pr k ∨ k = b0 → wr.heap[k]? = W1.heap[k]?)) (fun _ v _ => ks.length - (intOf v).toNat)
 case atStart => exact ⟨0, [], rfl, by omega, ⟨rfl⟩, ⟨by rw [List.append_nil]; exact HS0.out.2.1⟩, ⟨Nat.le_refl _, fun k _ => rfl⟩⟩
 case round =>
  obtain ⟨i, xs, rfl, hi, HX, HJX, HK⟩ := hrel
  by_cases hlt : i < ks.length
  ·have hlt2 : (i : Int) < (ks.length : Int) := by omega
   obtain ⟨u, hu⟩ : ∃ u, ks[i]? = some u := ⟨ks[i], List.getElem?_eq_getElem hlt⟩
   obtain ⟨e, es⟩ := u
   have HMEM : Box (Tree.node e es ∈ ks) := ⟨List.mem_of_getElem? hu⟩
   have HTK : Box (ks.take (i + 1) = ks.take i ++ [.node e es]) := ⟨by rw [List.take_add_one, hu]; rfl⟩
   have htw := HS0.out.2.2.1.keep (agree_pr HK.out.1 HK.out.2)
   obtain ⟨b, off, mv', bv', kv', rfl, hbl, -, hcell, hkt⟩ := htw.nod.kid i e es hu
   obtain ⟨z0, z1, z2, z3, z4, z5, z6, z7, z8, z9, z10⟩ := hcell
   obtain ⟨M1, m1, rfl, -⟩ := hkt.nod.ms.form
   obtain ⟨M2, m2, rfl, -⟩ := hkt.nod.bys.form
   obtain ⟨M3, m3, rfl, -⟩ := hkt.nod.kform
   have HKT := Box.mk hkt
   clear hkt htw hu
   gi_upto_region 4 with (fail)
   have HS2 : Box (Blk (wr.alloc (.cells (ndC e (.slice M1 e.ms.length m1) (.slice M2 e.bys.length m2) (.slice M3 es.length m3)) 33)) wr.heap.size 33 (ndC e (.slice M1 e.ms.length m1) (.slice M2 e.bys.length m2) (.slice M3 es.length m3)) ∧ J (fun k => Pr k ∨ k = b0) (pre ++ xs) (wr.alloc (.cells (ndC e (.slice M1 e.ms.length m1) (.slice M2 e.bys.length m2) (.slice M3 es.length m3)) 33)) ∧ TreeAt (wr.alloc (.cells (ndC e (.slice M1 e.ms.length m1) (.slice M2 e.bys.length m2) (.slice M3 es.length m3)) 33)) (fun b _ => Pr b ∨ b = b0) (.node e es) (.slice M1 e.ms.length m1, .slice M2 e.bys.length m2, .slice M3 es.length m3) ∧ Below wr.heap.size wr (wr.alloc (.cells (ndC e (.slice M1 e.ms.length m1) (.slice M2 e.bys.length m2) (.slice M3 es.length m3)) 33))) :=
    ⟨⟨Blk.new _ _ _, HTT.out _ _ _ _ _ HJX.out (bel1 _ _) (fun k hk => .inl hk), HKT.out.belo (bel1 _ _), bel1 _ _⟩⟩
   clear z0 z1 z2 z3 z4 z5 z6 z7 z8 z9 z10
   obtain ⟨kb, hkb⟩ : ∃ kb, wr.heap.size = kb := ⟨_, rfl⟩
   have HKB := Box.mk hkb
   rw [hkb] at HS2 ⊢
   clear hkb
   generalize wr.alloc (.cells (ndC e (.slice M1 e.ms.length m1) (.slice M2 e.bys.length m2) (.slice M3 es.length m3)) 33) = W2 at HS2 ⊢
   obtain ⟨z0, z1, z2, z3, z4, z5, z6, z7, z8, z9, z10⟩ := blk11z (d := e) HS2.out.1
   have CK : Box (CallsIn Fence.wide (n - 1) Tryz.prog 76 #[.agg (ndC e (.slice M1 e.ms.length m1) (.slice M2 e.bys.length m2) (.slice M3 es.length m3)), .func (.yield l) #[] #[]] W2 (VisitPost J (.node e es) (fun k => Pr k ∨ k = b0) (pre ++ xs) W2)) := ⟨HIH.out _ HMEM.out (n - 1) _ _ W2 (.slice M1 e.ms.length m1) (.slice M2 e.bys.length m2) (.slice M3 es.length m3) HS2.out.2.2.1 HS2.out.2.1 (by rw [List.map_append, HX.out, List.append_assoc, ← postL_snoc, ← HTK.out]; exact kid_pre HPX.out (i + 1))⟩
   gi_wp2_with (refine ⟨trivial, (fun h => by cases h), CK.out.mono ?_⟩; rintro e9 W3 ⟨rfl, ys, hys, hj3, hz3, hk3⟩; have HY3 := Box.mk (And.intro hys (And.intro hj3 (And.intro hz3 hk3))); clear hys hj3 hz3 hk3)
   refine ⟨⟨i + 1, xs ++ ys, rfl, by omega, ⟨?_⟩, ⟨by rw [← List.append_assoc]; exact HY3.out.2.1⟩, ⟨?_, fun k hk => ?_⟩⟩, by simp [intOf]; omega⟩
   ·rw [List.map_append, HX.out, HY3.out.1, HTK.out, postL_snoc]
   ·have h1 := HK.out.1
    have h2 := HS2.out.2.2.2.size
    have h3 := HY3.out.2.2.1
    omega
   ·exact (HY3.out.2.2.2 k hk).trans ((HS2.out.2.2.2.block k (by rw [← HKB.out]; exact HLL.out _ _ _ HJX.out k hk)).trans (HK.out.2 k hk))
  ·have hlt2 : ¬ (i : Int) < (ks.length : Int) := by omega
   have hie : i = ks.length := by omega
   subst hie
   have HBW : Box (Blk wr b0 33 (ndC d (.slice A1 d.ms.length c1) (.slice A2 d.bys.length c2) (.slice A ks.length c))) := ⟨(HK.out.2 b0 (.inr rfl)).trans HS0.out.1⟩
   have HTW := Box.mk (HS0.out.2.2.1.keep (agree_pr HK.out.1 HK.out.2))
   obtain ⟨k0, k1, k2, k3, k4, k5, k6, k7, k8, k9, k10⟩ := blk11z (d := d) HBW.out
   obtain ⟨fn, tmps, assign, body, hy, hR⟩ := HYY.out (n - 1) (fun k => Pr k ∨ k = b0) (pre ++ xs) (d, .slice A1 d.ms.length c1, .slice A2 d.bys.length c2, .slice A ks.length c) wr ⟨HTW.out.nod.ok, HTW.out.nod.ms, HTW.out.nod.bys⟩ ⟨_, _, _, rfl⟩ (by have h := HPX.out; rw [postT] at h; rw [List.map_append, HX.out, List.take_length, List.append_assoc]; exact h) HJX.out
   have HR := Box.mk hR
   clear hR
   gi_wp2_with (refine ⟨(fun h => by cases h), HR.out.mono ?_⟩; rintro e W6 ⟨rfl, hJ6, hz6, hk6⟩)
   refine ⟨rfl, _, results_tmp rfl _ _ _, rfl, xs ++ [(d, .slice A1 d.ms.length c1, .slice A2 d.bys.length c2, .slice A ks.length c)], ?_, ?_, ?_, fun k hk => ?_⟩
   ·rw [List.map_append, HX.out, List.take_length, postT]; rfl
   ·rw [← List.append_assoc]
    exact HTT.out _ _ _ _ _ hJ6 (Below.refl _ _) (fun k hk => .inl (.inl hk))
   ·have h1 := HK.out.1
    have h2 := HS0.out.2.2.2.size
    omega
   ·exact (hk6 k (.inl hk)).trans ((HK.out.2 k (.inl hk)).trans (HS0.out.2.2.2.block k (by rw [← HB0E.out]; exact HLL.out _ _ _ HJ.out k hk)))
end
section
open Go.RowKit FracM
end
section
open Go.RowKit FracM
end
section
open Go.RowKit FracM
theorem lexM_len : ∀ (n i : Nat) (l : List UInt8), (lexM n i l).1.length ≤ l.length := by
 intro n
 induction n with
 | zero => intro i l; simp [lexM]
 | succ n ih =>
  intro i l
  cases l with
  | nil => simp [lexM]
  | cons c r =>
   rw [lexM]
   split
   ·have := ih (i + 1) r
    simp only [List.length_cons]
    omega
   ·split
    ·next h =>
     have hp := tok_pos h
     have := ih (i + (tokM i c r).2.2) ((c :: r).drop (tokM i c r).2.2)
     simp only [List.length_cons, List.length_drop] at this ⊢
     omega
    ·simp
theorem Lx_nil : Lx [] [] := fun n i _ => by cases n <;> exact ⟨[], rfl, rfl⟩
/-- Parse undoes Print -/
theorem parse_show {t : Tree} (hc : chk t = 0) (hp : prtB t = true) (hl : (showT t).length ≤ 2000) (hf : fitB (norm t) = true) : parseT (showT t) = (norm t, 0, 0) := by
 have hx := Lx_show t hc hp [] [] (nh_nil _) Lx_nil
 simp only [List.append_nil] at hx
 obtain ⟨T, h1, h2⟩ := hx (showT t).length 0 (Nat.le_refl _)
 have hlen : (toksT t).length < (showT t).length + 1 := by
  have := lexM_len (showT t).length 0 (showT t)
  rw [h1] at this
  simp only at this
  rw [← h2, List.length_map]
  omega
 obtain ⟨us, h3, h4⟩ := expr_done ((back_all t hc).expr (showT t).length ((showT t).length + 1) T [] hlen (by simpa using h2) ⟨⟨rfl, rfl, rfl⟩, rfl, rfl⟩) ⟨⟨⟨rfl, rfl, rfl⟩, rfl, rfl⟩, rfl, rfl⟩
 have hu : us = [] := by simpa using h4
 subst hu
 unfold parseT
 rw [if_neg (by omega), h1]
 simp only [↓reduceIte]
 rw [show exprOf (facM ↑(showT t).length ((showT t).length + 1)) T = .ok (norm t, []) from h3]
 simp only
 rw [if_pos hf]
mutual
/-- all its numbers are natural -/
def natT : Tree → Bool
 | .node d ks => (!(d.kind == 0) || natE d.num d.den) && natL ks
def natL : List Tree → Bool
 | [] => true
 | t :: ts => natT t && natL ts
end
theorem natL_all {ks : List Tree} (h : natL ks = true) : ∀ t ∈ ks, natT t = true := by
 induction ks with
 | nil => intro t ht; cases ht
 | cons x xs ih =>
  rw [natL] at h
  simp only [Bool.and_eq_true] at h
  intro t ht
  rcases List.mem_cons.1 ht with rfl | ht
  ·exact h.1
  ·exact ih h.2 t ht
theorem norm_nat : ∀ t, chk t = 0 → natT t = true → norm t = t := Tree.ind fun d ks ih hc hn => by
 obtain ⟨h1, h2⟩ := chk_ok hc
 obtain ⟨a1, _⟩ := chk1_all h1
 rw [natT] at hn
 simp only [Bool.and_eq_true] at hn
 rw [norm]
 by_cases hk : d.kind = 0
 ·rw [if_pos hk]
  have hz : natE d.num d.den = true := by have := hn.1; rw [show (d.kind == 0) = true by simpa using hk] at this; simpa using this
  unfold normN
  rw [if_pos hz]
  unfold shapedB at a1
  rw [if_pos hk] at a1
  unfold noSelB at a1
  simp only [Bool.and_eq_true, decide_eq_true_eq, beq_iff_eq, List.isEmpty_iff] at a1
  obtain ⟨⟨⟨⟨⟨b1, b2⟩, b3⟩, b4⟩, b5⟩, b6⟩ := a1
  obtain ⟨kd, fn, wi, of, k, nu, de, na, ms, bys⟩ := d
  simp only at b1 b2 b3 b4 b5 b6 hk hz
  obtain ⟨⟨⟨c1, c2⟩, c3⟩, c4⟩ := b3
  have c3' := ba_nil (s := na) (by simpa using c3)
  unfold natE at hz
  simp only [Bool.and_eq_true, beq_iff_eq] at hz
  obtain rfl : ks = [] := List.eq_nil_of_length_eq_zero b2
  obtain rfl := hz.1.1
  subst c1 c2 c3' c4 b1 b4 b5 hk
  rfl
 ·rw [if_neg hk, normL_eq]
  congr 1
  exact (List.map_congr_left fun t ht => ih t ht (h2 t ht) (natL_all hn.2 t ht)).trans (List.map_id ks)
theorem prt_nat : ∀ t, natT t = true → prtB t = true := Tree.ind fun d ks ih hn => by
 rw [natT] at hn
 simp only [Bool.and_eq_true] at hn
 rw [prtB]
 by_cases hk : d.kind = 0
 ·rw [if_pos hk]
  have hz : natE d.num d.den = true := by have := hn.1; rw [show (d.kind == 0) = true by simpa using hk] at this; simpa using this
  unfold natE at hz
  simp only [Bool.and_eq_true, beq_iff_eq, decide_eq_true_eq] at hz
  unfold writB
  simp only [Bool.and_eq_true, decide_eq_true_eq]
  omega
 ·rw [if_neg hk]
  have h2 := natL_all hn.2
  clear hn
  induction ks with
  | nil => rfl
  | cons x xs ihx =>
   rw [prtL, ih x (by simp) (h2 x (by simp)), ihx (fun t ht => ih t (by simp [ht])) (fun t ht => h2 t (by simp [ht]))]
   rfl
/-- Parse undoes Print on trees whose numbers are natural -/
theorem parse_print {t : Tree} (hc : chk t = 0) (hn : natT t = true) (hl : (showT t).length ≤ 2000) (hf : fitB t = true) : parseT (showT t) = (t, 0, 0) := by
 have h := parse_show hc (prt_nat t hn) hl (by rw [norm_nat t hc hn]; exact hf)
 rwa [norm_nat t hc hn] at h
end
end Go.Proofs.YtkdojgkiclndfaaGreatDoor
