/- Contracts, packed: Um Ur Us Ky. -/
import Derived.Test.YtipafbppaaflcaaDoorPl17
import Derived.Test.YtipafbppaaflcaaDoorPl23
import Derived.Test.YtipafbppaaflcaaDoorPl24
import Derived.Test.YtipafbppaaflcaaDoorPl26
import Derived.Test.YtipafbppaaflcaaDoorPl27
import Derived.Test.YtipafbppaaflcaaDoorPl31
import Derived.Sort.CutIn
import Derived.Sort.BigQuietIn
import Derived.RangeFuncCalls
import Derived.Recover
import Derived.Tactics2
set_option linter.unusedVariables false
set_option linter.unusedSimpArgs false
namespace Go.Proofs.YtipafbppaaflcaaDoor
section
open Go.RowKit Go.Shelf FracM
attribute [local go_sem] Oper.semAt_some
theorem agree_pr {Pr : Nat → Prop} {A B : World} (hs : A.heap.size ≤ B.heap.size) (h : ∀ k, Pr k → B.heap[k]? = A.heap[k]?) : Agree (fun b _ => Pr b) A B := ⟨hs, fun b e o hp hb _ => World.cell?_of_block (a := ⟨b, o, none⟩) (h b hp)⟩
theorem postL_snoc (l : List Tree) (t : Tree) : postL (l ++ [t]) = postL l ++ postT t := by
 induction l with
 | nil => rw [List.nil_append, postL, postL, postL, List.append_nil]; rfl
 | cons x r ih => rw [List.cons_append, postL, postL, ih, List.append_assoc]
abbrev VisitPost (J : (Nat → Prop) → List (Nd × Sl) → World → Prop) (t : Tree) (Pr : Nat → Prop) (pre : List (Nd × Sl)) (W : World) (e : Ending) (W' : World) : Prop :=
 e = .returned (.bool true) ∧ ∃ xs : List (Nd × Sl), xs.map (·.1) = postT t ∧ J Pr (pre ++ xs) W' ∧ W.heap.size ≤ W'.heap.size ∧ ∀ k, Pr k → W'.heap[k]? = W.heap[k]?
theorem postL_appU (a b : List Tree) : postL (a ++ b) = postL a ++ postL b := by
 induction a with
 | nil => rfl
 | cons t r ih => rw [List.cons_append, postL, postL, ih, List.append_assoc]
theorem kid_pre {p : List Nd} {d : Nd} {ks : List Tree} {L : List Nd} (h : (p ++ postT (.node d ks)) <+: L) (k : Nat) : (p ++ postL (ks.take k)) <+: L := by
 refine List.IsPrefix.trans ?_ h
 refine ⟨postL (ks.drop k) ++ [d], ?_⟩
 have e := postL_appU (ks.take k) (ks.drop k)
 rw [List.take_append_drop] at e
 rw [postT, e]
 simp
set_option maxRecDepth 100000 in
set_option maxHeartbeats 4000000 in
theorem visit_in (L : List Nd) (l : Nat) (J : (Nat → Prop) → List (Nd × Sl) → World → Prop) (hT : ∀ Pr Pr' s A B, J Pr s A → Below A.heap.size A B → (∀ k, Pr' k → Pr k ∨ (A.heap.size ≤ k ∧ k < B.heap.size)) → J Pr' s B)
  (hl : ∀ Pr s A, J Pr s A → ∀ k, Pr k → k < A.heap.size)
  (hY : ∀ m Pr pre (x : Nd × Sl) W1, InsAt W1 (fun b _ => Pr b) x.1 x.2.1 x.2.2.1 → (∃ A n c, x.2.2.2 = .slice A n c) → (pre.map (·.1) ++ [x.1]) <+: L → J Pr pre W1 → YieldAt Fence.wide m Tryd.prog l #[.agg (ndC x.1 x.2.1 x.2.2.1 x.2.2.2)] W1 fun e W' => e = .returned (.bool true) ∧ J Pr (pre ++ [x]) W' ∧ W1.heap.size ≤ W'.heap.size ∧ ∀ k, Pr k → W'.heap[k]? = W1.heap[k]?) :
  ∀ t, ∀ (n : Nat) (Pr : Nat → Prop) (pre : List (Nd × Sl)) (W : World) (mv bv kv : Value), TreeAt W (fun b _ => Pr b) t (mv, bv, kv) → J Pr pre W → (pre.map (·.1) ++ postT t) <+: L →
   CallsIn Fence.wide n Tryd.prog 76 #[.agg (ndC t.d mv bv kv), .func (.yield l) #[] #[]] W (VisitPost J t Pr pre W) := Tree.ind fun d ks ih n Pr pre W mv bv kv ht hj hpx => by
 have HPX := Box.mk hpx
 clear hpx
 have HIH := Box.mk ih
 have HYY := Box.mk hY
 have HTT := Box.mk hT
 have HLL := Box.mk hl
 obtain ⟨A, c, rfl, hkl⟩ := ht.nod.kform
 obtain ⟨A1, c1, rfl, -⟩ := ht.nod.ms.form
 obtain ⟨A2, c2, rfl, -⟩ := ht.nod.bys.form
 have HT := Box.mk ht
 have HJ := Box.mk hj
 clear ih hY hT hl ht hj
 show CallsIn Fence.wide n Tryd.prog 76 #[.agg (ndC d (.slice A1 d.ms.length c1) (.slice A2 d.bys.length c2) (.slice A ks.length c)), .func (.yield l) #[] #[]] W (VisitPost J (.node d ks) Pr pre W)
 refine callsIn_of_wp Tryd.func76 rfl trivial ?_ rfl
 simp only [Tryd.ntmps76, List.size_toArray, List.length_cons, List.length_nil, Nat.reduceAdd, Nat.reduceSub, Array.replicate_succ, Array.replicate_zero, List.push_toArray, List.append_toArray, List.nil_append, List.cons_append]
 gi_upto_region 1 with (fail)
 have HS0 : Box (Blk (W.alloc (.cells (ndC d (.slice A1 d.ms.length c1) (.slice A2 d.bys.length c2) (.slice A ks.length c)) 29)) W.heap.size 29 (ndC d (.slice A1 d.ms.length c1) (.slice A2 d.bys.length c2) (.slice A ks.length c)) ∧ J (fun k => Pr k ∨ k = W.heap.size) pre (W.alloc (.cells (ndC d (.slice A1 d.ms.length c1) (.slice A2 d.bys.length c2) (.slice A ks.length c)) 29)) ∧ TreeAt (W.alloc (.cells (ndC d (.slice A1 d.ms.length c1) (.slice A2 d.bys.length c2) (.slice A ks.length c)) 29)) (fun b _ => Pr b ∨ b = W.heap.size) (.node d ks) (.slice A1 d.ms.length c1, .slice A2 d.bys.length c2, .slice A ks.length c) ∧ Below W.heap.size W (W.alloc (.cells (ndC d (.slice A1 d.ms.length c1) (.slice A2 d.bys.length c2) (.slice A ks.length c)) 29))) :=
  ⟨⟨Blk.new _ _ _, HTT.out _ _ _ _ _ HJ.out (bel1 _ _) (fun k hk => hk.elim .inl fun h => .inr (by subst h; simp)), (HT.out.belo (bel1 _ _)).mono (fun b e _ h => .inl h), bel1 _ _⟩⟩
 have hb0 : W.heap.size < (W.alloc (.cells (ndC d (.slice A1 d.ms.length c1) (.slice A2 d.bys.length c2) (.slice A ks.length c)) 29)).heap.size := by simp
 obtain ⟨b0, hb0e⟩ : ∃ b0, W.heap.size = b0 := ⟨_, rfl⟩
 rw [hb0e] at HS0 hb0 ⊢
 generalize W.alloc (.cells (ndC d (.slice A1 d.ms.length c1) (.slice A2 d.bys.length c2) (.slice A ks.length c)) 29) = W1 at HS0 hb0 ⊢
 have HB0E := Box.mk hb0e
 clear hb0e
 obtain ⟨k0, k1, k2, k3, k4, k5, k6, k7, k8, k9, k10⟩ := blk11z (d := d) HS0.out.1
 gi_wp2
 clear k0 k1 k2 k3 k4 k5 k6 k7 k8 k9 k10
 gi_loopw [6, 10] (fun v6 v wr => ∃ (i : Nat) (xs : List (Nd × Sl)), v = .int .i64 (i : Int) ∧ i ≤ ks.length ∧ Box (xs.map (·.1) = postL (ks.take i)) ∧ Box (J (fun k => Pr k ∨ k = b0) (pre ++ xs) wr) ∧ Box (W1.heap.size ≤ wr.heap.size ∧ ∀ k, Pr k ∨ k = b0 → wr.heap[k]? = W1.heap[k]?)) (fun _ v _ => ks.length - (intOf v).toNat)
 case atStart => exact ⟨0, [], rfl, by omega, ⟨rfl⟩, ⟨by rw [List.append_nil]; exact HS0.out.2.1⟩, ⟨Nat.le_refl _, fun k _ => rfl⟩⟩
 case round =>
  obtain ⟨i, xs, rfl, hi, HX, HJX, HK⟩ := hrel
  by_cases hlt : i < ks.length
  ·have hlt2 : (i : Int) < (ks.length : Int) := by omega
   obtain ⟨u, hu⟩ : ∃ u, ks[i]? = some u := ⟨ks[i], List.getElem?_eq_getElem hlt⟩
   obtain ⟨e, es⟩ := u
   have HMEM : Box (Tree.node e es ∈ ks) := ⟨List.mem_of_getElem? hu⟩
   have HTK : Box (ks.take (i + 1) = ks.take i ++ [.node e es]) := ⟨by rw [List.take_add_one, hu]; rfl⟩
   have htw := HS0.out.2.2.1.keep (agree_pr HK.out.1 HK.out.2)
   obtain ⟨b, off, mv', bv', kv', rfl, hbl, -, hcell, hkt⟩ := htw.nod.kid i e es hu
   obtain ⟨z0, z1, z2, z3, z4, z5, z6, z7, z8, z9, z10⟩ := hcell
   obtain ⟨M1, m1, rfl, -⟩ := hkt.nod.ms.form
   obtain ⟨M2, m2, rfl, -⟩ := hkt.nod.bys.form
   obtain ⟨M3, m3, rfl, -⟩ := hkt.nod.kform
   have HKT := Box.mk hkt
   clear hkt htw hu
   gi_upto_region 4 with (fail)
   have HS2 : Box (Blk (wr.alloc (.cells (ndC e (.slice M1 e.ms.length m1) (.slice M2 e.bys.length m2) (.slice M3 es.length m3)) 29)) wr.heap.size 29 (ndC e (.slice M1 e.ms.length m1) (.slice M2 e.bys.length m2) (.slice M3 es.length m3)) ∧ J (fun k => Pr k ∨ k = b0) (pre ++ xs) (wr.alloc (.cells (ndC e (.slice M1 e.ms.length m1) (.slice M2 e.bys.length m2) (.slice M3 es.length m3)) 29)) ∧ TreeAt (wr.alloc (.cells (ndC e (.slice M1 e.ms.length m1) (.slice M2 e.bys.length m2) (.slice M3 es.length m3)) 29)) (fun b _ => Pr b ∨ b = b0) (.node e es) (.slice M1 e.ms.length m1, .slice M2 e.bys.length m2, .slice M3 es.length m3) ∧ Below wr.heap.size wr (wr.alloc (.cells (ndC e (.slice M1 e.ms.length m1) (.slice M2 e.bys.length m2) (.slice M3 es.length m3)) 29))) :=
    ⟨⟨Blk.new _ _ _, HTT.out _ _ _ _ _ HJX.out (bel1 _ _) (fun k hk => .inl hk), HKT.out.belo (bel1 _ _), bel1 _ _⟩⟩
   clear z0 z1 z2 z3 z4 z5 z6 z7 z8 z9 z10
   obtain ⟨kb, hkb⟩ : ∃ kb, wr.heap.size = kb := ⟨_, rfl⟩
   have HKB := Box.mk hkb
   rw [hkb] at HS2 ⊢
   clear hkb
   generalize wr.alloc (.cells (ndC e (.slice M1 e.ms.length m1) (.slice M2 e.bys.length m2) (.slice M3 es.length m3)) 29) = W2 at HS2 ⊢
   obtain ⟨z0, z1, z2, z3, z4, z5, z6, z7, z8, z9, z10⟩ := blk11z (d := e) HS2.out.1
   have CK : Box (CallsIn Fence.wide (n - 1) Tryd.prog 76 #[.agg (ndC e (.slice M1 e.ms.length m1) (.slice M2 e.bys.length m2) (.slice M3 es.length m3)), .func (.yield l) #[] #[]] W2 (VisitPost J (.node e es) (fun k => Pr k ∨ k = b0) (pre ++ xs) W2)) := ⟨HIH.out _ HMEM.out (n - 1) _ _ W2 (.slice M1 e.ms.length m1) (.slice M2 e.bys.length m2) (.slice M3 es.length m3) HS2.out.2.2.1 HS2.out.2.1 (by rw [List.map_append, HX.out, List.append_assoc, ← postL_snoc, ← HTK.out]; exact kid_pre HPX.out (i + 1))⟩
   gi_wp2_with (refine ⟨trivial, (fun h => by cases h), CK.out.mono ?_⟩; rintro e9 W3 ⟨rfl, ys, hys, hj3, hz3, hk3⟩; have HY3 := Box.mk (And.intro hys (And.intro hj3 (And.intro hz3 hk3))); clear hys hj3 hz3 hk3)
   refine ⟨⟨i + 1, xs ++ ys, rfl, by omega, ⟨?_⟩, ⟨by rw [← List.append_assoc]; exact HY3.out.2.1⟩, ⟨?_, fun k hk => ?_⟩⟩, by simp [intOf]; omega⟩
   ·rw [List.map_append, HX.out, HY3.out.1, HTK.out, postL_snoc]
   ·have h1 := HK.out.1
    have h2 := HS2.out.2.2.2.size
    have h3 := HY3.out.2.2.1
    omega
   ·exact (HY3.out.2.2.2 k hk).trans ((HS2.out.2.2.2.block k (by rw [← HKB.out]; exact HLL.out _ _ _ HJX.out k hk)).trans (HK.out.2 k hk))
  ·have hlt2 : ¬ (i : Int) < (ks.length : Int) := by omega
   have hie : i = ks.length := by omega
   subst hie
   have HBW : Box (Blk wr b0 29 (ndC d (.slice A1 d.ms.length c1) (.slice A2 d.bys.length c2) (.slice A ks.length c))) := ⟨(HK.out.2 b0 (.inr rfl)).trans HS0.out.1⟩
   have HTW := Box.mk (HS0.out.2.2.1.keep (agree_pr HK.out.1 HK.out.2))
   obtain ⟨k0, k1, k2, k3, k4, k5, k6, k7, k8, k9, k10⟩ := blk11z (d := d) HBW.out
   obtain ⟨fn, tmps, assign, body, hy, hR⟩ := HYY.out (n - 1) (fun k => Pr k ∨ k = b0) (pre ++ xs) (d, .slice A1 d.ms.length c1, .slice A2 d.bys.length c2, .slice A ks.length c) wr ⟨HTW.out.nod.ok, HTW.out.nod.ms, HTW.out.nod.bys⟩ ⟨_, _, _, rfl⟩ (by have h := HPX.out; rw [postT] at h; rw [List.map_append, HX.out, List.take_length, List.append_assoc]; exact h) HJX.out
   have HR := Box.mk hR
   clear hR
   gi_wp2_with (refine ⟨(fun h => by cases h), HR.out.mono ?_⟩; rintro e W6 ⟨rfl, hJ6, hz6, hk6⟩)
   refine ⟨rfl, _, results_tmp rfl _ _ _, rfl, xs ++ [(d, .slice A1 d.ms.length c1, .slice A2 d.bys.length c2, .slice A ks.length c)], ?_, ?_, ?_, fun k hk => ?_⟩
   ·rw [List.map_append, HX.out, List.take_length, postT]; rfl
   ·rw [← List.append_assoc]
    exact HTT.out _ _ _ _ _ hJ6 (Below.refl _ _) (fun k hk => .inl (.inl hk))
   ·have h1 := HK.out.1
    have h2 := HS0.out.2.2.2.size
    omega
   ·exact (hk6 k (.inl hk)).trans ((HK.out.2 k (.inl hk)).trans (HS0.out.2.2.2.block k (by rw [← HB0E.out]; exact HLL.out _ _ _ HJ.out k hk)))
end
section
open Go.RowKit Go.Shelf FracM
theorem matInfoC : (Tryd.prog.info? 71).map (fun i => (i.zero, i.size, i.bytes)) = some (some (.agg #[.string ⟨#[]⟩, .int .i64 0, .string ⟨#[]⟩]), 3, 40) := by kernel_rfl
theorem strInfoC : (Tryd.prog.info? 9).map (fun i => (i.zero, i.size, i.bytes)) = some (some (.string ⟨#[]⟩), 1, 16) := by kernel_rfl
theorem exprInfoC : (Tryd.prog.info? 29).map (fun i => (i.zero, i.size, i.bytes)) = some (some (.agg #[.int .i64 0, .int .i64 0, .int .i64 0, .int .i64 0, .int .i64 0, .int .i64 0, .int .i64 0, .string ⟨#[]⟩, .slice none 0 0, .slice none 0 0, .slice none 0 0]), 11, 144) := by kernel_rfl
def RetCl (size n : Nat) (xs : List Value) (w : World) (e : Ending) (w' : World) : Prop := ∃ v', e = .returned v' ∧ SeqP w' (fun b _ => w.heap.size ≤ b) size v' n xs ∧ Below w.heap.size w w'
theorem cloneM_any {Q : Nat → Nat → Prop} {v : Value} (ms : List Mat) {w : World} (h : SeqP w Q 3 v ms.length (ms.flatMap matCells)) (hb : ms.length ≤ 1000000) :
  Calls Tryd.prog 43 #[v] w (RetCl 3 ms.length (ms.flatMap matCells) w) := by
 obtain ⟨i0, hi, hz0, hz1, hz2⟩ := info_parts matInfoC
 exact clone_seq cloneM_lays i0 _ 3 40 hi hz0 hz1 hz2 rfl (by decide) Tryd.sizeOf71 h (by omega) (mats_one ms)
theorem cloneS_any {Q : Nat → Nat → Prop} {v : Value} (l : List ByteArray) {w : World} (h : SeqP w Q 1 v l.length (l.map Value.string)) (hb : l.length ≤ 1000000) :
  Calls Tryd.prog 44 #[v] w (RetCl 1 l.length (l.map Value.string) w) := by
 obtain ⟨i0, hi, hz0, hz1, hz2⟩ := info_parts strInfoC
 exact clone_seq cloneS_lays i0 _ 1 16 hi hz0 hz1 hz2 rfl (by decide) Tryd.sizeOf9 h (by omega) (strs_one l)
theorem cloneE_any {Q : Nat → Nat → Prop} {v : Value} (n : Nat) (xs : List Value) {w : World} (h : SeqP w Q 11 v n xs) (hb : n ≤ 1000000) (h1 : ∀ u ∈ xs, u.oneCell' = true) :
  Calls Tryd.prog 46 #[v] w (RetCl 11 n xs w) := by
 obtain ⟨i0, hi, hz0, hz1, hz2⟩ := info_parts exprInfoC
 exact clone_seq cloneE_lays i0 _ 11 144 hi hz0 hz1 hz2 rfl (by decide) Tryd.sizeOf29 h (by omega) h1
set_option maxHeartbeats 1000000 in
theorem ppostfix_any (d : Nd) (mv bv kv : Value) (w : World) (hv : ∀ u ∈ #[mv, bv, kv].toList, u.oneCell' = true) : Calls Tryd.prog 42 #[.agg (ndC d mv bv kv)] w fun e w' => e = .returned (.func (.func 75) #[] #[.pointer (some ⟨w.heap.size, 0, none⟩)]) ∧ w' = w.alloc (.cells (ndC d mv bv kv) 29) := by
 have hmf : ∀ (fn : Fn) (first cap : Array Value) (w : World), (Instr.makeFunc fn first cap).run Tryd.prog w = .ok (.func fn first cap) w := fun _ _ _ _ => rfl
 clear hv
 go_enter Tryd.func42, Tryd.ntmps42
 go_wp2_with fail
 go_ret
 exact ⟨rfl, rfl⟩
set_option maxRecDepth 100000 in
set_option maxHeartbeats 4000000 in
theorem p1_in (L : List Nd) (l : Nat) (J : (Nat → Prop) → List (Nd × Sl) → World → Prop) (hT : ∀ Pr Pr' s A B, J Pr s A → Below A.heap.size A B → (∀ k, Pr' k → Pr k ∨ (A.heap.size ≤ k ∧ k < B.heap.size)) → J Pr' s B)
  (hl : ∀ Pr s A, J Pr s A → ∀ k, Pr k → k < A.heap.size)
  (hY : ∀ m Pr pre (x : Nd × Sl) W1, InsAt W1 (fun b _ => Pr b) x.1 x.2.1 x.2.2.1 → (∃ A n c, x.2.2.2 = .slice A n c) → (pre.map (·.1) ++ [x.1]) <+: L → J Pr pre W1 → YieldAt Fence.wide m Tryd.prog l #[.agg (ndC x.1 x.2.1 x.2.2.1 x.2.2.2)] W1 fun e W' => e = .returned (.bool true) ∧ J Pr (pre ++ [x]) W' ∧ W1.heap.size ≤ W'.heap.size ∧ ∀ k, Pr k → W'.heap[k]? = W1.heap[k]?)
  (t : Tree) (n : Nat) (Pr : Nat → Prop) (pre : List (Nd × Sl)) (W : World) (g : Nat) (s : Sl) (ht : TreeAt W (fun b _ => Pr b) t s) (hg : Blk W g 29 (ndC t.d s.1 s.2.1 s.2.2)) (hj : J Pr pre W) (hpx : (pre.map (·.1) ++ postT t) <+: L) :
  CallsIn Fence.wide n Tryd.prog 75 #[.func (.yield l) #[] #[], .pointer (some ⟨g, 0, none⟩)] W fun e W' => (∃ v, e = .returned v) ∧ ∃ xs : List (Nd × Sl), xs.map (·.1) = postT t ∧ J Pr (pre ++ xs) W' := by
 obtain ⟨d, ks⟩ := t
 obtain ⟨mv, bv, kv⟩ := s
 obtain ⟨A, c, rfl, hkl⟩ := ht.nod.kform
 obtain ⟨A1, c1, rfl, -⟩ := ht.nod.ms.form
 obtain ⟨A2, c2, rfl, -⟩ := ht.nod.bys.form
 have CK : Box (CallsIn Fence.wide (n - 1) Tryd.prog 76 #[.agg (ndC d (.slice A1 d.ms.length c1) (.slice A2 d.bys.length c2) (.slice A ks.length c)), .func (.yield l) #[] #[]] W (VisitPost J (.node d ks) Pr pre W)) := ⟨visit_in L l J hT hl hY (.node d ks) (n - 1) Pr pre W (.slice A1 d.ms.length c1) (.slice A2 d.bys.length c2) (.slice A ks.length c) ht hj hpx⟩
 obtain ⟨k0, k1, k2, k3, k4, k5, k6, k7, k8, k9, k10⟩ := blk11z (d := d) hg
 clear ht hj hg hT hl hY hpx
 refine callsIn_of_wp Tryd.func75 rfl trivial ?_ rfl
 simp only [Tryd.ntmps75, List.size_toArray, List.length_cons, List.length_nil, Nat.reduceAdd, Nat.reduceSub, Array.replicate_succ, Array.replicate_zero, List.push_toArray, List.append_toArray, List.nil_append, List.cons_append]
 gi_wp2_with (refine ⟨trivial, (fun h => by cases h), CK.out.mono ?_⟩; rintro e9 W3 ⟨rfl, ys, hys, hj3, -, -⟩)
 exact ⟨rfl, _, results_none rfl _ _ _, ⟨_, rfl⟩, ys, hys, hj3⟩
end
section
open Go Go.RowKit
section
variable {P : Program} {ops : Array Oper} {Q : Exit → Act → World → Prop} {S : World → Prop}
theorem rowsIn_round {l m : Nat} {row : String} {args : Array Value} {w : World} {R : Value → World → Prop} (h : Rows P row args w R) : RowsIn (Fence.wide.inRound l) m P row args w R :=
 fun c cs _ => let ⟨v, w', r, s⟩ := h c cs; ⟨v, w', r, (stepsIn_wide (P := P)).2 s⟩
theorem callsIn_round {l m : Nat} {f : FuncId} {args : Array Value} {w : World} {R : Ending → World → Prop} (h : Calls P f args w R) : CallsIn (Fence.wide.inRound l) m P f args w R :=
 ((callsIn_wide (n := m)).2 h).inRound l
theorem wpIn_of_wpOper {l m : Nat} {o : Oper} {a : Act} {w : World} {K K' : Act → World → Prop} (hd : ∀ c, o.op ≠ .defer c) (hK : ∀ a w, K a w → K' a w) (h : o.wp P a w K Q) : o.wpIn (Fence.wide.inRound l) m P a w K' Q := by
 refine ⟨fun _ _ => trivial, ?_⟩
 rw [show o.semAt (Fence.wide.inRound l).round a.eval = execOp a.eval o from Oper.semAt_eq _ _ _ hd]
 unfold Oper.wp at h
 generalize (execOp a.eval o).run P w = r at *
 cases r with
 | ok n w' =>
  cases n <;> simp only [Oper.upon, Oper.uponIn] at h ⊢
  case value u => exact hK _ _ h
  case skip => exact hK _ _ h
  case defer d => exact hK _ _ h
  case enter f args =>
   refine ⟨(fun he => by cases he), callsIn_round (Calls.mono h fun e w'' he => ?_)⟩
   cases e with
   | returned u => exact hK _ _ he
   | panicked c => exact he
   | outgrown => exact he
  case row row args => exact ⟨(fun he => by cases he), rowsIn_round (Rows.mono h fun u w'' he => hK _ _ he)⟩
 | halt x w' =>
  cases x <;> simp only [Oper.upon, Oper.uponIn] at h ⊢
  case panic u => exact h
def noDefer (ops : Array Oper) : Bool := ops.all fun o => match o.op with | .defer _ => false | _ => true
theorem noDefer_spec {ops : Array Oper} (h : noDefer ops = true) (i : Nat) (o : Oper) (ho : ops[i]? = some o) : ∀ c, o.op ≠ .defer c := by
 intro c hc
 have hm := Array.mem_of_getElem? ho
 have := Array.all_eq_true'.1 h o hm
 rw [hc] at this
 cases this
theorem wpOpsIn_of_wpOps {l m : Nat} (hQ : ¬ LetsOut Q) (hd : noDefer ops = true) : ∀ (s : List Nat) (a : Act) (w : World), wpOps P ops Q s a w → wpOpsIn (Fence.wide.inRound l) m P ops Q s a w := by
 intro s
 induction s with
 | nil => intro a w h; exact h
 | cons i rest ih =>
  intro a w h
  simp only [wpOps] at h
  simp only [wpOpsIn]
  cases ho : ops[i]? with
  | none => rw [ho] at h; exact ih _ _ h
  | some o =>
   rw [ho] at h
   simp only at h ⊢
   split
   ·next hw =>
    rw [if_pos hw] at h
    rcases h with h | h
    ·exact wpIn_of_wpOper (noDefer_spec hd i o ho) (fun a w h => ih a w h) h
    ·exact absurd h.2 hQ
   ·next hw =>
    rw [if_neg hw] at h
    exact ⟨fun _ _ => trivial, ih _ _ h⟩
theorem wpIn_region_anyR {l m id : Nat} {a : Act} {w : World} (hm : P.follows .mixedOrders = true) (hQ : ¬ LetsOut Q) (hd : noDefer ops = true)
  (h : wpAny P .any ops Q ops.size (Array.replicate ops.size false) a w.drew) : (Code.region id ops true).wpIn (Fence.wide.inRound l) m P Q a w :=
 wpIn_region_draw fun t => by
  simp only [Region.schedule, hm, Bool.true_or, if_true]
  exact wpOpsIn_of_wpOps hQ hd _ _ _ (wpAny_sound ops.size t _ a _ h)
theorem wpIn_region_T (e : Nat) {l m id : Nat} {a : Act} {w : World} (hm : P.follows .mixedOrders = true) (hQ : ¬ LetsOut Q) (hd : noDefer ops = true) (hS : S w.drew)
  (h : S w.drew → wpAnyT P .any ops Q S e ops.size (Array.replicate ops.size false) a w.drew) : (Code.region id ops true).wpIn (Fence.wide.inRound l) m P Q a w :=
 wpIn_region_anyR hm hQ hd (wpAny_of_T _ _ _ _ (h hS))
end
end
section
open Go.RowKit FracM
theorem blk11v {w : World} {b : Nat} {t : TypeId} {v0 v1 v2 v3 v4 v5 v6 v7 v8 v9 v10 : Value} (h : Blk w b t #[v0, v1, v2, v3, v4, v5, v6, v7, v8, v9, v10]) : w.cell? ⟨b, 0, none⟩ = some v0 ∧ w.cell? ⟨b, 1, none⟩ = some v1 ∧ w.cell? ⟨b, 2, none⟩ = some v2 ∧ w.cell? ⟨b, 3, none⟩ = some v3 ∧ w.cell? ⟨b, 4, none⟩ = some v4 ∧ w.cell? ⟨b, 5, none⟩ = some v5 ∧ w.cell? ⟨b, 6, none⟩ = some v6 ∧ w.cell? ⟨b, 7, none⟩ = some v7 ∧ w.cell? ⟨b, 8, none⟩ = some v8 ∧ w.cell? ⟨b, 9, none⟩ = some v9 ∧ w.cell? ⟨b, 10, none⟩ = some v10 := by
 unfold Blk at h
 refine ⟨?_, ?_, ?_, ?_, ?_, ?_, ?_, ?_, ?_, ?_, ?_⟩ <;> simp [World.cell?, h]
theorem put11_blkv {W : World} {o : Nat} {t : TypeId} {v0 v1 v2 v3 v4 v5 v6 v7 v8 v9 v10 u0 u1 u2 u3 u4 u5 u6 u7 u8 u9 u10 : Value} (h : Blk W o t #[v0, v1, v2, v3, v4, v5, v6, v7, v8, v9, v10]) : Blk (put11 W o u0 u1 u2 u3 u4 u5 u6 u7 u8 u9 u10) o t #[u0, u1, u2, u3, u4, u5, u6, u7, u8, u9, u10] := by
 unfold put11
 have := ((((((((((h.set 0 u0).set 1 u1).set 2 u2).set 3 u3).set 4 u4).set 5 u5).set 6 u6).set 7 u7).set 8 u8).set 9 u9).set 10 u10
 simpa using this
set_option maxRecDepth 100000 in
set_option maxHeartbeats 4000000 in
theorem pcatch_fail (ps pe pa pr B : Nat) (f : Int × Int) (s : ByteArray) (w : World) (cs0 : Array Value) (v0 v1 v2 v3 v4 v5 v6 v7 v8 v9 v10 : Value) (a0 e0 : Value) (hs : w.cell? ⟨ps, 0, none⟩ = some (.string s))
  (he : Blk w pe 29 #[v0, v1, v2, v3, v4, v5, v6, v7, v8, v9, v10]) (ha : Blk w pa 3 #[a0]) (hr : Blk w pr 37 #[e0]) (n1 : pe ≠ pa) (n2 : pe ≠ pr) (n3 : pa ≠ pr) (hB : B ≤ pe ∧ B ≤ pa ∧ B ≤ pr ∧ B ≤ w.heap.size) :
  CallsD Tryd.prog 60 #[.pointer (some ⟨ps, 0, none⟩), .pointer (some ⟨pe, 0, none⟩), .pointer (some ⟨pa, 0, none⟩), .pointer (some ⟨pr, 0, none⟩)] (.panicking [{ v := .iface 103 (.agg #[.int .i64 f.1, .int .i64 f.2]), recovered := false }]) w fun e u' w' =>
   e = .returned (.tuple #[]) ∧ u' = .panicking [{ v := .iface 103 (.agg #[.int .i64 f.1, .int .i64 f.2]), recovered := true }] ∧ Blk w' pe 29 zeroC ∧ Blk w' pa 3 #[.int .i64 f.1] ∧ Blk w' pr 37 #[.int .i64 f.2] ∧ Below B w w' := by
 refine callsD_of_wpS Tryd.func60 rfl fun c₀ cs hu => ?_
 apply wpS_seq
 apply wpS_region
 simp [wpOpsS, go_sem, recoverD, hu, Tryd.ntmps60, Exit.thenS]
 refine wpS_of_wp ?_
 simp only [Array.replicate_succ, Array.replicate_zero, List.push_toArray, List.append_toArray, List.nil_append, List.cons_append, List.setIfInBounds_toArray, List.set_cons_succ, List.set_cons_zero]
 have hta : ∀ W : World, (Instr.typeAssert (.iface 103 (.agg #[.int .i64 f.1, .int .i64 f.2])) 20 103 true).run Tryd.prog W = .ok (.tuple #[.agg #[.int .i64 f.1, .int .i64 f.2], .bool true]) W := fun _ => by kernel_rfl
 have HW : Box (Blk (w.alloc (.cells #[.int .i64 f.1, .int .i64 f.2] 103)) pe 29 #[v0, v1, v2, v3, v4, v5, v6, v7, v8, v9, v10] ∧ Blk (w.alloc (.cells #[.int .i64 f.1, .int .i64 f.2] 103)) pa 3 #[a0] ∧ Blk (w.alloc (.cells #[.int .i64 f.1, .int .i64 f.2] 103)) pr 37 #[e0] ∧ Blk (w.alloc (.cells #[.int .i64 f.1, .int .i64 f.2] 103)) w.heap.size 103 #[.int .i64 f.1, .int .i64 f.2] ∧ Below w.heap.size w (w.alloc (.cells #[.int .i64 f.1, .int .i64 f.2] 103))) := ⟨he.alloc _, ha.alloc _, hr.alloc _, Blk.new _ _ _, bel1 _ _⟩
 have l1 := he.lt
 have l2 := ha.lt
 have l3 := hr.lt
 have m1 : ¬ w.heap.size = pe := by omega
 have m2 : ¬ w.heap.size = pa := by omega
 have m3 : ¬ w.heap.size = pr := by omega
 have m4 : ¬ pa = pe := fun h => n1 h.symm
 have m5 : ¬ pr = pe := fun h => n2 h.symm
 have m6 : ¬ pr = pa := fun h => n3 h.symm
 have m7 : ¬ pe = pa := n1
 have m8 : ¬ pe = pr := n2
 have m9 : ¬ pa = pr := n3
 clear he ha hr hs
 go_upto_region 5 with (fail)
 clear hta
 generalize w.alloc (.cells #[.int .i64 f.1, .int .i64 f.2] 103) = W1 at HW ⊢
 generalize hfb : w.heap.size = fb at *
 obtain ⟨x0, x1, x2, x3, x4, x5, x6, x7, x8, x9, x10⟩ := blk11v HW.out.1
 have ha0 := HW.out.2.1.c1
 have hr0 := HW.out.2.2.1.c1
 obtain ⟨f0, f1⟩ := HW.out.2.2.2.1.c2
 have ef := HW.out.1.frozen
 have af := HW.out.2.1.frozen
 have rf := HW.out.2.2.1.frozen
 go_region
 have HF : Box (Blk ((((put11 W1 pe (.int .i64 0) (.int .i64 0) (.int .i64 0) (.int .i64 0) (.int .i64 0) (.int .i64 0) (.int .i64 0) (.string ⟨#[]⟩) nilV nilV nilV).setCell ⟨pa, 0, none⟩ (.int .i64 f.1)).setCell ⟨pr, 0, none⟩ (.int .i64 f.2)).drew) pe 29 zeroC ∧ Blk ((((put11 W1 pe (.int .i64 0) (.int .i64 0) (.int .i64 0) (.int .i64 0) (.int .i64 0) (.int .i64 0) (.int .i64 0) (.string ⟨#[]⟩) nilV nilV nilV).setCell ⟨pa, 0, none⟩ (.int .i64 f.1)).setCell ⟨pr, 0, none⟩ (.int .i64 f.2)).drew) pa 3 #[.int .i64 f.1] ∧ Blk ((((put11 W1 pe (.int .i64 0) (.int .i64 0) (.int .i64 0) (.int .i64 0) (.int .i64 0) (.int .i64 0) (.int .i64 0) (.string ⟨#[]⟩) nilV nilV nilV).setCell ⟨pa, 0, none⟩ (.int .i64 f.1)).setCell ⟨pr, 0, none⟩ (.int .i64 f.2)).drew) pr 37 #[.int .i64 f.2] ∧ Below B w ((((put11 W1 pe (.int .i64 0) (.int .i64 0) (.int .i64 0) (.int .i64 0) (.int .i64 0) (.int .i64 0) (.int .i64 0) (.string ⟨#[]⟩) nilV nilV nilV).setCell ⟨pa, 0, none⟩ (.int .i64 f.1)).setCell ⟨pr, 0, none⟩ (.int .i64 f.2)).drew)) := ⟨by
  have b1 := put11_only (W := W1) (o := pe) (.int .i64 0) (.int .i64 0) (.int .i64 0) (.int .i64 0) (.int .i64 0) (.int .i64 0) (.int .i64 0) (.string ⟨#[]⟩) nilV nilV nilV
  have z1 : Blk (put11 W1 pe (.int .i64 0) (.int .i64 0) (.int .i64 0) (.int .i64 0) (.int .i64 0) (.int .i64 0) (.int .i64 0) (.string ⟨#[]⟩) nilV nilV nilV) pe 29 zeroC := put11_blkv HW.out.1
  have za := b1.blk HW.out.2.1 m4
  have zr := b1.blk HW.out.2.2.1 m5
  have zb := (HW.out.2.2.2.2.mono hB.2.2.2).trans (b1.below (B := B) hB.1 (by have := HW.out.2.2.2.2.size; omega))
  generalize put11 W1 pe (.int .i64 0) (.int .i64 0) (.int .i64 0) (.int .i64 0) (.int .i64 0) (.int .i64 0) (.int .i64 0) (.string ⟨#[]⟩) nilV nilV nilV = W2 at *
  refine ⟨Blk.drewN ((z1.far (p := ⟨pa, 0, none⟩) m7 _).far (p := ⟨pr, 0, none⟩) m8 _) 1, Blk.drewN (Blk.far (p := ⟨pr, 0, none⟩) (by simpa using za.set 0 (.int .i64 f.1)) m9 _) 1, Blk.drewN (by have := (zr.far (p := ⟨pa, 0, none⟩) m6 (.int .i64 f.1)).set 0 (.int .i64 f.2); simpa using this) 1, bdrew ((zb.setCell (p := ⟨pa, 0, none⟩) hB.2.1 _).setCell (p := ⟨pr, 0, none⟩) hB.2.2.1 _) 1⟩⟩
 exact ⟨rfl, _, rfl, _, results_none rfl _ _ _, rfl, rfl, HF.out.1, HF.out.2.1, HF.out.2.2.1, HF.out.2.2.2⟩
end
end Go.Proofs.YtipafbppaaflcaaDoor
