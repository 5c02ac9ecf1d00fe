/- Contracts, packed: Um Ur. -/
import Derived.Test.YtpgdijbfkahepaaGreatDoorPd25
import Derived.Test.YtpgdijbfkahepaaGreatDoorPd33
import Derived.Test.YtpgdijbfkahepaaGreatDoorPd34
import Derived.Sort.CutIn
import Derived.Sort.BigQuietIn
set_option linter.unusedVariables false
set_option linter.unusedSimpArgs false
namespace Go.Proofs.YtpgdijbfkahepaaGreatDoor
section
open Go.RowKit Go.Shelf FracM
attribute [local go_sem] Oper.semAt_some
theorem agree_pr {Pr : Nat → Prop} {A B : World} (hs : A.heap.size ≤ B.heap.size) (h : ∀ k, Pr k → B.heap[k]? = A.heap[k]?) : Agree (fun b _ => Pr b) A B := ⟨hs, fun b e o hp hb _ => World.cell?_of_block (a := ⟨b, o, none⟩) (h b hp)⟩
theorem postL_snoc (l : List Tree) (t : Tree) : postL (l ++ [t]) = postL l ++ postT t := by
 induction l with
 | nil => rw [List.nil_append, postL, postL, postL, List.append_nil]; rfl
 | cons x r ih => rw [List.cons_append, postL, postL, ih, List.append_assoc]
abbrev VisitPost (J : (Nat → Prop) → List (Nd × Sl) → World → Prop) (t : Tree) (Pr : Nat → Prop) (pre : List (Nd × Sl)) (W : World) (e : Ending) (W' : World) : Prop :=
 e = .returned (.bool true) ∧ ∃ xs : List (Nd × Sl), xs.map (·.1) = postT t ∧ J Pr (pre ++ xs) W' ∧ W.heap.size ≤ W'.heap.size ∧ ∀ k, Pr k → W'.heap[k]? = W.heap[k]?
theorem postL_appU (a b : List Tree) : postL (a ++ b) = postL a ++ postL b := by
 induction a with
 | nil => rfl
 | cons t r ih => rw [List.cons_append, postL, postL, ih, List.append_assoc]
theorem kid_pre {p : List Nd} {d : Nd} {ks : List Tree} {L : List Nd} (h : (p ++ postT (.node d ks)) <+: L) (k : Nat) : (p ++ postL (ks.take k)) <+: L := by
 refine List.IsPrefix.trans ?_ h
 refine ⟨postL (ks.drop k) ++ [d], ?_⟩
 have e := postL_appU (ks.take k) (ks.drop k)
 rw [List.take_append_drop] at e
 rw [postT, e]
 simp
set_option maxRecDepth 100000 in
set_option maxHeartbeats 4000000 in
theorem visit_in (L : List Nd) (l : Nat) (J : (Nat → Prop) → List (Nd × Sl) → World → Prop) (hT : ∀ Pr Pr' s A B, J Pr s A → Below A.heap.size A B → (∀ k, Pr' k → Pr k ∨ (A.heap.size ≤ k ∧ k < B.heap.size)) → J Pr' s B)
  (hl : ∀ Pr s A, J Pr s A → ∀ k, Pr k → k < A.heap.size)
  (hY : ∀ m Pr pre (x : Nd × Sl) W1, InsAt W1 (fun b _ => Pr b) x.1 x.2.1 x.2.2.1 → (∃ A n c, x.2.2.2 = .slice A n c) → (pre.map (·.1) ++ [x.1]) <+: L → J Pr pre W1 → YieldAt Fence.wide m Tryz.prog l #[.agg (ndC x.1 x.2.1 x.2.2.1 x.2.2.2)] W1 fun e W' => e = .returned (.bool true) ∧ J Pr (pre ++ [x]) W' ∧ W1.heap.size ≤ W'.heap.size ∧ ∀ k, Pr k → W'.heap[k]? = W1.heap[k]?) :
  ∀ t, ∀ (n : Nat) (Pr : Nat → Prop) (pre : List (Nd × Sl)) (W : World) (mv bv kv : Value), TreeAt W (fun b _ => Pr b) t (mv, bv, kv) → J Pr pre W → (pre.map (·.1) ++ postT t) <+: L →
   CallsIn Fence.wide n Tryz.prog 64 #[.agg (ndC t.d mv bv kv), .func (.yield l) #[] #[]] W (VisitPost J t Pr pre W) := Tree.ind fun d ks ih n Pr pre W mv bv kv ht hj hpx => by
 have HPX := Box.mk hpx
 clear hpx
 have HIH := Box.mk ih
 have HYY := Box.mk hY
 have HTT := Box.mk hT
 have HLL := Box.mk hl
 obtain ⟨A, c, rfl, hkl⟩ := ht.nod.kform
 obtain ⟨A1, c1, rfl, -⟩ := ht.nod.ms.form
 obtain ⟨A2, c2, rfl, -⟩ := ht.nod.bys.form
 have HT := Box.mk ht
 have HJ := Box.mk hj
 clear ih hY hT hl ht hj
 show CallsIn Fence.wide n Tryz.prog 64 #[.agg (ndC d (.slice A1 d.ms.length c1) (.slice A2 d.bys.length c2) (.slice A ks.length c)), .func (.yield l) #[] #[]] W (VisitPost J (.node d ks) Pr pre W)
 refine callsIn_of_wp Tryz.func64 rfl trivial ?_ rfl
 simp only [Tryz.ntmps64, List.size_toArray, List.length_cons, List.length_nil, Nat.reduceAdd, Nat.reduceSub, Array.replicate_succ, Array.replicate_zero, List.push_toArray, List.append_toArray, List.nil_append, List.cons_append]
 gi_upto_region 1 with (fail)
 have HS0 : Box (Blk (W.alloc (.cells (ndC d (.slice A1 d.ms.length c1) (.slice A2 d.bys.length c2) (.slice A ks.length c)) 35)) W.heap.size 35 (ndC d (.slice A1 d.ms.length c1) (.slice A2 d.bys.length c2) (.slice A ks.length c)) ∧ J (fun k => Pr k ∨ k = W.heap.size) pre (W.alloc (.cells (ndC d (.slice A1 d.ms.length c1) (.slice A2 d.bys.length c2) (.slice A ks.length c)) 35)) ∧ TreeAt (W.alloc (.cells (ndC d (.slice A1 d.ms.length c1) (.slice A2 d.bys.length c2) (.slice A ks.length c)) 35)) (fun b _ => Pr b ∨ b = W.heap.size) (.node d ks) (.slice A1 d.ms.length c1, .slice A2 d.bys.length c2, .slice A ks.length c) ∧ Below W.heap.size W (W.alloc (.cells (ndC d (.slice A1 d.ms.length c1) (.slice A2 d.bys.length c2) (.slice A ks.length c)) 35))) :=
  ⟨⟨Blk.new _ _ _, HTT.out _ _ _ _ _ HJ.out (bel1 _ _) (fun k hk => hk.elim .inl fun h => .inr (by subst h; simp)), (HT.out.belo (bel1 _ _)).mono (fun b e _ h => .inl h), bel1 _ _⟩⟩
 have hb0 : W.heap.size < (W.alloc (.cells (ndC d (.slice A1 d.ms.length c1) (.slice A2 d.bys.length c2) (.slice A ks.length c)) 35)).heap.size := by simp
 obtain ⟨b0, hb0e⟩ : ∃ b0, W.heap.size = b0 := ⟨_, rfl⟩
 rw [hb0e] at HS0 hb0 ⊢
 generalize W.alloc (.cells (ndC d (.slice A1 d.ms.length c1) (.slice A2 d.bys.length c2) (.slice A ks.length c)) 35) = W1 at HS0 hb0 ⊢
 have HB0E := Box.mk hb0e
 clear hb0e
 obtain ⟨k0, k1, k2, k3, k4, k5, k6, k7, k8, k9, k10⟩ := blk11z (d := d) HS0.out.1
 gi_wp2
 clear k0 k1 k2 k3 k4 k5 k6 k7 k8 k9 k10
 gi_loopw [6, 10] (fun v6 v wr => ∃ (i : Nat) (xs : List (Nd × Sl)), v = .int .i64 (i : Int) ∧ i ≤ ks.length ∧ Box (xs.map (·.1) = postL (ks.take i)) ∧ Box (J (fun k => Pr k ∨ k = b0) (pre ++ xs) wr) ∧ Box (W1.heap.size ≤ wr.heap.size ∧ ∀ k, Pr k ∨ k = b0 → wr.heap[k]? = W1.heap[k]?)) (fun _ v _ => ks.length - (intOf v).toNat)
 case atStart => exact ⟨0, [], rfl, by omega, ⟨rfl⟩, ⟨by rw [List.append_nil]; exact HS0.out.2.1⟩, ⟨Nat.le_refl _, fun k _ => rfl⟩⟩
 case round =>
  obtain ⟨i, xs, rfl, hi, HX, HJX, HK⟩ := hrel
  by_cases hlt : i < ks.length
  ·have hlt2 : (i : Int) < (ks.length : Int) := by omega
   obtain ⟨u, hu⟩ : ∃ u, ks[i]? = some u := ⟨ks[i], List.getElem?_eq_getElem hlt⟩
   obtain ⟨e, es⟩ := u
   have HMEM : Box (Tree.node e es ∈ ks) := ⟨List.mem_of_getElem? hu⟩
   have HTK : Box (ks.take (i + 1) = ks.take i ++ [.node e es]) := ⟨by rw [List.take_add_one, hu]; rfl⟩
   have htw := HS0.out.2.2.1.keep (agree_pr HK.out.1 HK.out.2)
   obtain ⟨b, off, mv', bv', kv', rfl, hbl, -, hcell, hkt⟩ := htw.nod.kid i e es hu
   obtain ⟨z0, z1, z2, z3, z4, z5, z6, z7, z8, z9, z10⟩ := hcell
   obtain ⟨M1, m1, rfl, -⟩ := hkt.nod.ms.form
   obtain ⟨M2, m2, rfl, -⟩ := hkt.nod.bys.form
   obtain ⟨M3, m3, rfl, -⟩ := hkt.nod.kform
   have HKT := Box.mk hkt
   clear hkt htw hu
   gi_upto_region 4 with (fail)
   have HS2 : Box (Blk (wr.alloc (.cells (ndC e (.slice M1 e.ms.length m1) (.slice M2 e.bys.length m2) (.slice M3 es.length m3)) 35)) wr.heap.size 35 (ndC e (.slice M1 e.ms.length m1) (.slice M2 e.bys.length m2) (.slice M3 es.length m3)) ∧ J (fun k => Pr k ∨ k = b0) (pre ++ xs) (wr.alloc (.cells (ndC e (.slice M1 e.ms.length m1) (.slice M2 e.bys.length m2) (.slice M3 es.length m3)) 35)) ∧ TreeAt (wr.alloc (.cells (ndC e (.slice M1 e.ms.length m1) (.slice M2 e.bys.length m2) (.slice M3 es.length m3)) 35)) (fun b _ => Pr b ∨ b = b0) (.node e es) (.slice M1 e.ms.length m1, .slice M2 e.bys.length m2, .slice M3 es.length m3) ∧ Below wr.heap.size wr (wr.alloc (.cells (ndC e (.slice M1 e.ms.length m1) (.slice M2 e.bys.length m2) (.slice M3 es.length m3)) 35))) :=
    ⟨⟨Blk.new _ _ _, HTT.out _ _ _ _ _ HJX.out (bel1 _ _) (fun k hk => .inl hk), HKT.out.belo (bel1 _ _), bel1 _ _⟩⟩
   clear z0 z1 z2 z3 z4 z5 z6 z7 z8 z9 z10
   obtain ⟨kb, hkb⟩ : ∃ kb, wr.heap.size = kb := ⟨_, rfl⟩
   have HKB := Box.mk hkb
   rw [hkb] at HS2 ⊢
   clear hkb
   generalize wr.alloc (.cells (ndC e (.slice M1 e.ms.length m1) (.slice M2 e.bys.length m2) (.slice M3 es.length m3)) 35) = W2 at HS2 ⊢
   obtain ⟨z0, z1, z2, z3, z4, z5, z6, z7, z8, z9, z10⟩ := blk11z (d := e) HS2.out.1
   have CK : Box (CallsIn Fence.wide (n - 1) Tryz.prog 64 #[.agg (ndC e (.slice M1 e.ms.length m1) (.slice M2 e.bys.length m2) (.slice M3 es.length m3)), .func (.yield l) #[] #[]] W2 (VisitPost J (.node e es) (fun k => Pr k ∨ k = b0) (pre ++ xs) W2)) := ⟨HIH.out _ HMEM.out (n - 1) _ _ W2 (.slice M1 e.ms.length m1) (.slice M2 e.bys.length m2) (.slice M3 es.length m3) HS2.out.2.2.1 HS2.out.2.1 (by rw [List.map_append, HX.out, List.append_assoc, ← postL_snoc, ← HTK.out]; exact kid_pre HPX.out (i + 1))⟩
   gi_wp2_with (refine ⟨trivial, (fun h => by cases h), CK.out.mono ?_⟩; rintro e9 W3 ⟨rfl, ys, hys, hj3, hz3, hk3⟩; have HY3 := Box.mk (And.intro hys (And.intro hj3 (And.intro hz3 hk3))); clear hys hj3 hz3 hk3)
   refine ⟨⟨i + 1, xs ++ ys, rfl, by omega, ⟨?_⟩, ⟨by rw [← List.append_assoc]; exact HY3.out.2.1⟩, ⟨?_, fun k hk => ?_⟩⟩, by simp [intOf]; omega⟩
   ·rw [List.map_append, HX.out, HY3.out.1, HTK.out, postL_snoc]
   ·have h1 := HK.out.1
    have h2 := HS2.out.2.2.2.size
    have h3 := HY3.out.2.2.1
    omega
   ·exact (HY3.out.2.2.2 k hk).trans ((HS2.out.2.2.2.block k (by rw [← HKB.out]; exact HLL.out _ _ _ HJX.out k hk)).trans (HK.out.2 k hk))
  ·have hlt2 : ¬ (i : Int) < (ks.length : Int) := by omega
   have hie : i = ks.length := by omega
   subst hie
   have HBW : Box (Blk wr b0 35 (ndC d (.slice A1 d.ms.length c1) (.slice A2 d.bys.length c2) (.slice A ks.length c))) := ⟨(HK.out.2 b0 (.inr rfl)).trans HS0.out.1⟩
   have HTW := Box.mk (HS0.out.2.2.1.keep (agree_pr HK.out.1 HK.out.2))
   obtain ⟨k0, k1, k2, k3, k4, k5, k6, k7, k8, k9, k10⟩ := blk11z (d := d) HBW.out
   obtain ⟨fn, tmps, assign, body, hy, hR⟩ := HYY.out (n - 1) (fun k => Pr k ∨ k = b0) (pre ++ xs) (d, .slice A1 d.ms.length c1, .slice A2 d.bys.length c2, .slice A ks.length c) wr ⟨HTW.out.nod.ok, HTW.out.nod.ms, HTW.out.nod.bys⟩ ⟨_, _, _, rfl⟩ (by have h := HPX.out; rw [postT] at h; rw [List.map_append, HX.out, List.take_length, List.append_assoc]; exact h) HJX.out
   have HR := Box.mk hR
   clear hR
   gi_wp2_with (refine ⟨(fun h => by cases h), HR.out.mono ?_⟩; rintro e W6 ⟨rfl, hJ6, hz6, hk6⟩)
   refine ⟨rfl, _, results_tmp rfl _ _ _, rfl, xs ++ [(d, .slice A1 d.ms.length c1, .slice A2 d.bys.length c2, .slice A ks.length c)], ?_, ?_, ?_, fun k hk => ?_⟩
   ·rw [List.map_append, HX.out, List.take_length, postT]; rfl
   ·rw [← List.append_assoc]
    exact HTT.out _ _ _ _ _ hJ6 (Below.refl _ _) (fun k hk => .inl (.inl hk))
   ·have h1 := HK.out.1
    have h2 := HS0.out.2.2.2.size
    omega
   ·exact (hk6 k (.inl hk)).trans ((HK.out.2 k (.inl hk)).trans (HS0.out.2.2.2.block k (by rw [← HB0E.out]; exact HLL.out _ _ _ HJ.out k hk)))
end
section
open Go.RowKit Go.Shelf FracM
theorem matInfoC : (Tryz.prog.info? 75).map (fun i => (i.zero, i.size, i.bytes)) = some (some (.agg #[.string ⟨#[]⟩, .int .i64 0, .string ⟨#[]⟩]), 3, 40) := by kernel_rfl
theorem strInfoC : (Tryz.prog.info? 9).map (fun i => (i.zero, i.size, i.bytes)) = some (some (.string ⟨#[]⟩), 1, 16) := by kernel_rfl
theorem exprInfoC : (Tryz.prog.info? 35).map (fun i => (i.zero, i.size, i.bytes)) = some (some (.agg #[.int .i64 0, .int .i64 0, .int .i64 0, .int .i64 0, .int .i64 0, .int .i64 0, .int .i64 0, .string ⟨#[]⟩, .slice none 0 0, .slice none 0 0, .slice none 0 0]), 11, 144) := by kernel_rfl
def RetCl (size n : Nat) (xs : List Value) (w : World) (e : Ending) (w' : World) : Prop := ∃ v', e = .returned v' ∧ SeqP w' (fun b _ => w.heap.size ≤ b) size v' n xs ∧ Below w.heap.size w w'
theorem cloneM_any {Q : Nat → Nat → Prop} {v : Value} (ms : List Mat) {w : World} (h : SeqP w Q 3 v ms.length (ms.flatMap matCells)) (hb : ms.length ≤ 1000000) :
  Calls Tryz.prog 45 #[v] w (RetCl 3 ms.length (ms.flatMap matCells) w) := by
 obtain ⟨i0, hi, hz0, hz1, hz2⟩ := info_parts matInfoC
 exact clone_seq cloneM_lays i0 _ 3 40 hi hz0 hz1 hz2 rfl (by decide) Tryz.sizeOf75 h (by omega) (mats_one ms)
theorem cloneS_any {Q : Nat → Nat → Prop} {v : Value} (l : List ByteArray) {w : World} (h : SeqP w Q 1 v l.length (l.map Value.string)) (hb : l.length ≤ 1000000) :
  Calls Tryz.prog 46 #[v] w (RetCl 1 l.length (l.map Value.string) w) := by
 obtain ⟨i0, hi, hz0, hz1, hz2⟩ := info_parts strInfoC
 exact clone_seq cloneS_lays i0 _ 1 16 hi hz0 hz1 hz2 rfl (by decide) Tryz.sizeOf9 h (by omega) (strs_one l)
theorem cloneE_any {Q : Nat → Nat → Prop} {v : Value} (n : Nat) (xs : List Value) {w : World} (h : SeqP w Q 11 v n xs) (hb : n ≤ 1000000) (h1 : ∀ u ∈ xs, u.oneCell' = true) :
  Calls Tryz.prog 54 #[v] w (RetCl 11 n xs w) := by
 obtain ⟨i0, hi, hz0, hz1, hz2⟩ := info_parts exprInfoC
 exact clone_seq cloneE_lays i0 _ 11 144 hi hz0 hz1 hz2 rfl (by decide) Tryz.sizeOf35 h (by omega) h1
set_option maxHeartbeats 1000000 in
theorem ppostfix_any (d : Nd) (mv bv kv : Value) (w : World) (hv : ∀ u ∈ #[mv, bv, kv].toList, u.oneCell' = true) : Calls Tryz.prog 44 #[.agg (ndC d mv bv kv)] w fun e w' => e = .returned (.func (.func 63) #[] #[.pointer (some ⟨w.heap.size, 0, none⟩)]) ∧ w' = w.alloc (.cells (ndC d mv bv kv) 35) := by
 have hmf : ∀ (fn : Fn) (first cap : Array Value) (w : World), (Instr.makeFunc fn first cap).run Tryz.prog w = .ok (.func fn first cap) w := fun _ _ _ _ => rfl
 clear hv
 go_enter Tryz.func44, Tryz.ntmps44
 go_wp2_with fail
 go_ret
 exact ⟨rfl, rfl⟩
set_option maxRecDepth 100000 in
set_option maxHeartbeats 4000000 in
theorem p1_in (L : List Nd) (l : Nat) (J : (Nat → Prop) → List (Nd × Sl) → World → Prop) (hT : ∀ Pr Pr' s A B, J Pr s A → Below A.heap.size A B → (∀ k, Pr' k → Pr k ∨ (A.heap.size ≤ k ∧ k < B.heap.size)) → J Pr' s B)
  (hl : ∀ Pr s A, J Pr s A → ∀ k, Pr k → k < A.heap.size)
  (hY : ∀ m Pr pre (x : Nd × Sl) W1, InsAt W1 (fun b _ => Pr b) x.1 x.2.1 x.2.2.1 → (∃ A n c, x.2.2.2 = .slice A n c) → (pre.map (·.1) ++ [x.1]) <+: L → J Pr pre W1 → YieldAt Fence.wide m Tryz.prog l #[.agg (ndC x.1 x.2.1 x.2.2.1 x.2.2.2)] W1 fun e W' => e = .returned (.bool true) ∧ J Pr (pre ++ [x]) W' ∧ W1.heap.size ≤ W'.heap.size ∧ ∀ k, Pr k → W'.heap[k]? = W1.heap[k]?)
  (t : Tree) (n : Nat) (Pr : Nat → Prop) (pre : List (Nd × Sl)) (W : World) (g : Nat) (s : Sl) (ht : TreeAt W (fun b _ => Pr b) t s) (hg : Blk W g 35 (ndC t.d s.1 s.2.1 s.2.2)) (hj : J Pr pre W) (hpx : (pre.map (·.1) ++ postT t) <+: L) :
  CallsIn Fence.wide n Tryz.prog 63 #[.func (.yield l) #[] #[], .pointer (some ⟨g, 0, none⟩)] W fun e W' => (∃ v, e = .returned v) ∧ ∃ xs : List (Nd × Sl), xs.map (·.1) = postT t ∧ J Pr (pre ++ xs) W' := by
 obtain ⟨d, ks⟩ := t
 obtain ⟨mv, bv, kv⟩ := s
 obtain ⟨A, c, rfl, hkl⟩ := ht.nod.kform
 obtain ⟨A1, c1, rfl, -⟩ := ht.nod.ms.form
 obtain ⟨A2, c2, rfl, -⟩ := ht.nod.bys.form
 have CK : Box (CallsIn Fence.wide (n - 1) Tryz.prog 64 #[.agg (ndC d (.slice A1 d.ms.length c1) (.slice A2 d.bys.length c2) (.slice A ks.length c)), .func (.yield l) #[] #[]] W (VisitPost J (.node d ks) Pr pre W)) := ⟨visit_in L l J hT hl hY (.node d ks) (n - 1) Pr pre W (.slice A1 d.ms.length c1) (.slice A2 d.bys.length c2) (.slice A ks.length c) ht hj hpx⟩
 obtain ⟨k0, k1, k2, k3, k4, k5, k6, k7, k8, k9, k10⟩ := blk11z (d := d) hg
 clear ht hj hg hT hl hY hpx
 refine callsIn_of_wp Tryz.func63 rfl trivial ?_ rfl
 simp only [Tryz.ntmps63, List.size_toArray, List.length_cons, List.length_nil, Nat.reduceAdd, Nat.reduceSub, Array.replicate_succ, Array.replicate_zero, List.push_toArray, List.append_toArray, List.nil_append, List.cons_append]
 gi_wp2_with (refine ⟨trivial, (fun h => by cases h), CK.out.mono ?_⟩; rintro e9 W3 ⟨rfl, ys, hys, hj3, -, -⟩)
 exact ⟨rfl, _, results_none rfl _ _ _, ⟨_, rfl⟩, ys, hys, hj3⟩
end
end Go.Proofs.YtpgdijbfkahepaaGreatDoor
