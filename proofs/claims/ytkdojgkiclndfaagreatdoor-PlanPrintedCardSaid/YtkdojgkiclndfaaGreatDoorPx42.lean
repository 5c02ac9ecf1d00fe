/- Contracts, packed: Ur Us Ky Li. -/
import Derived.Test.YtkdojgkiclndfaaGreatDoorPx22
import Derived.Test.YtkdojgkiclndfaaGreatDoorPx26
import Derived.Test.YtkdojgkiclndfaaGreatDoorPx27
import Derived.Test.YtkdojgkiclndfaaGreatDoorPx35
import Derived.Test.YtkdojgkiclndfaaGreatDoorPx39
import Derived.Test.YtkdojgkiclndfaaGreatDoorPx41
import Derived.RangeFuncCalls
import Derived.Recover
import Derived.Tactics2
set_option linter.unusedVariables false
set_option linter.unusedSimpArgs false
namespace Go.Proofs.YtkdojgkiclndfaaGreatDoor
section
open Go.RowKit Go.Shelf FracM
theorem matInfoC : (Tryz.prog.info? 86).map (fun i => (i.zero, i.size, i.bytes)) = some (some (.agg #[.string ⟨#[]⟩, .int .i64 0, .string ⟨#[]⟩]), 3, 40) := by kernel_rfl
theorem strInfoC : (Tryz.prog.info? 9).map (fun i => (i.zero, i.size, i.bytes)) = some (some (.string ⟨#[]⟩), 1, 16) := by kernel_rfl
theorem exprInfoC : (Tryz.prog.info? 33).map (fun i => (i.zero, i.size, i.bytes)) = some (some (.agg #[.int .i64 0, .int .i64 0, .int .i64 0, .int .i64 0, .int .i64 0, .int .i64 0, .int .i64 0, .string ⟨#[]⟩, .slice none 0 0, .slice none 0 0, .slice none 0 0]), 11, 144) := by kernel_rfl
def RetCl (size n : Nat) (xs : List Value) (w : World) (e : Ending) (w' : World) : Prop := ∃ v', e = .returned v' ∧ SeqP w' (fun b _ => w.heap.size ≤ b) size v' n xs ∧ Below w.heap.size w w'
theorem cloneM_any {Q : Nat → Nat → Prop} {v : Value} (ms : List Mat) {w : World} (h : SeqP w Q 3 v ms.length (ms.flatMap matCells)) (hb : ms.length ≤ 1000000) :
  Calls Tryz.prog 42 #[v] w (RetCl 3 ms.length (ms.flatMap matCells) w) := by
 obtain ⟨i0, hi, hz0, hz1, hz2⟩ := info_parts matInfoC
 exact clone_seq cloneM_lays i0 _ 3 40 hi hz0 hz1 hz2 rfl (by decide) Tryz.sizeOf86 h (by omega) (mats_one ms)
theorem cloneS_any {Q : Nat → Nat → Prop} {v : Value} (l : List ByteArray) {w : World} (h : SeqP w Q 1 v l.length (l.map Value.string)) (hb : l.length ≤ 1000000) :
  Calls Tryz.prog 43 #[v] w (RetCl 1 l.length (l.map Value.string) w) := by
 obtain ⟨i0, hi, hz0, hz1, hz2⟩ := info_parts strInfoC
 exact clone_seq cloneS_lays i0 _ 1 16 hi hz0 hz1 hz2 rfl (by decide) Tryz.sizeOf9 h (by omega) (strs_one l)
theorem cloneE_any {Q : Nat → Nat → Prop} {v : Value} (n : Nat) (xs : List Value) {w : World} (h : SeqP w Q 11 v n xs) (hb : n ≤ 1000000) (h1 : ∀ u ∈ xs, u.oneCell' = true) :
  Calls Tryz.prog 86 #[v] w (RetCl 11 n xs w) := by
 obtain ⟨i0, hi, hz0, hz1, hz2⟩ := info_parts exprInfoC
 exact clone_seq cloneE_lays i0 _ 11 144 hi hz0 hz1 hz2 rfl (by decide) Tryz.sizeOf33 h (by omega) h1
set_option maxHeartbeats 1000000 in
theorem ppostfix_any (d : Nd) (mv bv kv : Value) (w : World) (hv : ∀ u ∈ #[mv, bv, kv].toList, u.oneCell' = true) : Calls Tryz.prog 41 #[.agg (ndC d mv bv kv)] w fun e w' => e = .returned (.func (.func 75) #[] #[.pointer (some ⟨w.heap.size, 0, none⟩)]) ∧ w' = w.alloc (.cells (ndC d mv bv kv) 33) := by
 have hmf : ∀ (fn : Fn) (first cap : Array Value) (w : World), (Instr.makeFunc fn first cap).run Tryz.prog w = .ok (.func fn first cap) w := fun _ _ _ _ => rfl
 clear hv
 go_enter Tryz.func41, Tryz.ntmps41
 go_wp2_with fail
 go_ret
 exact ⟨rfl, rfl⟩
set_option maxRecDepth 100000 in
set_option maxHeartbeats 4000000 in
theorem p1_in (L : List Nd) (l : Nat) (J : (Nat → Prop) → List (Nd × Sl) → World → Prop) (hT : ∀ Pr Pr' s A B, J Pr s A → Below A.heap.size A B → (∀ k, Pr' k → Pr k ∨ (A.heap.size ≤ k ∧ k < B.heap.size)) → J Pr' s B)
  (hl : ∀ Pr s A, J Pr s A → ∀ k, Pr k → k < A.heap.size)
  (hY : ∀ m Pr pre (x : Nd × Sl) W1, InsAt W1 (fun b _ => Pr b) x.1 x.2.1 x.2.2.1 → (∃ A n c, x.2.2.2 = .slice A n c) → (pre.map (·.1) ++ [x.1]) <+: L → J Pr pre W1 → YieldAt Fence.wide m Tryz.prog l #[.agg (ndC x.1 x.2.1 x.2.2.1 x.2.2.2)] W1 fun e W' => e = .returned (.bool true) ∧ J Pr (pre ++ [x]) W' ∧ W1.heap.size ≤ W'.heap.size ∧ ∀ k, Pr k → W'.heap[k]? = W1.heap[k]?)
  (t : Tree) (n : Nat) (Pr : Nat → Prop) (pre : List (Nd × Sl)) (W : World) (g : Nat) (s : Sl) (ht : TreeAt W (fun b _ => Pr b) t s) (hg : Blk W g 33 (ndC t.d s.1 s.2.1 s.2.2)) (hj : J Pr pre W) (hpx : (pre.map (·.1) ++ postT t) <+: L) :
  CallsIn Fence.wide n Tryz.prog 75 #[.func (.yield l) #[] #[], .pointer (some ⟨g, 0, none⟩)] W fun e W' => (∃ v, e = .returned v) ∧ ∃ xs : List (Nd × Sl), xs.map (·.1) = postT t ∧ J Pr (pre ++ xs) W' := by
 obtain ⟨d, ks⟩ := t
 obtain ⟨mv, bv, kv⟩ := s
 obtain ⟨A, c, rfl, hkl⟩ := ht.nod.kform
 obtain ⟨A1, c1, rfl, -⟩ := ht.nod.ms.form
 obtain ⟨A2, c2, rfl, -⟩ := ht.nod.bys.form
 have CK : Box (CallsIn Fence.wide (n - 1) Tryz.prog 76 #[.agg (ndC d (.slice A1 d.ms.length c1) (.slice A2 d.bys.length c2) (.slice A ks.length c)), .func (.yield l) #[] #[]] W (VisitPost J (.node d ks) Pr pre W)) := ⟨visit_in L l J hT hl hY (.node d ks) (n - 1) Pr pre W (.slice A1 d.ms.length c1) (.slice A2 d.bys.length c2) (.slice A ks.length c) ht hj hpx⟩
 obtain ⟨k0, k1, k2, k3, k4, k5, k6, k7, k8, k9, k10⟩ := blk11z (d := d) hg
 clear ht hj hg hT hl hY hpx
 refine callsIn_of_wp Tryz.func75 rfl trivial ?_ rfl
 simp only [Tryz.ntmps75, List.size_toArray, List.length_cons, List.length_nil, Nat.reduceAdd, Nat.reduceSub, Array.replicate_succ, Array.replicate_zero, List.push_toArray, List.append_toArray, List.nil_append, List.cons_append]
 gi_wp2_with (refine ⟨trivial, (fun h => by cases h), CK.out.mono ?_⟩; rintro e9 W3 ⟨rfl, ys, hys, hj3, -, -⟩)
 exact ⟨rfl, _, results_none rfl _ _ _, ⟨_, rfl⟩, ys, hys, hj3⟩
end
section
open Go Go.RowKit
section
variable {P : Program} {ops : Array Oper} {Q : Exit → Act → World → Prop} {S : World → Prop}
theorem rowsIn_round {l m : Nat} {row : String} {args : Array Value} {w : World} {R : Value → World → Prop} (h : Rows P row args w R) : RowsIn (Fence.wide.inRound l) m P row args w R :=
 fun c cs _ => let ⟨v, w', r, s⟩ := h c cs; ⟨v, w', r, (stepsIn_wide (P := P)).2 s⟩
theorem callsIn_round {l m : Nat} {f : FuncId} {args : Array Value} {w : World} {R : Ending → World → Prop} (h : Calls P f args w R) : CallsIn (Fence.wide.inRound l) m P f args w R :=
 ((callsIn_wide (n := m)).2 h).inRound l
theorem wpIn_of_wpOper {l m : Nat} {o : Oper} {a : Act} {w : World} {K K' : Act → World → Prop} (hd : ∀ c, o.op ≠ .defer c) (hK : ∀ a w, K a w → K' a w) (h : o.wp P a w K Q) : o.wpIn (Fence.wide.inRound l) m P a w K' Q := by
 refine ⟨fun _ _ => trivial, ?_⟩
 rw [show o.semAt (Fence.wide.inRound l).round a.eval = execOp a.eval o from Oper.semAt_eq _ _ _ hd]
 unfold Oper.wp at h
 generalize (execOp a.eval o).run P w = r at *
 cases r with
 | ok n w' =>
  cases n <;> simp only [Oper.upon, Oper.uponIn] at h ⊢
  case value u => exact hK _ _ h
  case skip => exact hK _ _ h
  case defer d => exact hK _ _ h
  case enter f args =>
   refine ⟨(fun he => by cases he), callsIn_round (Calls.mono h fun e w'' he => ?_)⟩
   cases e with
   | returned u => exact hK _ _ he
   | panicked c => exact he
   | outgrown => exact he
  case row row args => exact ⟨(fun he => by cases he), rowsIn_round (Rows.mono h fun u w'' he => hK _ _ he)⟩
 | halt x w' =>
  cases x <;> simp only [Oper.upon, Oper.uponIn] at h ⊢
  case panic u => exact h
def noDefer (ops : Array Oper) : Bool := ops.all fun o => match o.op with | .defer _ => false | _ => true
theorem noDefer_spec {ops : Array Oper} (h : noDefer ops = true) (i : Nat) (o : Oper) (ho : ops[i]? = some o) : ∀ c, o.op ≠ .defer c := by
 intro c hc
 have hm := Array.mem_of_getElem? ho
 have := Array.all_eq_true'.1 h o hm
 rw [hc] at this
 cases this
theorem wpOpsIn_of_wpOps {l m : Nat} (hQ : ¬ LetsOut Q) (hd : noDefer ops = true) : ∀ (s : List Nat) (a : Act) (w : World), wpOps P ops Q s a w → wpOpsIn (Fence.wide.inRound l) m P ops Q s a w := by
 intro s
 induction s with
 | nil => intro a w h; exact h
 | cons i rest ih =>
  intro a w h
  simp only [wpOps] at h
  simp only [wpOpsIn]
  cases ho : ops[i]? with
  | none => rw [ho] at h; exact ih _ _ h
  | some o =>
   rw [ho] at h
   simp only at h ⊢
   split
   ·next hw =>
    rw [if_pos hw] at h
    rcases h with h | h
    ·exact wpIn_of_wpOper (noDefer_spec hd i o ho) (fun a w h => ih a w h) h
    ·exact absurd h.2 hQ
   ·next hw =>
    rw [if_neg hw] at h
    exact ⟨fun _ _ => trivial, ih _ _ h⟩
theorem wpIn_region_anyR {l m id : Nat} {a : Act} {w : World} (hm : P.follows .mixedOrders = true) (hQ : ¬ LetsOut Q) (hd : noDefer ops = true)
  (h : wpAny P .any ops Q ops.size (Array.replicate ops.size false) a w.drew) : (Code.region id ops true).wpIn (Fence.wide.inRound l) m P Q a w :=
 wpIn_region_draw fun t => by
  simp only [Region.schedule, hm, Bool.true_or, if_true]
  exact wpOpsIn_of_wpOps hQ hd _ _ _ (wpAny_sound ops.size t _ a _ h)
theorem wpIn_region_T (e : Nat) {l m id : Nat} {a : Act} {w : World} (hm : P.follows .mixedOrders = true) (hQ : ¬ LetsOut Q) (hd : noDefer ops = true) (hS : S w.drew)
  (h : S w.drew → wpAnyT P .any ops Q S e ops.size (Array.replicate ops.size false) a w.drew) : (Code.region id ops true).wpIn (Fence.wide.inRound l) m P Q a w :=
 wpIn_region_anyR hm hQ hd (wpAny_of_T _ _ _ _ (h hS))
end
end
section
open Go.RowKit FracM
theorem blk11v {w : World} {b : Nat} {t : TypeId} {v0 v1 v2 v3 v4 v5 v6 v7 v8 v9 v10 : Value} (h : Blk w b t #[v0, v1, v2, v3, v4, v5, v6, v7, v8, v9, v10]) : w.cell? ⟨b, 0, none⟩ = some v0 ∧ w.cell? ⟨b, 1, none⟩ = some v1 ∧ w.cell? ⟨b, 2, none⟩ = some v2 ∧ w.cell? ⟨b, 3, none⟩ = some v3 ∧ w.cell? ⟨b, 4, none⟩ = some v4 ∧ w.cell? ⟨b, 5, none⟩ = some v5 ∧ w.cell? ⟨b, 6, none⟩ = some v6 ∧ w.cell? ⟨b, 7, none⟩ = some v7 ∧ w.cell? ⟨b, 8, none⟩ = some v8 ∧ w.cell? ⟨b, 9, none⟩ = some v9 ∧ w.cell? ⟨b, 10, none⟩ = some v10 := by
 unfold Blk at h
 refine ⟨?_, ?_, ?_, ?_, ?_, ?_, ?_, ?_, ?_, ?_, ?_⟩ <;> simp [World.cell?, h]
theorem put11_blkv {W : World} {o : Nat} {t : TypeId} {v0 v1 v2 v3 v4 v5 v6 v7 v8 v9 v10 u0 u1 u2 u3 u4 u5 u6 u7 u8 u9 u10 : Value} (h : Blk W o t #[v0, v1, v2, v3, v4, v5, v6, v7, v8, v9, v10]) : Blk (put11 W o u0 u1 u2 u3 u4 u5 u6 u7 u8 u9 u10) o t #[u0, u1, u2, u3, u4, u5, u6, u7, u8, u9, u10] := by
 unfold put11
 have := ((((((((((h.set 0 u0).set 1 u1).set 2 u2).set 3 u3).set 4 u4).set 5 u5).set 6 u6).set 7 u7).set 8 u8).set 9 u9).set 10 u10
 simpa using this
set_option maxRecDepth 100000 in
set_option maxHeartbeats 4000000 in
theorem pcatch_fail (ps pe pa pr B : Nat) (f : Int × Int) (s : ByteArray) (w : World) (cs0 : Array Value) (v0 v1 v2 v3 v4 v5 v6 v7 v8 v9 v10 : Value) (a0 e0 : Value) (hs : w.cell? ⟨ps, 0, none⟩ = some (.string s))
  (he : Blk w pe 33 #[v0, v1, v2, v3, v4, v5, v6, v7, v8, v9, v10]) (ha : Blk w pa 3 #[a0]) (hr : Blk w pr 24 #[e0]) (n1 : pe ≠ pa) (n2 : pe ≠ pr) (n3 : pa ≠ pr) (hB : B ≤ pe ∧ B ≤ pa ∧ B ≤ pr ∧ B ≤ w.heap.size) :
  CallsD Tryz.prog 37 #[.pointer (some ⟨ps, 0, none⟩), .pointer (some ⟨pe, 0, none⟩), .pointer (some ⟨pa, 0, none⟩), .pointer (some ⟨pr, 0, none⟩)] (.panicking [{ v := .iface 74 (.agg #[.int .i64 f.1, .int .i64 f.2]), recovered := false }]) w fun e u' w' =>
   e = .returned (.tuple #[]) ∧ u' = .panicking [{ v := .iface 74 (.agg #[.int .i64 f.1, .int .i64 f.2]), recovered := true }] ∧ Blk w' pe 33 zeroC ∧ Blk w' pa 3 #[.int .i64 f.1] ∧ Blk w' pr 24 #[.int .i64 f.2] ∧ Below B w w' := by
 refine callsD_of_wpS Tryz.func37 rfl fun c₀ cs hu => ?_
 apply wpS_seq
 apply wpS_region
 simp [wpOpsS, go_sem, recoverD, hu, Tryz.ntmps37, Exit.thenS]
 refine wpS_of_wp ?_
 simp only [Array.replicate_succ, Array.replicate_zero, List.push_toArray, List.append_toArray, List.nil_append, List.cons_append, List.setIfInBounds_toArray, List.set_cons_succ, List.set_cons_zero]
 have hta : ∀ W : World, (Instr.typeAssert (.iface 74 (.agg #[.int .i64 f.1, .int .i64 f.2])) 20 74 true).run Tryz.prog W = .ok (.tuple #[.agg #[.int .i64 f.1, .int .i64 f.2], .bool true]) W := fun _ => by kernel_rfl
 have HW : Box (Blk (w.alloc (.cells #[.int .i64 f.1, .int .i64 f.2] 74)) pe 33 #[v0, v1, v2, v3, v4, v5, v6, v7, v8, v9, v10] ∧ Blk (w.alloc (.cells #[.int .i64 f.1, .int .i64 f.2] 74)) pa 3 #[a0] ∧ Blk (w.alloc (.cells #[.int .i64 f.1, .int .i64 f.2] 74)) pr 24 #[e0] ∧ Blk (w.alloc (.cells #[.int .i64 f.1, .int .i64 f.2] 74)) w.heap.size 74 #[.int .i64 f.1, .int .i64 f.2] ∧ Below w.heap.size w (w.alloc (.cells #[.int .i64 f.1, .int .i64 f.2] 74))) := ⟨he.alloc _, ha.alloc _, hr.alloc _, Blk.new _ _ _, bel1 _ _⟩
 have l1 := he.lt
 have l2 := ha.lt
 have l3 := hr.lt
 have m1 : ¬ w.heap.size = pe := by omega
 have m2 : ¬ w.heap.size = pa := by omega
 have m3 : ¬ w.heap.size = pr := by omega
 have m4 : ¬ pa = pe := fun h => n1 h.symm
 have m5 : ¬ pr = pe := fun h => n2 h.symm
 have m6 : ¬ pr = pa := fun h => n3 h.symm
 have m7 : ¬ pe = pa := n1
 have m8 : ¬ pe = pr := n2
 have m9 : ¬ pa = pr := n3
 clear he ha hr hs
 go_upto_region 5 with (fail)
 clear hta
 generalize w.alloc (.cells #[.int .i64 f.1, .int .i64 f.2] 74) = W1 at HW ⊢
 generalize hfb : w.heap.size = fb at *
 obtain ⟨x0, x1, x2, x3, x4, x5, x6, x7, x8, x9, x10⟩ := blk11v HW.out.1
 have ha0 := HW.out.2.1.c1
 have hr0 := HW.out.2.2.1.c1
 obtain ⟨f0, f1⟩ := HW.out.2.2.2.1.c2
 have ef := HW.out.1.frozen
 have af := HW.out.2.1.frozen
 have rf := HW.out.2.2.1.frozen
 go_region
 have HF : Box (Blk ((((put11 W1 pe (.int .i64 0) (.int .i64 0) (.int .i64 0) (.int .i64 0) (.int .i64 0) (.int .i64 0) (.int .i64 0) (.string ⟨#[]⟩) nilV nilV nilV).setCell ⟨pa, 0, none⟩ (.int .i64 f.1)).setCell ⟨pr, 0, none⟩ (.int .i64 f.2)).drew) pe 33 zeroC ∧ Blk ((((put11 W1 pe (.int .i64 0) (.int .i64 0) (.int .i64 0) (.int .i64 0) (.int .i64 0) (.int .i64 0) (.int .i64 0) (.string ⟨#[]⟩) nilV nilV nilV).setCell ⟨pa, 0, none⟩ (.int .i64 f.1)).setCell ⟨pr, 0, none⟩ (.int .i64 f.2)).drew) pa 3 #[.int .i64 f.1] ∧ Blk ((((put11 W1 pe (.int .i64 0) (.int .i64 0) (.int .i64 0) (.int .i64 0) (.int .i64 0) (.int .i64 0) (.int .i64 0) (.string ⟨#[]⟩) nilV nilV nilV).setCell ⟨pa, 0, none⟩ (.int .i64 f.1)).setCell ⟨pr, 0, none⟩ (.int .i64 f.2)).drew) pr 24 #[.int .i64 f.2] ∧ Below B w ((((put11 W1 pe (.int .i64 0) (.int .i64 0) (.int .i64 0) (.int .i64 0) (.int .i64 0) (.int .i64 0) (.int .i64 0) (.string ⟨#[]⟩) nilV nilV nilV).setCell ⟨pa, 0, none⟩ (.int .i64 f.1)).setCell ⟨pr, 0, none⟩ (.int .i64 f.2)).drew)) := ⟨by
  have b1 := put11_only (W := W1) (o := pe) (.int .i64 0) (.int .i64 0) (.int .i64 0) (.int .i64 0) (.int .i64 0) (.int .i64 0) (.int .i64 0) (.string ⟨#[]⟩) nilV nilV nilV
  have z1 : Blk (put11 W1 pe (.int .i64 0) (.int .i64 0) (.int .i64 0) (.int .i64 0) (.int .i64 0) (.int .i64 0) (.int .i64 0) (.string ⟨#[]⟩) nilV nilV nilV) pe 33 zeroC := put11_blkv HW.out.1
  have za := b1.blk HW.out.2.1 m4
  have zr := b1.blk HW.out.2.2.1 m5
  have zb := (HW.out.2.2.2.2.mono hB.2.2.2).trans (b1.below (B := B) hB.1 (by have := HW.out.2.2.2.2.size; omega))
  generalize put11 W1 pe (.int .i64 0) (.int .i64 0) (.int .i64 0) (.int .i64 0) (.int .i64 0) (.int .i64 0) (.int .i64 0) (.string ⟨#[]⟩) nilV nilV nilV = W2 at *
  refine ⟨Blk.drewN ((z1.far (p := ⟨pa, 0, none⟩) m7 _).far (p := ⟨pr, 0, none⟩) m8 _) 1, Blk.drewN (Blk.far (p := ⟨pr, 0, none⟩) (by simpa using za.set 0 (.int .i64 f.1)) m9 _) 1, Blk.drewN (by have := (zr.far (p := ⟨pa, 0, none⟩) m6 (.int .i64 f.1)).set 0 (.int .i64 f.2); simpa using this) 1, bdrew ((zb.setCell (p := ⟨pa, 0, none⟩) hB.2.1 _).setCell (p := ⟨pr, 0, none⟩) hB.2.2.1 _) 1⟩⟩
 exact ⟨rfl, _, rfl, _, results_none rfl _ _ _, rfl, rfl, HF.out.1, HF.out.2.1, HF.out.2.2.1, HF.out.2.2.2⟩
end
section
open Go.RowKit FracM
theorem namesL_sz : ∀ x ∈ namesL, x.data.toList.length ≤ 4 := by decide +kernel
theorem valuesL_sz : ∀ x ∈ valuesL8, x.data.toList.length ≤ 4 := by decide +kernel
theorem gmat_len {m : Mat} (h : GoodMat m) : (matL m).length ≤ 12 := by
 have h1 := namesL_sz _ h.1
 have h2 := valuesL_sz _ h.2.2
 have h3 : (matchT.getD m.2.1.toNat []).length ≤ 2 := by
  have hk : m.2.1.toNat < 3 := by have := h.2.1; omega
  generalize m.2.1.toNat = k at hk
  match k, hk with
  | 0, _ => decide
  | 1, _ => decide
  | 2, _ => decide
 unfold matL
 simp only [List.length_append, List.length_cons, List.length_nil]
 omega
theorem gmats_len {ms : List Mat} (h : ∀ m ∈ ms, GoodMat m) (hl : ms.length ≤ 3) : (matsL ms).length ≤ 41 := by
 have hr : ∀ l : List Mat, (∀ m ∈ l, GoodMat m) → (matsR l).length ≤ 13 * l.length + 1 := by
  intro l
  induction l with
  | nil => intro _; simp [matsR]
  | cons m l ih =>
   intro hm
   have h1 := gmat_len (hm m (by simp))
   have h2 := ih fun x hx => hm x (by simp [hx])
   rw [matsR]
   simp only [List.length_append, List.length_cons]
   omega
 cases ms with
 | nil => simp [matsL]
 | cons m ms =>
  have h1 := gmat_len (h m (by simp))
  have h2 := hr ms fun x hx => h x (by simp [hx])
  rw [matsL]
  simp only [List.length_append, List.length_cons] at hl ⊢
  omega
theorem gbys_len {l : List ByteArray} (h : l.Sublist namesL) : (bysL l).length ≤ 40 := by
 have hl : l.length ≤ 6 := by simpa [namesL] using h.length_le
 have hx : ∀ x ∈ l, x.data.toList.length ≤ 4 := fun x hx => namesL_sz x (h.subset hx)
 have hr : ∀ l : List ByteArray, (∀ x ∈ l, x.data.toList.length ≤ 4) → (bysR l).length ≤ 5 * l.length + 1 := by
  intro l
  induction l with
  | nil => intro _; simp [bysR]
  | cons x l ih =>
   intro hm
   have h1 := hm x (by simp)
   have h2 := ih fun y hy => hm y (by simp [hy])
   rw [bysR]
   simp only [List.length_append, List.length_cons]
   omega
 cases l with
 | nil => simp [bysL]
 | cons x xs =>
  have h1 := hx x (by simp)
  have h2 := hr xs fun y hy => hx y (by simp [hy])
  rw [bysL]
  simp only [List.length_append, List.length_cons, List.length_nil] at hl ⊢
  omega
theorem fun_sz (k : Nat) : (funcsT.getD k []).length ≤ 8 := by
 rw [List.getD_eq_getElem?_getD]
 match k with
 | 0 => decide
 | 1 => decide
 | 2 => decide
 | 3 => decide
 | 4 => decide
 | 5 => decide
 | 6 => decide
 | 7 => decide
 | n + 8 => simp [funcsT]
theorem gnode_len {ns : List ByteArray} {most : Int} (hn : NamesOk ns) (hm : most ≤ 4096) {d : Nd} {n : Nat} (h : GoodN ns most d n) : (d.kind = 0 → (numL d.num d.den).length ≤ 160) ∧ (d.kind = 1 → (selL d).length ≤ 160) ∧ (d.kind = 2 → (grpL d).length ≤ 90) ∧ (d.kind = 0 → natE d.num d.den = true) := by
 cases h with
 | num x hx =>
  have hz : natE x 1 = true := by
   unfold numsL at hx
   unfold natE
   simp only [List.mem_cons, List.not_mem_nil, or_false] at hx
   simp only [Bool.and_eq_true, decide_eq_true_eq, beq_self_eq_true, true_and]
   omega
  refine ⟨fun _ => ?_, fun h => by simp at h, fun h => by simp at h, fun _ => hz⟩
  have hb : 0 ≤ x ∧ x ≤ 1073741824 := by unfold natE at hz; simpa using hz
  unfold numL
  simp only
  rw [if_pos hz]
  have := itoa_sz x (by omega) (by omega)
  omega
 | sel fn win off k nm ms h1 h2 hnm ho ho2 hw hk hl hms =>
  refine ⟨fun h => by simp at h, fun _ => ?_, fun h => by simp at h, fun h => by simp at h⟩
  have z1 := (hn nm hnm).2.2
  rw [← data_size] at z1
  have z2 := gmats_len hms hl
  have z3 := fun_sz fn.toNat
  have z4 : (Lib.itoa off).length ≤ 21 := itoa_sz off (by omega) (by omega)
  have z5 : (Lib.itoa win).length ≤ 21 := itoa_sz win (by omega) (by omega)
  have z6 : (Lib.itoa k).length ≤ 21 := itoa_sz k (by omega) (by omega)
  unfold selL funL offL
  simp only [List.length_append]
  have z7 : (if fn = 0 then ([] : List UInt8) else 46 :: (funcsT.getD fn.toNat [] ++ (40 :: (Lib.itoa win ++ ((if fn = 7 then 44 :: Lib.itoa k else []) ++ [41]))))).length ≤ 60 := by
   split
   ·simp
   ·split <;> simp only [List.length_append, List.length_cons, List.length_nil] <;> omega
  have z8 : (if off = 0 then ([] : List UInt8) else 64 :: Lib.itoa off).length ≤ 22 := by
   split
   ·simp
   ·simp only [List.length_cons]; omega
  omega
 | grp fn k bys h1 h2 hk hb =>
  refine ⟨fun h => by simp at h, fun h => by simp at h, fun _ => ?_, fun h => by simp at h⟩
  have z1 := gbys_len hb
  have z2 := grpSz fn.toNat
  have z3 : (Lib.itoa k).length ≤ 21 := itoa_sz k (by omega) (by omega)
  unfold grpL
  simp only [List.length_append]
  have z7 : (if fn = 4 then 40 :: (Lib.itoa k ++ [41]) else if bys.isEmpty then ([] : List UInt8) else [32]).length ≤ 23 := by
   split
   ·simp only [List.length_append, List.length_cons, List.length_nil]; omega
   ·split <;> simp
  omega
 | bin fn h1 h2 => exact ⟨fun h => by simp at h, fun h => by simp at h, fun h => by simp at h, fun h => by simp at h⟩
theorem good_show {ns : List ByteArray} {most : Int} (hn : NamesOk ns) (hm : most ≤ 4096) {t : Tree} (h : GoodT ns most t) : (showT t).length ≤ 100 * nds t + 60 ∧ natT t = true := by
 induction h with
 | mk d ks hd hk ih =>
  have h1 := good_chk1 hd hn hm
  obtain ⟨n0, n1, n2, n3⟩ := gnode_len hn hm hd
  have hnat : natT (.node d ks) = true := by
   rw [natT]
   have a : (!(d.kind == 0) || natE d.num d.den) = true := by
    by_cases h0 : d.kind = 0
    ·rw [n3 h0]; simp
    ·simp [h0]
   rw [a, Bool.true_and]
   clear hd h1 hk n0 n1 n2 n3 a
   induction ks with
   | nil => rfl
   | cons x xs ihx => rw [natL, (ih x (by simp)).2, ihx fun t ht => ih t (by simp [ht])]; rfl
  refine ⟨?_, hnat⟩
  rw [showT, nds]
  unfold joinN
  rcases shape_cases (chk1_all h1).1 with hk' | hk' | hk' | hk'
  ·rw [if_pos hk'.1]; have := n0 hk'.1; omega
  ·rw [if_neg (by omega), if_pos hk'.1]; have := n1 hk'.1; omega
  ·rw [if_neg (by omega), if_neg (by omega), if_pos hk'.1]
   match ks, hk'.2.1 with
   | [t], _ =>
    have := (ih t (by simp)).1
    have h3 := n2 hk'.1
    simp only [showL, ndsL, List.headD_cons, List.length_append, List.length_cons, List.length_nil]
    omega
  ·rw [if_neg (by omega), if_neg (by omega), if_neg (by omega)]
   match ks, hk'.2.1 with
   | [a, b], _ =>
    have i1 := (ih a (by simp)).1
    have i2 := (ih b (by simp)).1
    have e1 := encl_len (decide (precT a.d < precT d)) (showT a)
    have e2 := encl_len (decide (precT b.d ≤ precT d)) (showT b)
    have o1 := oprSz d.fn.toNat
    simp only [showL, ndsL, List.map_cons, List.map_nil, List.length_append]
    omega
/-- the generator's trees: printed and parsed back -/
theorem good_round {ns : List ByteArray} {most : Int} (hn : NamesOk ns) (hm : most ≤ 4096) {t : Tree} (h : GoodT ns most t) (h1 : dep t ≤ 12) (h2 : nds t ≤ 19) : printT t = (showT t, 0) ∧ parseT (showT t) = (t, 0, 0) ∧ (showT t).length ≤ 2000 := by
 obtain ⟨g1, g2⟩ := good_show hn hm h
 have hl : (showT t).length ≤ 2000 := by omega
 have hf : fitB t = true := by unfold fitB; simp only [Bool.and_eq_true, decide_eq_true_eq]; omega
 refine ⟨?_, parse_print (good_chk hn hm h) g2 hl hf, hl⟩
 unfold printT
 rw [if_pos (good_valid hn hm h h1 (by omega)), if_neg (by rw [prt_nat t g2]; simp), if_neg (by omega)]
end
end Go.Proofs.YtkdojgkiclndfaaGreatDoor
