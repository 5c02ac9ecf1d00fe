/- Contracts, packed: Ab. -/
import Derived.Test.YtpgdijbfkahepaaGreatDoorPd30
import Derived.Test.YtpgdijbfkahepaaGreatDoorPd46
import Derived.WalkLawsBesides
set_option linter.unusedVariables false
set_option linter.unusedSimpArgs false
namespace Go.Proofs.YtpgdijbfkahepaaGreatDoor
section
open Go.RowKit FracM
section
variable {P : Program} (w : World)
/-- append onto nil of a slice that lies as cells, empty or not -/
theorem run_append_nil (t ty e : TypeId) (i : TypeInfo) (z : Value) (size bytes : Nat) (ht : P.underlying t = some (.slice e)) (hi : P.info? e = some i) (hz : i.zero = some z)
  (hsize : i.size = size) (hby : i.bytes = bytes) (hzs : z.cells.size = size) (hsz : 0 < size) (A : Option Addr) (m c : Nat) (news : List Value) {Q : Nat → Nat → Prop} (h : SeqP w Q size (.slice A m c) m news) (h1 : ∀ u ∈ news, u.oneCell' = true) (hm : m * bytes ≤ 140737488355328) :
  ∃ v' w', (Builtin.append_ #[t, t] ty #[.slice none 0 0, .slice A m c]).run P w = .ok v' w' ∧ w'.ownsRow w.heap.size e size v' m news ∧ Below w.heap.size w w' := by
 obtain ⟨hl, A', c', hv, hn, hc, hx⟩ := h
 cases hv
 cases A with
 | none =>
  have hm0 : m = 0 := by
   rcases Nat.eq_zero_or_pos m with h0 | h0
   ·exact h0
   ·obtain ⟨b, off, hA, -⟩ := hx h0; cases hA
  subst hm0
  obtain rfl : news = [] := List.eq_nil_of_length_eq_zero (by simpa using hl)
  exact ⟨.slice none 0 0, w, by simp [Builtin.append_, run_underlying ht, sizeOf, typeInfo, hi, Builtin.lenOf, Builtin.firstCells], World.ownsRow_nil _ _ _ _, Below.refl _ _⟩
 | some ad =>
  have hcells : ∀ j u, news[j]? = some u → w.cell? (ad.add j) = some u := by
   intro j u hu
   rcases Nat.eq_zero_or_pos m with h0 | h0
   ·subst h0
    obtain rfl : news = [] := List.eq_nil_of_length_eq_zero (by simpa using hl)
    simp at hu
   ·obtain ⟨b, off, hA, -, -, hcl⟩ := hx h0
    cases hA
    rw [Addr.add_lit]
    exact hcl j u hu
  obtain ⟨v', w', hrun, r1, r2, _⟩ := run_append_own (P := P) w w.heap.size t ty e i z size bytes ht hi hz hsize hby hzs hsz (.slice none 0 0) 0 [] (World.ownsRow_nil w _ e size) ad m c news hl hcells h1 (by omega) (by simpa using hm) (Nat.le_refl _)
  exact ⟨v', w', hrun, by simpa using r1, ((Below.refl _ w)).grown r2 (Nat.le_refl _) (by simp [Value.ownBlock])⟩
theorem wp_append_nil {o : Oper} {a : Act} {K : Act → World → Prop} {Q : Exit → Act → World → Prop} (s x : Operand) (t : TypeId)
  (ho : o.op = .call { callee := .builtin .append, args := #[s, x], argTypes := #[t, t] })
  (e : TypeId) (i : TypeInfo) (z : Value) (size bytes : Nat) (ht : P.underlying t = some (.slice e)) (hi : P.info? e = some i) (hz : i.zero = some z)
  (hsize : i.size = size) (hby : i.bytes = bytes) (hzs : z.cells.size = size) (hsz : 0 < size) (A : Option Addr) (m c : Nat) (news : List Value) {R : Nat → Nat → Prop} (hs : a.eval s = .slice none 0 0) (hx : a.eval x = .slice A m c) (hr : SeqP w R size (.slice A m c) m news) (h1 : ∀ u ∈ news, u.oneCell' = true) (hm : m * bytes ≤ 140737488355328)
  (h : ∀ v' w', w'.ownsRow w.heap.size e size v' m news → Below w.heap.size w w' → K (a.put o.dst v') w') : o.wp P a w K Q := by
 obtain ⟨v', w', hrun, h2, h3⟩ := run_append_nil (P := P) w t o.type e i z size bytes ht hi hz hsize hby hzs hsz A m c news hr h1 hm
 unfold Oper.wp execOp
 simp only [ho, resolve, invoke, builtin, Sem.run_bind, Sem.run_pure, Result.andThen_ok, List.map_toArray, List.map_cons, List.map_nil, hs, hx, hrun]
 exact h v' w' h2 h3
end
mutual
theorem dep_nds : ∀ t, dep t ≤ nds t
 | .node d ks => by rw [dep, nds]; have := depL_ndsL ks; omega
theorem depL_ndsL : ∀ l, depL l ≤ ndsL l
 | [] => by rw [depL, ndsL]; exact Nat.le_refl _
 | t :: ts => by rw [depL, ndsL]; have := dep_nds t; have := depL_ndsL ts; omega
end
theorem stack_nds {l : List Nd} {t : Tree} (h : stackM l [] = some [t]) : nds t = l.length := by
 have := stackM_back l [] [t] h
 rw [← postT_len]
 have h2 : postL [t] = postT t := by rw [postL, postL, List.append_nil]
 rw [← h2, this]; rfl
theorem TrE.mk2 {w U W : World} {pv : Value} {l : List Nd} {v : Value} {st : List Tree} {cs : List Sl} {d : Nd} {q p eb : Nat} {mv bv kv : Value} (h : TrS w U pv l v st cs) (hb : Below U.heap.size U W) (hd : NdOk d) (hq : st.length = q + p)
  (h1 : SeqP W (fun b _ => b < w.heap.size) 3 mv d.ms.length (d.ms.flatMap matCells)) (h2 : SeqP W (fun b _ => b < w.heap.size) 1 bv d.bys.length (d.bys.map Value.string)) (h3 : SeqP W (fun b _ => U.heap.size ≤ b) 11 kv p (((st.drop q).zip (cs.drop q)).flatMap ndL))
  (he : Blk W eb 35 (ndC d mv bv kv)) (hle : U.heap.size ≤ eb) : TrE w W pv l v st cs d q eb mv bv kv := by
 have hown : ∀ b, U.heap.size ≤ b → b ≠ w.heap.size ∧ v.ownBlock ≠ some b := fun b hb => ⟨by have := h.z.lt; omega, fun e => by have := (own_bk h.stk.own b e).2; omega⟩
 have hlow : ∀ b, b < w.heap.size → b ≠ w.heap.size ∧ v.ownBlock ≠ some b := fun b hb => ⟨by omega, fun e => by have := (own_bk h.stk.own b e).1; omega⟩
 refine ⟨h.next hb, he, ?_, (hown eb hle).2⟩
 refine StackC.node (h.stk.keep hb) q (by omega) hd (h1.mono fun b _ _ h => hlow b h) (h2.mono fun b _ _ h => hlow b h) ?_
 rw [show st.length - q = p by omega]
 exact h3.mono fun b _ _ h => hown b h
set_option maxHeartbeats 8000000 in
set_option maxRecDepth 100000 in
theorem rtree_big (l : List Nd) (pv : Value) (w : World) (hp : PlanP w AnyP pv l) (hl : 200 < l.length) : Calls Tryz.prog 36 #[pv] w (RetTr (treeM l) w) := by
 obtain ⟨A, c, rfl, -⟩ := hp.form
 have HTM : Box (treeM l = (zeroT, 4)) := ⟨by unfold treeM; rw [if_pos hl]⟩
 have hl2 : (200 : Int) < (l.length : Int) := by omega
 have H0 : Box (TrS w (w.alloc (.cells zeroC 35)) (.slice A l.length c) l (.slice none 0 0) [] []) := ⟨bel1 _ _, Blk.new _ _ _, (hp.mono (Q := fun b _ => b < w.heap.size) fun _ _ hb _ => hb).belo (bel1 _ _), StackC.nil _ _ _⟩
 clear hp
 go_enter Tryz.func36, Tryz.ntmps36
 go_upto_region 1 with (fail)
 generalize w.alloc (.cells zeroC 35) = W at H0 ⊢
 obtain ⟨z0, z1, z2, z3, z4, z5, z6, z7, z8, z9, z10⟩ := blk11z (d := zNd) H0.out.z
 have zf := H0.out.z.frozen
 go_wp2_with fail
 have HF : Box (Blk (put11 W w.heap.size (.int .i64 0) (.int .i64 0) (.int .i64 0) (.int .i64 0) (.int .i64 0) (.int .i64 0) (.int .i64 0) (.string ⟨#[]⟩) (.slice none 0 0) (.slice none 0 0) (.slice none 0 0)) w.heap.size 35 zeroC ∧ Below w.heap.size w (put11 W w.heap.size (.int .i64 0) (.int .i64 0) (.int .i64 0) (.int .i64 0) (.int .i64 0) (.int .i64 0) (.int .i64 0) (.string ⟨#[]⟩) (.slice none 0 0) (.slice none 0 0) (.slice none 0 0))) := ⟨put11_blk H0.out.z, H0.out.below.trans (put11_below (Nat.le_refl _) ..)⟩
 show bodyPost _ _ _ _ _ (put11 W w.heap.size (.int .i64 0) (.int .i64 0) (.int .i64 0) (.int .i64 0) (.int .i64 0) (.int .i64 0) (.int .i64 0) (.string ⟨#[]⟩) (.slice none 0 0) (.slice none 0 0) (.slice none 0 0))
 generalize (put11 W w.heap.size (.int .i64 0) (.int .i64 0) (.int .i64 0) (.int .i64 0) (.int .i64 0) (.int .i64 0) (.int .i64 0) (.string ⟨#[]⟩) (.slice none 0 0) (.slice none 0 0) (.slice none 0 0)) = WF at HF ⊢
 clear z0 z1 z2 z3 z4 z5 z6 z7 z8 z9 z10 zf
 obtain ⟨e0, e1, e2, e3, e4, e5, e6, e7, e8, e9, e10⟩ := blk11z (d := zNd) HF.out.1
 have ef := HF.out.1.frozen
 refine bodyPost_ret (v := .tuple #[.agg zeroC, .int .i64 4]) (by simp [results, Tryz.results36, go_sem, e0, e1, e2, e3, e4, e5, e6, e7, e8, e9, e10, ef]) rfl ?_
 exact ⟨nilV, nilV, nilV, by rw [HTM.out]; rfl, by rw [HTM.out]; exact zero_tree _ _, HF.out.2⟩
set_option maxHeartbeats 8000000 in
set_option maxRecDepth 100000 in
theorem rtree_small (l : List Nd) (pv : Value) (w : World) (hp : PlanP w AnyP pv l) (hl : l.length ≤ 200) : Calls Tryz.prog 36 #[pv] w (RetTr (treeM l) w) := by
 obtain ⟨A, c, rfl, -⟩ := hp.form
 have hl2 : ¬ (200 : Int) < (l.length : Int) := by omega
 have H0 : Box (TrS w (w.alloc (.cells zeroC 35)) (.slice A l.length c) l (.slice none 0 0) [] []) := ⟨bel1 _ _, Blk.new _ _ _, (hp.mono (Q := fun b _ => b < w.heap.size) fun _ _ hb _ => hb).belo (bel1 _ _), StackC.nil _ _ _⟩
 clear hp
 obtain ⟨j0, hi, hz0, hz1, hz2⟩ := info_parts exprInfoC
 have HJ := Box.mk (And.intro hi (And.intro hz0 (And.intro hz1 hz2)))
 clear hi hz0 hz1 hz2
 go_enter Tryz.func36, Tryz.ntmps36
 go_upto_region 1 with (fail)
 generalize w.alloc (.cells zeroC 35) = W at H0 ⊢
 go_wp2_with fail
 go_loopw [4, 5] (fun s v wr => ∃ (k : Nat) (st : List Tree) (cs : List Sl), k ≤ l.length ∧ v = .int .i64 (k : Nat) ∧ Box (stackM l [] = stackM (l.drop k) st ∧ st.length ≤ k) ∧ Box (TrS w wr (.slice A l.length c) l s st cs)) (fun _ v _ => l.length - (intOf v).toNat)
 case atStart => exact ⟨0, [], [], by omega, rfl, ⟨by rw [List.drop_zero], by simp⟩, H0⟩
 case round =>
  clear H0
  obtain ⟨k, st, cs, hk, rfl, HM, HS⟩ := hrel
  obtain ⟨AS, sc, rfl, hsc1, hsc2, hsc3⟩ := HS.out.stk.form
  have hstl := HM.out.2
  by_cases hlt : k < l.length
  ·obtain ⟨d, hd⟩ : ∃ d, l[k]? = some d := ⟨l[k], List.getElem?_eq_getElem _⟩
   have HDR : Box (l.drop k = d :: l.drop (k + 1)) := ⟨by rw [List.drop_eq_getElem_cons hlt]; congr 1; exact (List.getElem?_eq_some_iff.1 hd).2⟩
   obtain ⟨pb, po, mv, bv, rfl, plt, -, ⟨k0, k1, k2, k3, k4, k5, k6, k7, k8, k9⟩, hx⟩ := HS.out.pl.at_ k d hd
   obtain ⟨X1, x1, rfl, -⟩ := hx.ms.form
   obtain ⟨X2, x2, rfl, -⟩ := hx.bys.form
   have HX := Box.mk hx
   have hlt2 : (k : Int) < (l.length : Int) := by omega
   have hk0 : (0 : Int) ≤ (k : Int) := by omega
   clear hx hd
   go_wp2_with fail
   (with_reducible refine (rnode_any d X1 X2 d.ms.length x1 d.bys.length x2 _).mono ?_)
   rintro e6 w6 ⟨rfl, hb6⟩
   have HU : Box (Below wr.heap.size wr (w6.alloc (.cells (ndC d (.slice X1 d.ms.length x1) (.slice X2 d.bys.length x2) (.slice none 0 0)) 35)) ∧ wr.heap.size ≤ w6.heap.size) := ⟨bthen hb6 (bel1 _ _) (Nat.le_refl _), hb6.size⟩
   have HEB : Box (Blk (w6.alloc (.cells (ndC d (.slice X1 d.ms.length x1) (.slice X2 d.bys.length x2) (.slice none 0 0)) 35)) w6.heap.size 35 (ndC d (.slice X1 d.ms.length x1) (.slice X2 d.bys.length x2) (.slice none 0 0)) ∧ InsAt (w6.alloc (.cells (ndC d (.slice X1 d.ms.length x1) (.slice X2 d.bys.length x2) (.slice none 0 0)) 35)) (fun b _ => b < w.heap.size) d (.slice X1 d.ms.length x1) (.slice X2 d.bys.length x2) ∧ TrS w (w6.alloc (.cells (ndC d (.slice X1 d.ms.length x1) (.slice X2 d.bys.length x2) (.slice none 0 0)) 35)) (.slice (some ⟨pb, po, none⟩) l.length c) l (.slice AS st.length sc) st cs) := ⟨Blk.new _ _ _, HX.out.belo (bthen hb6 (bel1 _ _) (Nat.le_refl _)), HS.out.next (bthen hb6 (bel1 _ _) (Nat.le_refl _))⟩
   clear hb6 HX k0 k1 k2 k3 k4 k5 k6 k7 k8 k9 plt
   go_upto_region 8 with (fail)
   have hzz : w6.heap.size < (w6.alloc (.cells (ndC d (.slice X1 d.ms.length x1) (.slice X2 d.bys.length x2) (.slice none 0 0)) 35)).heap.size := by simp
   obtain ⟨eb, heb⟩ : ∃ g, w6.heap.size = g := ⟨_, rfl⟩
   rw [heb] at HEB HU hzz ⊢
   clear heb
   generalize w6.alloc (.cells (ndC d (.slice X1 d.ms.length x1) (.slice X2 d.bys.length x2) (.slice none 0 0)) 35) = W1 at HEB HU hzz ⊢
   obtain ⟨AS2, sc2, hsf, hsc1, hsc2, hsc3⟩ := HEB.out.2.2.stk.form
   cases hsf
   have hkk := (blk11z HEB.out.1).1
   by_cases hkd : 0 ≤ d.kind ∧ d.kind ≤ 3
   ·obtain ⟨hk1, hk2⟩ := hkd
    have HMX : Box (max 0 (d.kind - 1) = (popsN d.kind : Int)) := ⟨by unfold popsN; split <;> (try split) <;> omega⟩
    obtain ⟨p, hpp⟩ : ∃ p, popsN d.kind = p := ⟨_, rfl⟩
    have HP := Box.mk hpp
    have hp2 : p ≤ 2 := by rw [← hpp]; exact popsN_le _
    rw [hpp] at HMX
    clear hpp
    have hmx := HMX.out
    have hq1 : ¬ d.kind < 0 := by omega
    have hq2 : ¬ 3 < d.kind := by omega
    by_cases hfew : p ≤ st.length
    ·have HSTEP : Box (stackM (l.drop k) st = stackM (l.drop (k + 1)) (st.take (st.length - p) ++ [.node d (st.drop (st.length - p))])) := ⟨by rw [HDR.out, stack_step ⟨hk1, hk2⟩ (by rw [HP.out]; exact hfew), HP.out]⟩
     obtain ⟨q, hq⟩ : ∃ q, q = st.length - p := ⟨_, rfl⟩
     have HQ : Box (st.length = q + p ∧ q = st.length - p) := ⟨by omega, hq⟩
     obtain ⟨A2, c2, hs1, hs2⟩ := stack_top HEB.out.2.2.stk q (by omega)
     rw [show st.length - q = p by omega] at hs1 hs2
     have HKS := Box.mk hs2
     have hsub : (st.length : Int) - (p : Int) = (q : Int) := by omega
     have hg1 : ¬ (st.length : Int) < (p : Int) := by omega
     have hg3 : st.length ≤ 200 := by omega
     rw [← HQ.out.2] at HSTEP
     have HONE := Box.mk (stack_one HEB.out.2.2.stk q)
     have HK10 : Box (W1.drew.cell? ⟨eb, 10, none⟩ = some (.slice none 0 0)) := ⟨(blk11z (W := W1.drew) HEB.out.1).2.2.2.2.2.2.2.2.2.2⟩
     clear hq hs2 hsc3 hlt2 hk0
     go_upto_region 12 with (fail)
     refine wp_region_T (S := (fun w' : World => w'.cell? ⟨eb, 10, none⟩ = some (.slice none 0 0))) 7 (by kernel_rfl) (by exact HK10.out) (fun hHeld => ?_)
     refine wpAnyT_take (i := 0) (v := ?_) rfl (by kernel_rfl) (by kernel_rfl) (by kernel_rfl) (fun _ _ _ h => h) (by kernel_rfl) (by decide) (Or.inl ⟨by rfl, ?_⟩) (by assumption) ?_
     rotate_left
     ·(intro wq hSw; (try dsimp only at hSw); go_simp)
      all_goals with_reducible rfl
     (try simp only [List.getElem_toArray, List.getElem_cons_zero, List.getElem_cons_succ, Act.put, List.setIfInBounds_toArray, List.set_cons_zero, List.set_cons_succ])
     refine wpAnyT_take (i := 1) (v := ?_) rfl (by kernel_rfl) (by kernel_rfl) (by kernel_rfl) (fun _ _ _ h => h) (by kernel_rfl) (by decide) (Or.inl ⟨by rfl, ?_⟩) (by assumption) ?_
     rotate_left
     ·(intro wq hSw; (try dsimp only at hSw); go_simp)
      all_goals with_reducible rfl
     (try simp only [List.getElem_toArray, List.getElem_cons_zero, List.getElem_cons_succ, Act.put, List.setIfInBounds_toArray, List.set_cons_zero, List.set_cons_succ])
     refine wpAnyT_take (i := 2) (v := ?_) rfl (by kernel_rfl) (by kernel_rfl) (by kernel_rfl) (fun _ _ _ h => h) (by kernel_rfl) (by decide) (Or.inl ⟨by rfl, ?_⟩) (by assumption) ?_
     rotate_left
     ·(intro wq hSw; (try dsimp only at hSw); go_simp)
      all_goals with_reducible rfl
     (try simp only [List.getElem_toArray, List.getElem_cons_zero, List.getElem_cons_succ, Act.put, List.setIfInBounds_toArray, List.set_cons_zero, List.set_cons_succ])
     refine wpAnyT_take (i := 3) (v := ?_) rfl (by kernel_rfl) (by kernel_rfl) (by kernel_rfl) (fun _ _ _ h => h) (by kernel_rfl) (by decide) (Or.inl ⟨by rfl, ?_⟩) (by assumption) ?_
     rotate_left
     ·(intro wq hSw; (try dsimp only at hSw); go_simp)
      all_goals with_reducible rfl
     (try simp only [List.getElem_toArray, List.getElem_cons_zero, List.getElem_cons_succ, Act.put, List.setIfInBounds_toArray, List.set_cons_zero, List.set_cons_succ])
     refine wpAnyT_take (i := 4) (v := ?_) rfl (by kernel_rfl) (by kernel_rfl) (by kernel_rfl) (fun _ _ _ h => h) (by kernel_rfl) (by decide) (Or.inl ⟨by rfl, ?_⟩) (by assumption) ?_
     rotate_left
     ·(intro wq hSw; (try dsimp only at hSw); go_simp)
      all_goals with_reducible rfl
     (try simp only [List.getElem_toArray, List.getElem_cons_zero, List.getElem_cons_succ, Act.put, List.setIfInBounds_toArray, List.set_cons_zero, List.set_cons_succ])
     refine wpAnyT_one 5 (by kernel_rfl) rfl (fun K' hK' => ?_)
     (try rw [if_pos (by rfl)])
     refine wp_append_nil _ _ _ 33 (by rfl) 35 j0 _ 11 144 Tryz.underlying33 HJ.out.1 HJ.out.2.1 HJ.out.2.2.1 HJ.out.2.2.2 rfl (by decide) A2 p c2 (((st.drop q).zip (cs.drop q)).flatMap ndL) (R := AnyP) (by rfl) (by rfl) (HKS.out.keep (Agree.of_below (bd1 W1))) HONE.out (by omega) ?_
     intro v9 w9 hown9 hb9
     obtain ⟨E3, e3, rfl⟩ := own_form hown9
     have HB9 : Box (Below W1.heap.size W1 w9) := ⟨(bd1 W1).trans hb9⟩
     have HO9 : Box (w9.ownsRow W1.heap.size 35 11 (.slice E3 p e3) p (((st.drop q).zip (cs.drop q)).flatMap ndL)) := ⟨hown9⟩
     have HE9 : Box (Blk w9 eb 35 (ndC d (.slice X1 d.ms.length x1) (.slice X2 d.bys.length x2) (.slice none 0 0))) := ⟨HEB.out.1.below HB9.out⟩
     have k10 := (blk11z HE9.out).2.2.2.2.2.2.2.2.2.2
     have kf := HE9.out.frozen 10
     clear hown9 hb9
     refine hK'.out _ _ (fun _ => k10) (fun hHq => ?_)
     clear hHeld
     have hHeld := hHq (by decide)
     clear hHq hK' K'
     (try simp only [List.getElem_toArray, List.getElem_cons_zero, List.getElem_cons_succ, Act.put, List.setIfInBounds_toArray, List.set_cons_zero, List.set_cons_succ])
     refine wpAnyT_take (i := 6) (v := ?_) rfl (by kernel_rfl) (by kernel_rfl) (by kernel_rfl) (fun _ _ _ h => h) (by kernel_rfl) (by decide) (Or.inl ⟨by rfl, ?_⟩) (by assumption) ?_
     rotate_left
     ·(intro wq hSw; (try dsimp only at hSw); go_simp)
      all_goals with_reducible rfl
     (try simp only [List.getElem_toArray, List.getElem_cons_zero, List.getElem_cons_succ, Act.put, List.setIfInBounds_toArray, List.set_cons_zero, List.set_cons_succ])
     refine wpAnyT_one 7 (by kernel_rfl) rfl (fun K' hK' => ?_)
     (try rw [if_pos (by rfl)])
     go_simp
     refine hK'.out _ _ (fun h => absurd rfl h) (fun _ => ?_)
     clear hHeld hK' K'
     (try simp only [List.getElem_toArray, List.getElem_cons_zero, List.getElem_cons_succ, Act.put, List.setIfInBounds_toArray, List.set_cons_zero, List.set_cons_succ])
     refine wpAnyT_done (by kernel_rfl) ?_ _
     have hqs : q ≤ st.length := by have := HQ.out.1; omega
     have hb19 : Below eb W1 (w9.setCell ⟨eb, 10, none⟩ (.slice E3 p e3)) := ((HB9.out).mono (show eb ≤ W1.heap.size from Nat.le_of_lt hzz)).setCell (p := ⟨eb, 10, none⟩) (Nat.le_refl _) _
     have hwz := HS.out.below.size
     have hez := HU.out.2
     have HE : Box (TrE w (w9.setCell ⟨eb, 10, none⟩ (.slice E3 p e3)) (.slice (some ⟨pb, po, none⟩) l.length c) l (.slice AS st.length sc) st cs d q eb (.slice X1 d.ms.length x1) (.slice X2 d.bys.length x2) (.slice E3 p e3)) :=
      ⟨TrE.mk2 HS.out ((bthen HU.out.1 HB9.out (Nat.le_refl _)).setCell (p := ⟨eb, 10, none⟩) hez _) HEB.out.2.1.ok HQ.out.1 (HEB.out.2.1.ms.keep (Agree.of_lt hb19 fun b _ h => by omega)) (HEB.out.2.1.bys.keep (Agree.of_lt hb19 fun b _ h => by omega))
       (((SeqP.of_own (P := fun b _ => W1.heap.size ≤ b) HO9.out fun b _ hb _ => hb).keep (Agree.of_only (Only.setCell (g := eb) 10 _) fun b _ h => Nat.ne_of_gt (Nat.lt_of_lt_of_le hzz h))).mono fun b _ _ h => Nat.le_trans HU.out.1.size h) (by simpa using HE9.out.set 10 (.slice E3 p e3)) hez⟩
     clear hb19 k10 kf hwz
     generalize w9.setCell ⟨eb, 10, none⟩ (.slice E3 p e3) = wd at HE ⊢
     have HKE : Box (At11z wd.drew eb d (.slice X1 d.ms.length x1) (.slice X2 d.bys.length x2) (.slice E3 p e3)) := ⟨blk11z (W := wd.drew) HE.out.e⟩
     have HKE2 : Box (At11z wd eb d (.slice X1 d.ms.length x1) (.slice X2 d.bys.length x2) (.slice E3 p e3)) := ⟨blk11z HE.out.e⟩
     have HLE : Box (eb < wd.heap.size) := ⟨HE.out.e.lt⟩
     have HOWN : Box ((wd.alloc (.cells (ndC d (.slice X1 d.ms.length x1) (.slice X2 d.bys.length x2) (.slice E3 p e3)) 35)).drew.ownsRow (w.heap.size + 1) 35 11 (.slice AS q sc) q (((st.take q).zip (cs.take q)).flatMap ndL)) := ⟨by have h := (HE.out.s.stk.take q hqs rfl).own; rw [List.length_take, Nat.min_eq_left hqs] at h; exact own_below h (bad1 wd _)⟩
     have HNEW : Box (∀ (j : Nat) (u : Value), (ndL (.node d (st.drop q), .slice X1 d.ms.length x1, .slice X2 d.bys.length x2, .slice E3 p e3))[j]? = some u → (wd.alloc (.cells (ndC d (.slice X1 d.ms.length x1) (.slice X2 d.bys.length x2) (.slice E3 p e3)) 35)).drew.cell? ((⟨wd.heap.size, 0, none⟩ : Addr).add j) = some u) := ⟨World.news_of_block (show Blk (wd.alloc (.cells (ndC d (.slice X1 d.ms.length x1) (.slice X2 d.bys.length x2) (.slice E3 p e3)) 35)).drew wd.heap.size 35 (ndC d (.slice X1 d.ms.length x1) (.slice X2 d.bys.length x2) (.slice E3 p e3)) from Blk.new wd _ _)⟩
     have HONE2 := Box.mk (nd_one HE.out.t)
     have hzw := HE.out.s.below.size
     have hzl := HE.out.s.z.lt
     have HB0 := Box.mk (stack_bot AS st.length sc q (by omega) hsc2)
     have hb0 := HB0.out
     clear hs1 HK10 HKS HEB HU HO9 HE9 HB9 HS
     go_wp2_with fail
     go_region_held3 (fun w' : World => w'.cell? ⟨eb, 0, none⟩ = some (.int .i64 d.kind) ∧ w'.cell? ⟨eb, 1, none⟩ = some (.int .i64 d.fn) ∧ w'.cell? ⟨eb, 2, none⟩ = some (.int .i64 d.win) ∧ w'.cell? ⟨eb, 3, none⟩ = some (.int .i64 d.off) ∧ w'.cell? ⟨eb, 4, none⟩ = some (.int .i64 d.k) ∧ w'.cell? ⟨eb, 5, none⟩ = some (.int .i64 d.num) ∧ w'.cell? ⟨eb, 6, none⟩ = some (.int .i64 d.den) ∧ w'.cell? ⟨eb, 7, none⟩ = some (.string d.name) ∧ w'.cell? ⟨eb, 8, none⟩ = some (.slice X1 d.ms.length x1) ∧ w'.cell? ⟨eb, 9, none⟩ = some (.slice X2 d.bys.length x2) ∧ w'.cell? ⟨eb, 10, none⟩ = some (.slice E3 p e3)) (first | with_reducible exact HKE.out | with_reducible exact at11_allocd _ HKE2.out HLE.out | with_reducible exact HKE9.out)
      ((refine step_append_lies _ (by rfl) _ _ 33 (by rfl) (w.heap.size + 1) 35 j0 _ 11 144 Tryz.underlying33 HJ.out.1 HJ.out.2.1 HJ.out.2.2.1 HJ.out.2.2.2 rfl (by decide) (.slice AS q sc) q (((st.take q).zip (cs.take q)).flatMap ndL) (by rfl) HOWN.out ⟨wd.heap.size, 0, none⟩ 1 1 (ndL (.node d (st.drop q), .slice X1 d.ms.length x1, .slice X2 d.bys.length x2, .slice E3 p e3)) (by rfl) rfl HNEW.out HONE2.out (by omega) (by unfold maxLen; omega) (by omega) (by rw [szd]; omega) (wd.heap.size + 1) (szd _ _) ?_; intro g9 cap9 w9 hown9 hgr9 hat9 hlt9; have HS9 := Box.mk (HE.out.push hqs hown9 hgr9 hat9); have HKE9 : Box (At11z w9 eb d (.slice X1 d.ms.length x1) (.slice X2 d.bys.length x2) (.slice E3 p e3)) := ⟨at11_sub HKE2.out fun o => World.cell?_of_block (a := ⟨eb, o, none⟩) ((hgr9.block eb (by rw [szd]; have := HLE.out; omega) (fun e => HE.out.ne (by cases AS <;> exact e.symm))).trans ((bad1 wd _).block eb HLE.out))⟩; clear hown9 hgr9 hat9 hlt9))
     go_wp2_with fail
     go_roundw
     case rel => exact ⟨k + 1, st.take q ++ [.node d (st.drop q)], cs.take q ++ [(.slice X1 d.ms.length x1, .slice X2 d.bys.length x2, .slice E3 p e3)], by omega, by go_num, ⟨by rw [HM.out.1, HSTEP.out], by rw [List.length_append, List.length_take]; simp only [List.length_cons, List.length_nil]; omega⟩, HS9⟩
     case measure => simp [intOf]; omega
    ·have HTM : Box (treeM l = (zeroT, 1)) := ⟨tree_bad hl (by rw [HM.out.1, HDR.out]; exact stack_bad (fun h => hfew (by rw [← HP.out]; exact h.2)))⟩
     have hg1 : (st.length : Int) < (p : Int) := by omega
     clear hfew
     obtain ⟨z0, z1, z2, z3, z4, z5, z6, z7, z8, z9, z10⟩ := blk11z (d := zNd) HEB.out.2.2.z
     have zf := HEB.out.2.2.z.frozen
     go_wp2_with fail
     have HF : Box (Blk (put11 W1 w.heap.size (.int .i64 0) (.int .i64 0) (.int .i64 0) (.int .i64 0) (.int .i64 0) (.int .i64 0) (.int .i64 0) (.string ⟨#[]⟩) (.slice none 0 0) (.slice none 0 0) (.slice none 0 0)) w.heap.size 35 zeroC ∧ Below w.heap.size w (put11 W1 w.heap.size (.int .i64 0) (.int .i64 0) (.int .i64 0) (.int .i64 0) (.int .i64 0) (.int .i64 0) (.int .i64 0) (.string ⟨#[]⟩) (.slice none 0 0) (.slice none 0 0) (.slice none 0 0))) := ⟨put11_blk HEB.out.2.2.z, HEB.out.2.2.below.trans (put11_below (Nat.le_refl _) ..)⟩
     show bodyPost _ _ _ _ _ (put11 W1 w.heap.size (.int .i64 0) (.int .i64 0) (.int .i64 0) (.int .i64 0) (.int .i64 0) (.int .i64 0) (.int .i64 0) (.string ⟨#[]⟩) (.slice none 0 0) (.slice none 0 0) (.slice none 0 0))
     generalize (put11 W1 w.heap.size (.int .i64 0) (.int .i64 0) (.int .i64 0) (.int .i64 0) (.int .i64 0) (.int .i64 0) (.int .i64 0) (.string ⟨#[]⟩) (.slice none 0 0) (.slice none 0 0) (.slice none 0 0)) = WF at HF ⊢
     clear z0 z1 z2 z3 z4 z5 z6 z7 z8 z9 z10 zf
     obtain ⟨e0, e1, e2, e3, e4, e5, e6, e7, e8, e9, e10⟩ := blk11z (d := zNd) HF.out.1
     have ef := HF.out.1.frozen
     refine bodyPost_ret (v := .tuple #[.agg zeroC, .int .i64 1]) (by simp [results, Tryz.results36, go_sem, e0, e1, e2, e3, e4, e5, e6, e7, e8, e9, e10, ef]) rfl ?_
     exact ⟨nilV, nilV, nilV, by rw [HTM.out]; rfl, by rw [HTM.out]; exact zero_tree _ _, HF.out.2⟩
   ·have HTM : Box (treeM l = (zeroT, 1)) := ⟨tree_bad hl (by rw [HM.out.1, HDR.out]; exact stack_bad (fun h => hkd h.1))⟩
    obtain ⟨z0, z1, z2, z3, z4, z5, z6, z7, z8, z9, z10⟩ := blk11z (d := zNd) HEB.out.2.2.z
    have zf := HEB.out.2.2.z.frozen
    by_cases hq1 : d.kind < 0
    ·clear hkd
     go_wp2_with fail
     have HF : Box (Blk (put11 W1 w.heap.size (.int .i64 0) (.int .i64 0) (.int .i64 0) (.int .i64 0) (.int .i64 0) (.int .i64 0) (.int .i64 0) (.string ⟨#[]⟩) (.slice none 0 0) (.slice none 0 0) (.slice none 0 0)) w.heap.size 35 zeroC ∧ Below w.heap.size w (put11 W1 w.heap.size (.int .i64 0) (.int .i64 0) (.int .i64 0) (.int .i64 0) (.int .i64 0) (.int .i64 0) (.int .i64 0) (.string ⟨#[]⟩) (.slice none 0 0) (.slice none 0 0) (.slice none 0 0))) := ⟨put11_blk HEB.out.2.2.z, HEB.out.2.2.below.trans (put11_below (Nat.le_refl _) ..)⟩
     show bodyPost _ _ _ _ _ (put11 W1 w.heap.size (.int .i64 0) (.int .i64 0) (.int .i64 0) (.int .i64 0) (.int .i64 0) (.int .i64 0) (.int .i64 0) (.string ⟨#[]⟩) (.slice none 0 0) (.slice none 0 0) (.slice none 0 0))
     generalize (put11 W1 w.heap.size (.int .i64 0) (.int .i64 0) (.int .i64 0) (.int .i64 0) (.int .i64 0) (.int .i64 0) (.int .i64 0) (.string ⟨#[]⟩) (.slice none 0 0) (.slice none 0 0) (.slice none 0 0)) = WF at HF ⊢
     clear z0 z1 z2 z3 z4 z5 z6 z7 z8 z9 z10 zf
     obtain ⟨e0, e1, e2, e3, e4, e5, e6, e7, e8, e9, e10⟩ := blk11z (d := zNd) HF.out.1
     have ef := HF.out.1.frozen
     refine bodyPost_ret (v := .tuple #[.agg zeroC, .int .i64 1]) (by simp [results, Tryz.results36, go_sem, e0, e1, e2, e3, e4, e5, e6, e7, e8, e9, e10, ef]) rfl ?_
     exact ⟨nilV, nilV, nilV, by rw [HTM.out]; rfl, by rw [HTM.out]; exact zero_tree _ _, HF.out.2⟩
    ·have hq2 : 3 < d.kind := by omega
     clear hkd
     go_wp2_with fail
     have HF : Box (Blk (put11 W1 w.heap.size (.int .i64 0) (.int .i64 0) (.int .i64 0) (.int .i64 0) (.int .i64 0) (.int .i64 0) (.int .i64 0) (.string ⟨#[]⟩) (.slice none 0 0) (.slice none 0 0) (.slice none 0 0)) w.heap.size 35 zeroC ∧ Below w.heap.size w (put11 W1 w.heap.size (.int .i64 0) (.int .i64 0) (.int .i64 0) (.int .i64 0) (.int .i64 0) (.int .i64 0) (.int .i64 0) (.string ⟨#[]⟩) (.slice none 0 0) (.slice none 0 0) (.slice none 0 0))) := ⟨put11_blk HEB.out.2.2.z, HEB.out.2.2.below.trans (put11_below (Nat.le_refl _) ..)⟩
     show bodyPost _ _ _ _ _ (put11 W1 w.heap.size (.int .i64 0) (.int .i64 0) (.int .i64 0) (.int .i64 0) (.int .i64 0) (.int .i64 0) (.int .i64 0) (.string ⟨#[]⟩) (.slice none 0 0) (.slice none 0 0) (.slice none 0 0))
     generalize (put11 W1 w.heap.size (.int .i64 0) (.int .i64 0) (.int .i64 0) (.int .i64 0) (.int .i64 0) (.int .i64 0) (.int .i64 0) (.string ⟨#[]⟩) (.slice none 0 0) (.slice none 0 0) (.slice none 0 0)) = WF at HF ⊢
     clear z0 z1 z2 z3 z4 z5 z6 z7 z8 z9 z10 zf
     obtain ⟨e0, e1, e2, e3, e4, e5, e6, e7, e8, e9, e10⟩ := blk11z (d := zNd) HF.out.1
     have ef := HF.out.1.frozen
     refine bodyPost_ret (v := .tuple #[.agg zeroC, .int .i64 1]) (by simp [results, Tryz.results36, go_sem, e0, e1, e2, e3, e4, e5, e6, e7, e8, e9, e10, ef]) rfl ?_
     exact ⟨nilV, nilV, nilV, by rw [HTM.out]; rfl, by rw [HTM.out]; exact zero_tree _ _, HF.out.2⟩
  ·have hlt2 : ¬ (k : Int) < (l.length : Int) := by omega
   have hke : k = l.length := by omega
   subst hke
   have HM2 : Box (stackM l [] = some st) := ⟨by rw [HM.out.1, List.drop_length]; rfl⟩
   by_cases h1 : st.length = 1
   ·obtain ⟨t, ht⟩ : ∃ t, st = [t] := List.length_eq_one_iff.1 h1
    subst ht
    clear hsc1 h1
    obtain ⟨g, rfl⟩ : ∃ g, AS = some ⟨g, 0, none⟩ := by
     rcases hsc3 with ⟨-, h⟩ | ⟨g, h, -⟩
     ·cases h
     ·exact ⟨g, h⟩
    obtain ⟨mv, bv, kv, hT, h11⟩ := HS.out.stk.one
    obtain ⟨d, ks⟩ := t
    obtain ⟨T1, t1, rfl, -⟩ := hT.nod.ms.form
    obtain ⟨T2, t2, rfl, -⟩ := hT.nod.bys.form
    obtain ⟨T3, t3, rfl, -⟩ := hT.nod.kform
    have h1n : ((1 : Nat) != 1) = false := rfl
    have HT := Box.mk hT
    have h11' : At11z wr g d (.slice T1 d.ms.length t1) (.slice T2 d.bys.length t2) (.slice T3 ks.length t3) := h11
    have H11 := Box.mk h11'
    obtain ⟨k0, k1, k2, k3, k4, k5, k6, k7, k8, k9, k10⟩ := h11'
    clear hT h11 hsc3
    have HLEN : Box (([.node d ks] : List Tree).length = 1) := ⟨rfl⟩
    simp only [List.length_cons, List.length_nil, Nat.zero_add]
    obtain ⟨er, her⟩ : ∃ er, validE (.node d ks) = er := ⟨_, rfl⟩
    have HER := Box.mk her
    have CV : Box (Calls Tryz.prog 14 #[.agg (ndC d (.slice T1 d.ms.length t1) (.slice T2 d.bys.length t2) (.slice T3 ks.length t3))] wr (RetB (.int .i64 er) wr)) := ⟨by rw [← her]; exact rpvalid_any (.node d ks) _ wr (.slice T1 d.ms.length t1, .slice T2 d.bys.length t2, .slice T3 ks.length t3) HT.out (by rw [stack_nds HM2.out]; omega) (by have := dep_nds (.node d ks); rw [stack_nds HM2.out] at this; omega)⟩
    clear her
    by_cases h0 : er = 0
    ·subst h0
     have HTM : Box (treeM l = (.node d ks, 0)) := ⟨by rw [treeM_one hl HM2.out, if_pos HER.out]⟩
     go_wp2_with fail
     refine (CV.out).mono ?_
     rintro e7 w7 ⟨rfl, hb7⟩
     have HS7 := Box.mk (HS.out.next hb7)
     have HT7 : Box (TreeAt w7 (fun b _ => b ≠ w.heap.size) (.node d ks) (.slice T1 d.ms.length t1, .slice T2 d.bys.length t2, .slice T3 ks.length t3)) := ⟨HT.out.belo hb7⟩
     have h7 := at11_sub H11.out fun o => World.cell?_of_block (a := ⟨g, o, none⟩) (hb7.block g (cell_lt H11.out.1))
     have hzz := HS.out.stk.own
     obtain ⟨s0, s1, s2, s3, s4, s5, s6, s7, s8, s9, s10⟩ := h7
     have hzw := HS.out.below.size
     clear k0 k1 k2 k3 k4 k5 k6 k7 k8 k9 k10 hb7 HS H11 hzz
     obtain ⟨z0, z1, z2, z3, z4, z5, z6, z7, z8, z9, z10⟩ := blk11z (d := zNd) HS7.out.z
     have zf := HS7.out.z.frozen
     go_wp2_with fail
     have HF : Box (Blk (put11 w7 w.heap.size (.int .i64 d.kind) (.int .i64 d.fn) (.int .i64 d.win) (.int .i64 d.off) (.int .i64 d.k) (.int .i64 d.num) (.int .i64 d.den) (.string d.name) (.slice T1 d.ms.length t1) (.slice T2 d.bys.length t2) (.slice T3 ks.length t3)) w.heap.size 35 (ndC d (.slice T1 d.ms.length t1) (.slice T2 d.bys.length t2) (.slice T3 ks.length t3)) ∧ Below w.heap.size w (put11 w7 w.heap.size (.int .i64 d.kind) (.int .i64 d.fn) (.int .i64 d.win) (.int .i64 d.off) (.int .i64 d.k) (.int .i64 d.num) (.int .i64 d.den) (.string d.name) (.slice T1 d.ms.length t1) (.slice T2 d.bys.length t2) (.slice T3 ks.length t3)) ∧ TreeAt (put11 w7 w.heap.size (.int .i64 d.kind) (.int .i64 d.fn) (.int .i64 d.win) (.int .i64 d.off) (.int .i64 d.k) (.int .i64 d.num) (.int .i64 d.den) (.string d.name) (.slice T1 d.ms.length t1) (.slice T2 d.bys.length t2) (.slice T3 ks.length t3)) AnyP (.node d ks) (.slice T1 d.ms.length t1, .slice T2 d.bys.length t2, .slice T3 ks.length t3)) := ⟨put11_blk HS7.out.z, HS7.out.below.trans (put11_below (Nat.le_refl _) ..), (HT7.out.keep (Agree.of_only (put11_only ..) fun b _ h => h)).mono fun _ _ _ _ => trivial⟩
     show bodyPost _ _ _ _ _ (put11 w7 w.heap.size (.int .i64 d.kind) (.int .i64 d.fn) (.int .i64 d.win) (.int .i64 d.off) (.int .i64 d.k) (.int .i64 d.num) (.int .i64 d.den) (.string d.name) (.slice T1 d.ms.length t1) (.slice T2 d.bys.length t2) (.slice T3 ks.length t3))
     generalize (put11 w7 w.heap.size (.int .i64 d.kind) (.int .i64 d.fn) (.int .i64 d.win) (.int .i64 d.off) (.int .i64 d.k) (.int .i64 d.num) (.int .i64 d.den) (.string d.name) (.slice T1 d.ms.length t1) (.slice T2 d.bys.length t2) (.slice T3 ks.length t3)) = WF at HF ⊢
     clear z0 z1 z2 z3 z4 z5 z6 z7 z8 z9 z10 zf s0 s1 s2 s3 s4 s5 s6 s7 s8 s9 s10
     obtain ⟨f0, f1, f2, f3, f4, f5, f6, f7, f8, f9, f10⟩ := blk11z (d := d) HF.out.1
     have ef := HF.out.1.frozen
     refine bodyPost_ret (v := .tuple #[.agg (ndC d (.slice T1 d.ms.length t1) (.slice T2 d.bys.length t2) (.slice T3 ks.length t3)), .int .i64 0]) (by simp [results, Tryz.results36, go_sem, f0, f1, f2, f3, f4, f5, f6, f7, f8, f9, f10, ef]) rfl ?_
     exact ⟨.slice T1 d.ms.length t1, .slice T2 d.bys.length t2, .slice T3 ks.length t3, by rw [HTM.out]; rfl, by rw [HTM.out]; exact HF.out.2.2, HF.out.2.1⟩
    ·have h1 : (er != 0) = true := by simpa using h0
     have h2 : (er == 0) = false := by simpa using h0
     have HTM : Box (treeM l = (zeroT, er)) := ⟨by rw [treeM_one hl HM2.out, if_neg (by rw [HER.out]; exact h0), HER.out]⟩
     clear h0
     go_wp2_with fail
     refine (CV.out).mono ?_
     rintro e7 w7 ⟨rfl, hb7⟩
     have HS7 := Box.mk (HS.out.next hb7)
     clear k0 k1 k2 k3 k4 k5 k6 k7 k8 k9 k10 hb7 HS H11
     obtain ⟨z0, z1, z2, z3, z4, z5, z6, z7, z8, z9, z10⟩ := blk11z (d := zNd) HS7.out.z
     have zf := HS7.out.z.frozen
     go_wp2_with fail
     have HF : Box (Blk (put11 w7 w.heap.size (.int .i64 0) (.int .i64 0) (.int .i64 0) (.int .i64 0) (.int .i64 0) (.int .i64 0) (.int .i64 0) (.string ⟨#[]⟩) (.slice none 0 0) (.slice none 0 0) (.slice none 0 0)) w.heap.size 35 zeroC ∧ Below w.heap.size w (put11 w7 w.heap.size (.int .i64 0) (.int .i64 0) (.int .i64 0) (.int .i64 0) (.int .i64 0) (.int .i64 0) (.int .i64 0) (.string ⟨#[]⟩) (.slice none 0 0) (.slice none 0 0) (.slice none 0 0))) := ⟨put11_blk HS7.out.z, HS7.out.below.trans (put11_below (Nat.le_refl _) ..)⟩
     show bodyPost _ _ _ _ _ (put11 w7 w.heap.size (.int .i64 0) (.int .i64 0) (.int .i64 0) (.int .i64 0) (.int .i64 0) (.int .i64 0) (.int .i64 0) (.string ⟨#[]⟩) (.slice none 0 0) (.slice none 0 0) (.slice none 0 0))
     generalize (put11 w7 w.heap.size (.int .i64 0) (.int .i64 0) (.int .i64 0) (.int .i64 0) (.int .i64 0) (.int .i64 0) (.int .i64 0) (.string ⟨#[]⟩) (.slice none 0 0) (.slice none 0 0) (.slice none 0 0)) = WF at HF ⊢
     clear z0 z1 z2 z3 z4 z5 z6 z7 z8 z9 z10 zf
     obtain ⟨e0, e1, e2, e3, e4, e5, e6, e7, e8, e9, e10⟩ := blk11z (d := zNd) HF.out.1
     have ef := HF.out.1.frozen
     refine bodyPost_ret (v := .tuple #[.agg zeroC, .int .i64 er]) (by simp [results, Tryz.results36, go_sem, e0, e1, e2, e3, e4, e5, e6, e7, e8, e9, e10, ef]) rfl ?_
     exact ⟨nilV, nilV, nilV, by rw [HTM.out]; rfl, by rw [HTM.out]; exact zero_tree _ _, HF.out.2⟩
   ·have h1i : ((st.length : Int) != 1) = true := by simp; omega
    have h1i' : ((st.length : Int) == 1) = false := by simp; omega
    have h1n : (st.length != 1) = true := by simpa using h1
    have HTM : Box (treeM l = (zeroT, 1)) := ⟨tree_many hl HM2.out h1⟩
    clear h1
    obtain ⟨z0, z1, z2, z3, z4, z5, z6, z7, z8, z9, z10⟩ := blk11z (d := zNd) HS.out.z
    have zf := HS.out.z.frozen
    go_wp2_with fail
    have HF : Box (Blk (put11 wr w.heap.size (.int .i64 0) (.int .i64 0) (.int .i64 0) (.int .i64 0) (.int .i64 0) (.int .i64 0) (.int .i64 0) (.string ⟨#[]⟩) (.slice none 0 0) (.slice none 0 0) (.slice none 0 0)) w.heap.size 35 zeroC ∧ Below w.heap.size w (put11 wr w.heap.size (.int .i64 0) (.int .i64 0) (.int .i64 0) (.int .i64 0) (.int .i64 0) (.int .i64 0) (.int .i64 0) (.string ⟨#[]⟩) (.slice none 0 0) (.slice none 0 0) (.slice none 0 0))) := ⟨put11_blk HS.out.z, HS.out.below.trans (put11_below (Nat.le_refl _) ..)⟩
    show bodyPost _ _ _ _ _ (put11 wr w.heap.size (.int .i64 0) (.int .i64 0) (.int .i64 0) (.int .i64 0) (.int .i64 0) (.int .i64 0) (.int .i64 0) (.string ⟨#[]⟩) (.slice none 0 0) (.slice none 0 0) (.slice none 0 0))
    generalize (put11 wr w.heap.size (.int .i64 0) (.int .i64 0) (.int .i64 0) (.int .i64 0) (.int .i64 0) (.int .i64 0) (.int .i64 0) (.string ⟨#[]⟩) (.slice none 0 0) (.slice none 0 0) (.slice none 0 0)) = WF at HF ⊢
    clear z0 z1 z2 z3 z4 z5 z6 z7 z8 z9 z10 zf
    obtain ⟨e0, e1, e2, e3, e4, e5, e6, e7, e8, e9, e10⟩ := blk11z (d := zNd) HF.out.1
    have ef := HF.out.1.frozen
    refine bodyPost_ret (v := .tuple #[.agg zeroC, .int .i64 1]) (by simp [results, Tryz.results36, go_sem, e0, e1, e2, e3, e4, e5, e6, e7, e8, e9, e10, ef]) rfl ?_
    exact ⟨nilV, nilV, nilV, by rw [HTM.out]; rfl, by rw [HTM.out]; exact zero_tree _ _, HF.out.2⟩
theorem rtree_any (l : List Nd) (pv : Value) (w : World) (hp : PlanP w AnyP pv l) : Calls Tryz.prog 36 #[pv] w (RetTr (treeM l) w) := by
 by_cases h : 200 < l.length
 ·exact rtree_big l pv w hp h
 ·exact rtree_small l pv w hp (by omega)
set_option maxHeartbeats 4000000 in
set_option maxRecDepth 100000 in
theorem rpcheck_any (l : List Nd) (pv : Value) (w : World) (hp : PlanP w AnyP pv l) : Calls Tryz.prog 20 #[pv] w (RetB (.int .i64 (treeM l).2) w) := by
 obtain ⟨A, c, rfl, -⟩ := hp.form
 have CT := Box.mk (rtree_any l _ w hp)
 clear hp
 obtain ⟨q, hq⟩ : ∃ q, treeM l = q := ⟨_, rfl⟩
 rw [hq] at CT ⊢
 clear hq
 obtain ⟨⟨d, ks⟩, er⟩ := q
 go_enter Tryz.func20, Tryz.ntmps20
 go_wp2_with fail
 with_reducible refine (CT.out).mono ?_
 rintro e1 w1 ⟨mv, bv, kv, rfl, hT, hb⟩
 obtain ⟨A1, c1, rfl, -⟩ := hT.nod.ms.form
 obtain ⟨A2, c2, rfl, -⟩ := hT.nod.bys.form
 obtain ⟨A3, c3, rfl, -⟩ := hT.nod.kform
 have HB := Box.mk hb
 clear hT hb CT
 simp only [Tree.d]
 go_wp2_with fail
 go_ret
 exact ⟨rfl, bthen HB.out (bel1 _ _) (Nat.le_refl _)⟩
end
end Go.Proofs.YtpgdijbfkahepaaGreatDoor
