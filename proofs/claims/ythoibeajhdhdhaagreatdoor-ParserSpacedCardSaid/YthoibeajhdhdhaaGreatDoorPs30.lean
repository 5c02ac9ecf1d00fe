/- Contracts, packed: Mc Qm Rb Rc Sa Sj Sr Md Sf Sg. -/
import Derived.Test.YthoibeajhdhdhaaGreatDoorPs1
import Derived.Test.YthoibeajhdhdhaaGreatDoorPs4
import Derived.Test.YthoibeajhdhdhaaGreatDoorPs9
import Derived.Test.YthoibeajhdhdhaaGreatDoorPs11
import Derived.Test.YthoibeajhdhdhaaGreatDoorPs12
import Derived.Test.YthoibeajhdhdhaaGreatDoorPs13
import Derived.Test.YthoibeajhdhdhaaGreatDoorPs18
import Derived.Test.YthoibeajhdhdhaaGreatDoorPs23
import Derived.Test.YthoibeajhdhdhaaGreatDoorPs28
import Derived.ArgAppend
import Derived.Deep.DeepAppendRoom
import Derived.Deep.RegionHeld3
set_option linter.unusedVariables false
set_option linter.unusedSimpArgs false
namespace Go.Proofs.YthoibeajhdhdhaaGreatDoor
section
open Go.RowKit FracM
def kidPrec (d : Nd) : Nat := if d.kind = 3 then precT d else 1
def joinR (d : Nd) (ls : List (List UInt8)) : List UInt8 :=
 if d.kind = 0 then numL d.num d.den
 else if d.kind = 1 then selL d
 else if d.kind = 2 then grpL d ++ (40 :: (ls.headD [] ++ [41]))
 else match ls with
  | [x, y] => x ++ (opersT.getD d.fn.toNat [] ++ y)
  | _ => []
mutual
def showR (full : Bool) : Tree → Nat → List UInt8
 | .node d ks, prec => encl (decide (precT d < prec) || full) (joinR d (showRL full ks (kidPrec d)))
def showRL (full : Bool) : List Tree → Nat → List (List UInt8)
 | [], _ => []
 | t :: ts, p => showR full t p :: showRL full ts (p + 1)
end
theorem showR_node (full : Bool) (d : Nd) (ks : List Tree) (prec : Nat) : showR full (.node d ks) prec = encl (decide (precT d < prec) || full) (joinR d (showRL full ks (kidPrec d))) := by rw [showR]
theorem showR_len (full : Bool) : ∀ t, chk t = 0 → ∀ prec, (showR full t prec).length ≤ 610 * nds t := Tree.ind fun d ks ih h prec => by
 obtain ⟨h1, h2⟩ := chk_ok h
 obtain ⟨n0, n1, n2⟩ := node_len h1
 rw [showR_node, nds]
 have e := encl_len (decide (precT d < prec) || full) (joinR d (showRL full ks (kidPrec d)))
 suffices (joinR d (showRL full ks (kidPrec d))).length ≤ 600 + 610 * ndsL ks by omega
 unfold joinR
 rcases shape_cases (chk1_all h1).1 with hk | hk | hk | hk
 ·rw [if_pos hk.1]; exact Nat.le_trans (n0 hk.1) (by omega)
 ·have k0 : ¬ d.kind = 0 := by omega
  rw [if_neg k0, if_pos hk.1]; have := n1 hk.1; omega
 ·rw [if_neg (by omega), if_neg (by omega), if_pos hk.1]
  match ks, hk.2.1 with
  | [t], _ =>
   have := n2 hk.1
   have := ih t (by simp) (h2 t (by simp)) (kidPrec d)
   simp only [showRL, ndsL, List.headD_cons, List.length_append, List.length_cons, List.length_nil]
   omega
 ·have k0 : ¬ d.kind = 0 := by omega
  have k1 : ¬ d.kind = 1 := by omega
  have k2 : ¬ d.kind = 2 := by omega
  rw [if_neg k0, if_neg k1, if_neg k2]
  match ks, hk.2.1 with
  | [a, b], _ =>
   have i1 := ih a (by simp) (h2 a (by simp)) (kidPrec d)
   have i2 := ih b (by simp) (h2 b (by simp)) (kidPrec d + 1)
   have o1 := oprSz d.fn.toNat
   simp only [showRL, ndsL, List.length_append]
   omega
end
section
open Go.RowKit FracM
end
section
open Go.RowKit FracM
end
section
open Go.RowKit FracM
theorem blk11z {W : World} {g : Nat} {t : TypeId} {d : Nd} {mv bv kv : Value} (h : Blk W g t (ndC d mv bv kv)) : W.cell? ⟨g, 0, none⟩ = some (.int .i64 d.kind) ∧ W.cell? ⟨g, 1, none⟩ = some (.int .i64 d.fn) ∧ W.cell? ⟨g, 2, none⟩ = some (.int .i64 d.win) ∧ W.cell? ⟨g, 3, none⟩ = some (.int .i64 d.off) ∧ W.cell? ⟨g, 4, none⟩ = some (.int .i64 d.k) ∧ W.cell? ⟨g, 5, none⟩ = some (.int .i64 d.num) ∧ W.cell? ⟨g, 6, none⟩ = some (.int .i64 d.den) ∧ W.cell? ⟨g, 7, none⟩ = some (.string d.name) ∧ W.cell? ⟨g, 8, none⟩ = some mv ∧ W.cell? ⟨g, 9, none⟩ = some bv ∧ W.cell? ⟨g, 10, none⟩ = some kv := by
 unfold Blk at h
 refine ⟨?_, ?_, ?_, ?_, ?_, ?_, ?_, ?_, ?_, ?_, ?_⟩ <;> simp [World.cell?, h]
end
section
open Go.RowKit FracM
end
section
open Go.RowKit FracM
section
variable {P : Program} (w : World)
end
/-- the node that is put behind a node's kids -/
def leafN : Nd := ⟨0, 0, 0, 0, 0, 0, 1, ⟨#[]⟩, [], []⟩
end
section
open Go Go.RowKit
section
variable {P : Program} {ops : Array Oper} {Q : Exit → Act → World → Prop} {md : Region.Mode} {S : World → Prop} {e : Nat}
/-- as wpAnyH, S being asked behind every operation but e -/
def wpAnyT (P : Program) (md : Region.Mode) (ops : Array Oper) (Q : Exit → Act → World → Prop) (S : World → Prop) (e : Nat) : Nat → Array Bool → Act → World → Prop
 | 0, listed, a, w => Region.ready md ops listed = [] ∧ Q .normal a w
 | fuel + 1, listed, a, w =>
  (Region.ready md ops listed = [] → Q .normal a w) ∧
  ∀ i ∈ Region.ready md ops listed, wpOp P ops Q i (fun a' w' => (i ≠ e → S w') ∧ wpAnyT P md ops Q S e fuel (listed.setIfInBounds i true) a' w') a w
theorem wpAny_of_T : ∀ (fuel : Nat) (listed : Array Bool) (a : Act) (w : World), wpAnyT P md ops Q S e fuel listed a w → wpAny P md ops Q fuel listed a w
 | 0, _, _, _, h => h
 | fuel + 1, _, _, _, h => ⟨h.1, fun i hi => wpOp_mono (fun a' w' h' => wpAny_of_T fuel _ a' w' h'.2) (h.2 i hi)⟩
/-- operation e waits for operation i -/
def waits (md : Region.Mode) (ops : Array Oper) (e i : Nat) : Bool :=
 match ops[e]? with
 | some o => o.after.any (fun x => x.on == i && Region.binds md x)
 | none => false
theorem not_ready_of_waits {i : Nat} {listed : Array Bool} (hw : waits md ops e i = true) (hl : listed.getD i true = false) : e ∉ Region.ready md ops listed := by
 intro hr
 obtain ⟨_, o, ho, hall⟩ := mem_ready.1 hr
 unfold waits at hw
 rw [ho] at hw
 simp only [Array.any_eq_true] at hw
 obtain ⟨k, hk, hx⟩ := hw
 simp only [Bool.and_eq_true, beq_iff_eq] at hx
 have h1 := hall _ (Array.getElem_mem hk) hx.2
 rw [hx.1] at h1
 rcases Nat.lt_or_ge i listed.size with h' | h'
 ·simp [h'] at hl h1; rw [hl] at h1; cases h1
 ·simp [Array.getElem?_eq_none h'] at h1
theorem wpAnyT_first {i : Nat} {oi : Oper} {v : Value} (hi : ops[i]? = some oi) (hsel : ∀ (j : Nat) (o : Oper) cs b, ops[j]? = some o → o.op ≠ .select cs b)
  (hQ : ∀ c a w, Q (.panic c) (a.put oi.dst v) w → Q (.panic c) a w) (hwt : waits md ops e i = true) (hie : i ≠ e) :
  ∀ (fuel : Nat) (listed : Array Bool) (a : Act) (w : World),
   (∀ j oj, ops[j]? = some oj → j ≠ i → listed.getD j true = false → (∀ x ∈ oj.after, Region.binds md x = true → x.on ≠ i) → oi.apart ops oj = true) →
   i ∈ Region.ready md ops listed → YieldsIf P ops S oi v a → S w →
   wpAnyT P md ops Q S e fuel (listed.setIfInBounds i true) (a.put oi.dst v) w → wpAnyT P md ops Q S e (fuel + 1) listed a w := by
 intro fuel
 induction fuel with
 | zero =>
  intro listed a w _ hr hy hS H
  refine ⟨fun h => (by rw [h] at hr; cases hr), fun j hj => ?_⟩
  by_cases hji : j = i
  ·subst hji; exact hy.wpOp hi hS ⟨fun _ => hS, H⟩
  ·have := ready_mono hj hji
   rw [H.1] at this
   cases this
 | succ fuel ih =>
  intro listed a w hfree hr hy hS H
  refine ⟨fun h => (by rw [h] at hr; cases hr), fun j hj => ?_⟩
  by_cases hji : j = i
  ·subst hji; exact hy.wpOp hi hS ⟨fun _ => hS, H⟩
  ·have hje : j ≠ e := fun h => not_ready_of_waits hwt (mem_ready.1 hr).1 (h ▸ hj)
   have h1 := H.2 j (ready_mono hj hji)
   obtain ⟨hjun, oj, hoj, hall⟩ := mem_ready.1 hj
   have hnot : ∀ x ∈ oj.after, Region.binds md x = true → x.on ≠ i := fun x hx hb heq => by
    have h1 := hall x hx hb
    have h0 := (mem_ready.1 hr).1
    rw [heq] at h1
    rcases Nat.lt_or_ge i listed.size with h' | h'
    ·simp [h'] at h0 h1; rw [h0] at h1; cases h1
    ·simp [Array.getElem?_eq_none h'] at h1
   have h2 := wpOp_putIf hoj (hfree j oj hoj hji hjun hnot) (fun cs b => hsel i oi cs b hi) (fun cs b => hsel j oj cs b hoj) hQ hy h1
   have hfree' : ∀ k ok, ops[k]? = some ok → k ≠ i → (listed.setIfInBounds j true).getD k true = false →
     (∀ x ∈ ok.after, Region.binds md x = true → x.on ≠ i) → oi.apart ops ok = true := fun k ok hk hki hun hno => by
    refine hfree k ok hk hki ?_ hno
    by_cases hjk : j = k
    ·subst hjk; exact hjun
    ·rw [getD_set_ne true hjk] at hun; exact hun
   refine wpOp_mono (fun a' w' h3 => ⟨h3.2.1, ih (listed.setIfInBounds j true) a' w' hfree' (ready_mono hr (Ne.symm hji)) h3.1 (h3.2.1 hje) ?_⟩) h2
   rw [Array.setIfInBounds_comm _ _ hji]
   exact h3.2.2
theorem wpAnyT_take {i : Nat} {oi : Oper} {v : Value} {fuel : Nat} {listed : Array Bool} {a : Act} {w : World} (hi : ops[i]? = some oi)
  (hs : Region.noSelect ops = true) (hf : Region.free md ops listed i = true) (hr : (Region.ready md ops listed).contains i = true)
  (hQ : ∀ c a w, Q (.panic c) (a.put oi.dst v) w → Q (.panic c) a w) (hwt : waits md ops e i = true) (hie : i ≠ e) (hy : YieldsIf P ops S oi v a) (hS : S w)
  (h : wpAnyT P md ops Q S e fuel (listed.setIfInBounds i true) (a.put oi.dst v) w) : wpAnyT P md ops Q S e (fuel + 1) listed a w :=
 wpAnyT_first hi (Region.noSelect_spec hs) hQ hwt hie fuel listed a w (Region.free_spec hi hf) (by simpa using hr) hy hS h
/-- whichever comes up -/
theorem wpAnyT_all {rs : List Nat} {fuel : Nat} {listed : Array Bool} {a : Act} {w : World} (hr : Region.ready md ops listed = rs) (hne : rs ≠ [])
  (h : ∀ i ∈ rs, wpOp P ops Q i (fun a' w' => (i ≠ e → S w') ∧ wpAnyT P md ops Q S e fuel (listed.setIfInBounds i true) a' w') a w) : wpAnyT P md ops Q S e (fuel + 1) listed a w :=
 ⟨fun h0 => absurd (hr ▸ h0) hne, hr ▸ h⟩
theorem wpAnyT_op {fuel : Nat} {listed : Array Bool} {a : Act} {w : World} {i : Nat} {o : Oper} (ho : ops[i]? = some o)
  (h : ∀ K' : Act → World → Prop, Shut (∀ a w, (i ≠ e → S w) → ((i ≠ e → S w) → wpAnyT P md ops Q S e fuel (listed.setIfInBounds i true) a w) → K' a w) → if Region.wanted o (yielded ops a.tmps) = true then Oper.wp P o a w K' Q else K' (a.put o.dst undef) w) :
  wpOp P ops Q i (fun a' w' => (i ≠ e → S w') ∧ wpAnyT P md ops Q S e fuel (listed.setIfInBounds i true) a' w') a w :=
 wpOp_step ho (fun K' hK => h K' (fun a w hS hW => hK a w ⟨hS, hW hS⟩))
theorem wpAnyT_one {fuel : Nat} {listed : Array Bool} {a : Act} {w : World} (i : Nat) {o : Oper} (hr : Region.ready md ops listed = [i]) (ho : ops[i]? = some o)
  (h : ∀ K' : Act → World → Prop, Shut (∀ a w, (i ≠ e → S w) → ((i ≠ e → S w) → wpAnyT P md ops Q S e fuel (listed.setIfInBounds i true) a w) → K' a w) → if Region.wanted o (yielded ops a.tmps) = true then Oper.wp P o a w K' Q else K' (a.put o.dst undef) w) : wpAnyT P md ops Q S e (fuel + 1) listed a w :=
 wpAnyT_all hr (by simp) fun j hj => by
  rw [List.mem_singleton] at hj
  subst hj
  exact wpAnyT_op ho h
theorem wpAnyT_done {listed : Array Bool} {a : Act} {w : World} (hr : Region.ready md ops listed = []) (h : Q .normal a w) :
  ∀ fuel, wpAnyT P md ops Q S e fuel listed a w
 | 0 => ⟨hr, h⟩
 | _ + 1 => ⟨fun _ => h, by rw [hr]; simp⟩
/-- the beginning -/
theorem wp_region_T (e : Nat) {id : Nat} {a : Act} {w : World} (hm : P.follows .mixedOrders = true) (hS : S w.drew)
  (h : S w.drew → wpAnyT P .any ops Q S e ops.size (Array.replicate ops.size false) a w.drew) : (Code.region id ops true).wp P Q a w :=
 wp_region_any hm (wpAny_of_T _ _ _ _ (h hS))
end
end
section
open Go.RowKit FracM
set_option maxHeartbeats 4000000 in
set_option maxRecDepth 100000 in
theorem rwrit_any : ∀ t, ∀ (P : Nat → Nat → Prop) (w : World) (s : Sl), chk t = 0 → TreeAt w P t s → Calls Tryz.prog 84 #[.agg (ndC t.d s.1 s.2.1 s.2.2)] w (RetB (.bool (prtB t)) w) := by
 refine Tree.ind ?_
 intro d ks ih P w ⟨mv, bv, kv⟩ hc hT
 have IH := Box.mk ih
 have HC := Box.mk hc
 have HN := Lib.hid (N1.start hT)
 obtain ⟨A1, n1, hmv, l1⟩ := hT.nod.ms.form
 obtain ⟨A2, n2, hbv, l2⟩ := hT.nod.bys.form
 obtain ⟨A3, n3, hkv, l3⟩ := hT.nod.kform
 subst hmv hbv hkv
 obtain ⟨fin, hfin⟩ : ∃ z, prtB (.node d ks) = z := ⟨_, rfl⟩
 rw [hfin]
 rw [prtB] at hfin
 clear hT ih hc
 simp only [Tree.d]
 have HKS : Box (d.kind = 0 → ks = []) := ⟨fun hk => by
  have := shape_cases (chk1_all (chk_ok HC.out).1).1
  exact List.eq_nil_of_length_eq_zero (by omega)⟩
 by_cases hk : d.kind = 0
 ·obtain rfl := HKS.out hk
  rw [if_pos hk] at hfin
  have hk2 : (d.kind == 0) = true := by simpa using hk
  by_cases h1 : d.num < -1073741824
  ·have E : Box (fin = false) := ⟨by rw [← hfin]; unfold writB; rw [decide_eq_false (show ¬ (-1073741824 ≤ d.num) by omega)]; rfl⟩
   rw [E.out]
   have h1' : decide (d.num < -1073741824) = true := decide_eq_true h1
   clear hk hfin h1
   go_enter Tryz.func84, Tryz.ntmps84
   go_upto_region 1 with (fail)
   generalize w.alloc (.cells (ndC d _ _ _) 29) = W at HN ⊢
   obtain ⟨c0, c1, c2, c3, c4, c5, c6, c7, c8, c9, c10⟩ := HN.out.c
   simp only [Nat.zero_add] at c5 c6
   go_wp2_with fail
   go_ret
   exact ⟨rfl, HN.out.below⟩
  replace h1 : decide (d.num < -1073741824) = false := decide_eq_false h1
  by_cases h2 : d.num > 1073741824
  ·have E : Box (fin = false) := ⟨by rw [← hfin]; unfold writB; rw [decide_eq_false (show ¬ (d.num ≤ 1073741824) by omega)]; simp⟩
   rw [E.out]
   have h2' : decide (d.num > 1073741824) = true := decide_eq_true h2
   clear hk hfin h2
   go_enter Tryz.func84, Tryz.ntmps84
   go_upto_region 1 with (fail)
   generalize w.alloc (.cells (ndC d _ _ _) 29) = W at HN ⊢
   obtain ⟨c0, c1, c2, c3, c4, c5, c6, c7, c8, c9, c10⟩ := HN.out.c
   simp only [Nat.zero_add] at c5 c6
   go_wp2_with fail
   go_ret
   exact ⟨rfl, HN.out.below⟩
  replace h2 : decide (d.num > 1073741824) = false := decide_eq_false h2
  by_cases h3 : d.den > 1073741824
  ·have E : Box (fin = false) := ⟨by rw [← hfin]; unfold writB; rw [decide_eq_false (show ¬ (d.den ≤ 1073741824) by omega)]; simp⟩
   rw [E.out]
   have h3' : decide (d.den > 1073741824) = true := decide_eq_true h3
   clear hk hfin h3
   go_enter Tryz.func84, Tryz.ntmps84
   go_upto_region 1 with (fail)
   generalize w.alloc (.cells (ndC d _ _ _) 29) = W at HN ⊢
   obtain ⟨c0, c1, c2, c3, c4, c5, c6, c7, c8, c9, c10⟩ := HN.out.c
   simp only [Nat.zero_add] at c5 c6
   go_wp2_with fail
   go_ret
   exact ⟨rfl, HN.out.below⟩
  replace h3 : decide (d.den > 1073741824) = false := decide_eq_false h3
  have E : Box (fin = true) := ⟨by rw [← hfin]; unfold writB; have := of_decide_eq_false h1; have := of_decide_eq_false h2; have := of_decide_eq_false h3; simp only [Bool.and_eq_true, decide_eq_true_eq]; omega⟩
  rw [E.out]
  clear hk hfin
  go_enter Tryz.func84, Tryz.ntmps84
  go_upto_region 1 with (fail)
  generalize w.alloc (.cells (ndC d _ _ _) 29) = W at HN ⊢
  obtain ⟨c0, c1, c2, c3, c4, c5, c6, c7, c8, c9, c10⟩ := HN.out.c
  simp only [Nat.zero_add, List.length_nil] at c5 c6 c10
  go_wp2_with fail
  go_loopw [3] (fun v wr => v = .int .i64 0 ∧ wr = W) (fun _ _ => 0)
  case atStart => exact ⟨rfl, rfl⟩
  case round =>
   obtain ⟨rfl, rfl⟩ := hrel
   go_wp2_with fail
   go_ret
   exact ⟨rfl, HN.out.below⟩
 rw [if_neg hk] at hfin
 have HF := Box.mk hfin
 have hk2 : (d.kind == 0) = false := by simpa using hk
 have HCK := Box.mk (chk_ok HC.out).2
 clear hk hfin HKS
 go_enter Tryz.func84, Tryz.ntmps84
 go_upto_region 1 with (fail)
 generalize w.alloc (.cells (ndC d _ _ _) 29) = W at HN ⊢
 obtain ⟨c0, c1, c2, c3, c4, c5, c6, c7, c8, c9, c10⟩ := HN.out.c
 simp only [Nat.zero_add] at c10
 clear c1 c2 c3 c4 c5 c6 c7 c8 c9
 go_wp2_with fail
 go_loopw [3] (fun v wr => ∃ k : Nat, k ≤ ks.length ∧ v = .int .i64 (k : Nat) ∧ N1 w wr P d ks (.slice A1 d.ms.length n1) (.slice A2 d.bys.length n2) (.slice A3 ks.length n3) ∧ Box (prtL (ks.drop k) = fin)) (fun v _ => ks.length - (intOf v).toNat)
 case atStart => exact ⟨0, by omega, rfl, HN.out, HF⟩
 case round =>
  clear HN c0 c10 HF
  obtain ⟨k, hk, rfl, hN, HA⟩ := hrel
  have HN := Lib.hid hN; clear hN
  obtain ⟨c0, c1, c2, c3, c4, c5, c6, c7, c8, c9, c10⟩ := HN.out.c
  simp only [Nat.zero_add] at c10
  clear c0 c1 c2 c3 c4 c5 c6 c7 c8 c9
  by_cases hlt : k < ks.length
  ·obtain ⟨x, hx⟩ : ∃ x, ks[k]? = some x := ⟨ks[k], List.getElem?_eq_getElem _⟩
   obtain ⟨e, es⟩ := x
   obtain ⟨b, off, mv', bv', kv', rfl, hb, hpb, ⟨k0, k1, k2, k3, k4, k5, k6, k7, k8, k9, k10⟩, hT'⟩ := HN.out.nod.kid k e es hx
   obtain ⟨B1, m1, rfl, -⟩ := hT'.nod.ms.form
   obtain ⟨B2, m2, rfl, -⟩ := hT'.nod.bys.form
   obtain ⟨B3, m3, rfl, -⟩ := hT'.nod.kform
   have HT' := Box.mk hT'
   have HX := Box.mk hx
   have hlt2 : (k : Int) < (ks.length : Int) := by omega
   have HD : Box (ks.drop k = .node e es :: ks.drop (k + 1)) := ⟨by
    rw [List.drop_eq_getElem_cons hlt, (List.getElem?_eq_some_iff.1 hx).2]⟩
   clear hT' hx
   go_wp2_with fail
   refine (IH.out (.node e es) (List.mem_of_getElem? HX.out) P _ (.slice B1 e.ms.length m1, .slice B2 e.bys.length m2, .slice B3 es.length m3) (HCK.out _ (List.mem_of_getElem? HX.out)) HT'.out).mono ?_
   rintro e1 w1 ⟨rfl, hb1⟩
   have HN4 := Lib.hid (HN.out.next hb1)
   clear HN hb1 k0 k1 k2 k3 k4 k5 k6 k7 k8 k9 k10 c10
   obtain ⟨q, E1⟩ : ∃ z, Box (prtB (.node e es) = z) := ⟨_, ⟨rfl⟩⟩
   rw [E1.out]
   cases q
   ·go_wp2_with fail
    go_ret
    exact ⟨ret_bool (by rw [← HA.out, HD.out, prtL, E1.out]; rfl), HN4.out.below⟩
   ·have HA2 : Box (prtL (ks.drop (k + 1)) = fin) := ⟨by rw [← HA.out, HD.out, prtL, E1.out]; rfl⟩
    go_wp2_with fail
    go_roundw
    ·exact ⟨k + 1, by omega, by simp, HN4.out, HA2⟩
    ·simp [intOf]; omega
  ·have hkk : k = ks.length := by omega
   have HE : Box (fin = true) := ⟨by rw [← HA.out, hkk, List.drop_length, prtL]⟩
   have hnl : ¬ ((k : Int) < (ks.length : Int)) := by omega
   go_wp2_with fail
   go_ret
   exact ⟨ret_bool HE.out.symm, HN.out.below⟩
/-- two strings put together -/
theorem add_l (l r : List UInt8) (h : l.length + r.length ≤ 1000000000) (W : World) : (Op.stringOp .add (bsL l) (bsL r)).run Tryz.prog W = .ok (.string (bsL (l ++ r))) W := by
 have e : bsL (l ++ r) = bsL l ++ bsL r := by unfold bsL; apply ByteArray.ext; simp
 rw [e]
 exact run_string_add_sum (P := Tryz.prog) (w := W) _ _ (by rw [bsL_sz, bsL_sz]; omega)
/-- .. the sum is a letter -/
theorem add_x (a b : ByteArray) (l r : List UInt8) (ha : a = bsL l) (hb : b = bsL r) (h : l.length + r.length ≤ 1000000000) : ∃ s : ByteArray, Box (s = bsL (l ++ r)) ∧ ∀ W, (Op.stringOp .add a b).run Tryz.prog W = .ok (.string s) W :=
 ⟨_, ⟨rfl⟩, fun W => by rw [ha, hb]; exact add_l l r h W⟩
theorem bsL_data (s : ByteArray) : s = bsL s.data.toList := by unfold bsL; apply ByteArray.ext; simp
theorem deci_any (n : Int) (w : World) (h1 : -9223372036854775808 ≤ n) (h2 : n ≤ 9223372036854775807) : Calls Tryz.prog 19 #[.int .i64 n] w fun e w' => e = .returned (.string (bsL (Lib.itoa n))) ∧ w' = w := decimalQ_any n w h1 h2
set_option maxHeartbeats 1000000 in
set_option maxRecDepth 100000 in
theorem rfrac_any (n d : Int) (w : World) (hw : writB n d = true) (h1 : 1 ≤ d) : Calls Tryz.prog 65 #[.agg #[.int .i64 n, .int .i64 d]] w (RetB (.string (bsL (numL n d))) w) := by
 unfold writB at hw
 simp only [Bool.and_eq_true, decide_eq_true_eq] at hw
 obtain ⟨⟨hn1, hn2⟩, hd2⟩ := hw
 have z1 := itoa_sz n (by omega) (by omega)
 have z2 := itoa_sz (-n) (by omega) (by omega)
 have z3 := itoa_sz d (by omega) (by omega)
 have hw : IntKind.i64.wrap (-n) = -n := IntWalk.i64_in _ (by omega)
 by_cases hn : n < 0 <;> by_cases hd : d = 1
 ·have hd' : (d != 1) = false := by simp [hd]
  obtain ⟨s1, S1, a1⟩ := add_x ⟨#[48, 45]⟩ (bsL (Lib.itoa (-n))) ([48, 45]) (Lib.itoa (-n)) rfl rfl (by simp only [List.length_append, List.length_cons, List.length_nil]; omega)
  obtain ⟨s2, S2, a2⟩ := add_x ⟨#[40]⟩ s1 ([40]) ([48, 45] ++ Lib.itoa (-n)) rfl S1.out (by simp only [List.length_append, List.length_cons, List.length_nil]; omega)
  obtain ⟨s3, S3, a3⟩ := add_x s2 ⟨#[41]⟩ ([40] ++ ([48, 45] ++ Lib.itoa (-n))) ([41]) S2.out rfl (by simp only [List.length_append, List.length_cons, List.length_nil]; omega)
  have E : Box (s3 = bsL (numL n d)) := ⟨by rw [S3.out]; unfold numL natE numB absI; rw [if_pos hn, if_pos hn, if_pos hd]; simp [show ¬ (0 ≤ n) by omega]⟩
  clear z1 z2 z3 hd
  go_enter Tryz.func65, Tryz.ntmps65
  go_wp2_with (go_at_call 19; refine (deci_any _ _ (by omega) (by omega)).mono ?_; rintro e w' ⟨rfl, rfl⟩)
  go_ret
  exact ⟨ret_str E.out, bel1 _ _⟩
 ·have hd' : (d != 1) = true := by simp [hd]
  obtain ⟨s1, S1, a1⟩ := add_x ⟨#[48, 45]⟩ (bsL (Lib.itoa (-n))) ([48, 45]) (Lib.itoa (-n)) rfl rfl (by simp only [List.length_append, List.length_cons, List.length_nil]; omega)
  obtain ⟨s2, S2, a2⟩ := add_x s1 ⟨#[47]⟩ ([48, 45] ++ Lib.itoa (-n)) ([47]) S1.out rfl (by simp only [List.length_append, List.length_cons, List.length_nil]; omega)
  obtain ⟨s3, S3, a3⟩ := add_x s2 (bsL (Lib.itoa d)) (([48, 45] ++ Lib.itoa (-n)) ++ [47]) (Lib.itoa d) S2.out rfl (by simp only [List.length_append, List.length_cons, List.length_nil]; omega)
  obtain ⟨s4, S4, a4⟩ := add_x ⟨#[40]⟩ s3 ([40]) ((([48, 45] ++ Lib.itoa (-n)) ++ [47]) ++ Lib.itoa d) rfl S3.out (by simp only [List.length_append, List.length_cons, List.length_nil]; omega)
  obtain ⟨s5, S5, a5⟩ := add_x s4 ⟨#[41]⟩ ([40] ++ ((([48, 45] ++ Lib.itoa (-n)) ++ [47]) ++ Lib.itoa d)) ([41]) S4.out rfl (by simp only [List.length_append, List.length_cons, List.length_nil]; omega)
  have E : Box (s5 = bsL (numL n d)) := ⟨by rw [S5.out]; unfold numL natE numB absI; rw [if_pos hn, if_pos hn, if_neg hd]; simp [show ¬ (0 ≤ n) by omega]⟩
  clear z1 z2 z3 hd
  go_enter Tryz.func65, Tryz.ntmps65
  go_wp2_with (go_at_call 19; refine (deci_any _ _ (by omega) (by omega)).mono ?_; rintro e w' ⟨rfl, rfl⟩)
  go_ret
  exact ⟨ret_str E.out, bel1 _ _⟩
 ·have hd' : (d != 1) = false := by simp [hd]
  have E : Box (bsL (Lib.itoa n) = bsL (numL n d)) := ⟨by unfold numL natE; rw [show (d == 1 && decide (0 ≤ n) && decide (n ≤ 1073741824)) = true by simp only [Bool.and_eq_true, beq_iff_eq, decide_eq_true_eq]; omega]; rfl⟩
  clear z1 z2 z3 hd
  go_enter Tryz.func65, Tryz.ntmps65
  go_wp2_with (go_at_call 19; refine (deci_any _ _ (by omega) (by omega)).mono ?_; rintro e w' ⟨rfl, rfl⟩)
  go_ret
  exact ⟨ret_str E.out, bel1 _ _⟩
 ·have hd' : (d != 1) = true := by simp [hd]
  obtain ⟨s1, S1, a1⟩ := add_x (bsL (Lib.itoa n)) ⟨#[47]⟩ (Lib.itoa n) ([47]) rfl rfl (by simp only [List.length_append, List.length_cons, List.length_nil]; omega)
  obtain ⟨s2, S2, a2⟩ := add_x s1 (bsL (Lib.itoa d)) (Lib.itoa n ++ [47]) (Lib.itoa d) S1.out rfl (by simp only [List.length_append, List.length_cons, List.length_nil]; omega)
  obtain ⟨s3, S3, a3⟩ := add_x ⟨#[40]⟩ s2 ([40]) ((Lib.itoa n ++ [47]) ++ Lib.itoa d) rfl S2.out (by simp only [List.length_append, List.length_cons, List.length_nil]; omega)
  obtain ⟨s4, S4, a4⟩ := add_x s3 ⟨#[41]⟩ ([40] ++ ((Lib.itoa n ++ [47]) ++ Lib.itoa d)) ([41]) S3.out rfl (by simp only [List.length_append, List.length_cons, List.length_nil]; omega)
  have E : Box (s4 = bsL (numL n d)) := ⟨by rw [S4.out]; unfold numL natE numB absI; rw [if_neg hn, if_neg hn, if_neg hd]; simp [hd]⟩
  clear z1 z2 z3 hd
  go_enter Tryz.func65, Tryz.ntmps65
  go_wp2_with (go_at_call 19; refine (deci_any _ _ (by omega) (by omega)).mono ?_; rintro e w' ⟨rfl, rfl⟩)
  go_ret
  exact ⟨ret_str E.out, bel1 _ _⟩
end
section
open Go.RowKit FracM
end
section
open Go.RowKit FracM
end
end Go.Proofs.YthoibeajhdhdhaaGreatDoor
