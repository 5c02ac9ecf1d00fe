/- Contracts, packed: Sj Sr Sh Sp. -/
import Derived.Test.YtpgdijbfkahepaaGreatDoorPd18
import Derived.Test.YtpgdijbfkahepaaGreatDoorPd28
import Derived.Test.YtpgdijbfkahepaaGreatDoorPd29
import Derived.ArgAppend
import Derived.Deep.DeepAppendRoom
import Derived.Deep.RegionHeld3
set_option linter.unusedVariables false
set_option linter.unusedSimpArgs false
namespace Go.Proofs.YtpgdijbfkahepaaGreatDoor
section
open Go.RowKit FracM
section
variable {P : Program} (w : World)
end
end
section
open Go Go.RowKit
section
variable {P : Program} {ops : Array Oper} {Q : Exit → Act → World → Prop} {md : Region.Mode} {S : World → Prop} {e : Nat}
/-- as wpAnyH, S being asked behind every operation but e -/
def wpAnyT (P : Program) (md : Region.Mode) (ops : Array Oper) (Q : Exit → Act → World → Prop) (S : World → Prop) (e : Nat) : Nat → Array Bool → Act → World → Prop
 | 0, listed, a, w => Region.ready md ops listed = [] ∧ Q .normal a w
 | fuel + 1, listed, a, w =>
  (Region.ready md ops listed = [] → Q .normal a w) ∧
  ∀ i ∈ Region.ready md ops listed, wpOp P ops Q i (fun a' w' => (i ≠ e → S w') ∧ wpAnyT P md ops Q S e fuel (listed.setIfInBounds i true) a' w') a w
theorem wpAny_of_T : ∀ (fuel : Nat) (listed : Array Bool) (a : Act) (w : World), wpAnyT P md ops Q S e fuel listed a w → wpAny P md ops Q fuel listed a w
 | 0, _, _, _, h => h
 | fuel + 1, _, _, _, h => ⟨h.1, fun i hi => wpOp_mono (fun a' w' h' => wpAny_of_T fuel _ a' w' h'.2) (h.2 i hi)⟩
/-- operation e waits for operation i -/
def waits (md : Region.Mode) (ops : Array Oper) (e i : Nat) : Bool :=
 match ops[e]? with
 | some o => o.after.any (fun x => x.on == i && Region.binds md x)
 | none => false
theorem not_ready_of_waits {i : Nat} {listed : Array Bool} (hw : waits md ops e i = true) (hl : listed.getD i true = false) : e ∉ Region.ready md ops listed := by
 intro hr
 obtain ⟨_, o, ho, hall⟩ := mem_ready.1 hr
 unfold waits at hw
 rw [ho] at hw
 simp only [Array.any_eq_true] at hw
 obtain ⟨k, hk, hx⟩ := hw
 simp only [Bool.and_eq_true, beq_iff_eq] at hx
 have h1 := hall _ (Array.getElem_mem hk) hx.2
 rw [hx.1] at h1
 rcases Nat.lt_or_ge i listed.size with h' | h'
 ·simp [h'] at hl h1; rw [hl] at h1; cases h1
 ·simp [Array.getElem?_eq_none h'] at h1
theorem wpAnyT_first {i : Nat} {oi : Oper} {v : Value} (hi : ops[i]? = some oi) (hsel : ∀ (j : Nat) (o : Oper) cs b, ops[j]? = some o → o.op ≠ .select cs b)
  (hQ : ∀ c a w, Q (.panic c) (a.put oi.dst v) w → Q (.panic c) a w) (hwt : waits md ops e i = true) (hie : i ≠ e) :
  ∀ (fuel : Nat) (listed : Array Bool) (a : Act) (w : World),
   (∀ j oj, ops[j]? = some oj → j ≠ i → listed.getD j true = false → (∀ x ∈ oj.after, Region.binds md x = true → x.on ≠ i) → oi.apart ops oj = true) →
   i ∈ Region.ready md ops listed → YieldsIf P ops S oi v a → S w →
   wpAnyT P md ops Q S e fuel (listed.setIfInBounds i true) (a.put oi.dst v) w → wpAnyT P md ops Q S e (fuel + 1) listed a w := by
 intro fuel
 induction fuel with
 | zero =>
  intro listed a w _ hr hy hS H
  refine ⟨fun h => (by rw [h] at hr; cases hr), fun j hj => ?_⟩
  by_cases hji : j = i
  ·subst hji; exact hy.wpOp hi hS ⟨fun _ => hS, H⟩
  ·have := ready_mono hj hji
   rw [H.1] at this
   cases this
 | succ fuel ih =>
  intro listed a w hfree hr hy hS H
  refine ⟨fun h => (by rw [h] at hr; cases hr), fun j hj => ?_⟩
  by_cases hji : j = i
  ·subst hji; exact hy.wpOp hi hS ⟨fun _ => hS, H⟩
  ·have hje : j ≠ e := fun h => not_ready_of_waits hwt (mem_ready.1 hr).1 (h ▸ hj)
   have h1 := H.2 j (ready_mono hj hji)
   obtain ⟨hjun, oj, hoj, hall⟩ := mem_ready.1 hj
   have hnot : ∀ x ∈ oj.after, Region.binds md x = true → x.on ≠ i := fun x hx hb heq => by
    have h1 := hall x hx hb
    have h0 := (mem_ready.1 hr).1
    rw [heq] at h1
    rcases Nat.lt_or_ge i listed.size with h' | h'
    ·simp [h'] at h0 h1; rw [h0] at h1; cases h1
    ·simp [Array.getElem?_eq_none h'] at h1
   have h2 := wpOp_putIf hoj (hfree j oj hoj hji hjun hnot) (fun cs b => hsel i oi cs b hi) (fun cs b => hsel j oj cs b hoj) hQ hy h1
   have hfree' : ∀ k ok, ops[k]? = some ok → k ≠ i → (listed.setIfInBounds j true).getD k true = false →
     (∀ x ∈ ok.after, Region.binds md x = true → x.on ≠ i) → oi.apart ops ok = true := fun k ok hk hki hun hno => by
    refine hfree k ok hk hki ?_ hno
    by_cases hjk : j = k
    ·subst hjk; exact hjun
    ·rw [getD_set_ne true hjk] at hun; exact hun
   refine wpOp_mono (fun a' w' h3 => ⟨h3.2.1, ih (listed.setIfInBounds j true) a' w' hfree' (ready_mono hr (Ne.symm hji)) h3.1 (h3.2.1 hje) ?_⟩) h2
   rw [Array.setIfInBounds_comm _ _ hji]
   exact h3.2.2
theorem wpAnyT_take {i : Nat} {oi : Oper} {v : Value} {fuel : Nat} {listed : Array Bool} {a : Act} {w : World} (hi : ops[i]? = some oi)
  (hs : Region.noSelect ops = true) (hf : Region.free md ops listed i = true) (hr : (Region.ready md ops listed).contains i = true)
  (hQ : ∀ c a w, Q (.panic c) (a.put oi.dst v) w → Q (.panic c) a w) (hwt : waits md ops e i = true) (hie : i ≠ e) (hy : YieldsIf P ops S oi v a) (hS : S w)
  (h : wpAnyT P md ops Q S e fuel (listed.setIfInBounds i true) (a.put oi.dst v) w) : wpAnyT P md ops Q S e (fuel + 1) listed a w :=
 wpAnyT_first hi (Region.noSelect_spec hs) hQ hwt hie fuel listed a w (Region.free_spec hi hf) (by simpa using hr) hy hS h
/-- whichever comes up -/
theorem wpAnyT_all {rs : List Nat} {fuel : Nat} {listed : Array Bool} {a : Act} {w : World} (hr : Region.ready md ops listed = rs) (hne : rs ≠ [])
  (h : ∀ i ∈ rs, wpOp P ops Q i (fun a' w' => (i ≠ e → S w') ∧ wpAnyT P md ops Q S e fuel (listed.setIfInBounds i true) a' w') a w) : wpAnyT P md ops Q S e (fuel + 1) listed a w :=
 ⟨fun h0 => absurd (hr ▸ h0) hne, hr ▸ h⟩
theorem wpAnyT_op {fuel : Nat} {listed : Array Bool} {a : Act} {w : World} {i : Nat} {o : Oper} (ho : ops[i]? = some o)
  (h : ∀ K' : Act → World → Prop, Shut (∀ a w, (i ≠ e → S w) → ((i ≠ e → S w) → wpAnyT P md ops Q S e fuel (listed.setIfInBounds i true) a w) → K' a w) → if Region.wanted o (yielded ops a.tmps) = true then Oper.wp P o a w K' Q else K' (a.put o.dst undef) w) :
  wpOp P ops Q i (fun a' w' => (i ≠ e → S w') ∧ wpAnyT P md ops Q S e fuel (listed.setIfInBounds i true) a' w') a w :=
 wpOp_step ho (fun K' hK => h K' (fun a w hS hW => hK a w ⟨hS, hW hS⟩))
theorem wpAnyT_one {fuel : Nat} {listed : Array Bool} {a : Act} {w : World} (i : Nat) {o : Oper} (hr : Region.ready md ops listed = [i]) (ho : ops[i]? = some o)
  (h : ∀ K' : Act → World → Prop, Shut (∀ a w, (i ≠ e → S w) → ((i ≠ e → S w) → wpAnyT P md ops Q S e fuel (listed.setIfInBounds i true) a w) → K' a w) → if Region.wanted o (yielded ops a.tmps) = true then Oper.wp P o a w K' Q else K' (a.put o.dst undef) w) : wpAnyT P md ops Q S e (fuel + 1) listed a w :=
 wpAnyT_all hr (by simp) fun j hj => by
  rw [List.mem_singleton] at hj
  subst hj
  exact wpAnyT_op ho h
theorem wpAnyT_done {listed : Array Bool} {a : Act} {w : World} (hr : Region.ready md ops listed = []) (h : Q .normal a w) :
  ∀ fuel, wpAnyT P md ops Q S e fuel listed a w
 | 0 => ⟨hr, h⟩
 | _ + 1 => ⟨fun _ => h, by rw [hr]; simp⟩
/-- the beginning -/
theorem wp_region_T (e : Nat) {id : Nat} {a : Act} {w : World} (hm : P.follows .mixedOrders = true) (hS : S w.drew)
  (h : S w.drew → wpAnyT P .any ops Q S e ops.size (Array.replicate ops.size false) a w.drew) : (Code.region id ops true).wp P Q a w :=
 wp_region_any hm (wpAny_of_T _ _ _ _ (h hS))
end
end
section
open Go.RowKit FracM
theorem shaped_k {d : Nd} {n : Nat} (h : shapedB d n = true) (h1 : d.kind ≠ 1) (h2 : d.kind ≠ 2) : d.k = 0 := by
 rcases shape_cases h with ⟨k1, k2⟩ | ⟨k1, k2, k3, k4⟩ | ⟨k1, k2, k3, k4⟩ | ⟨k1, k2, k3, k4⟩
 ·unfold shapedB at h
  rw [if_pos k1] at h
  simp at h
  omega
 ·omega
 ·omega
 ·unfold shapedB at h
  rw [if_neg (by omega), if_neg (by omega), if_neg (by omega), if_pos k1] at h
  simp at h
  omega
set_option maxHeartbeats 2000000 in
set_option maxRecDepth 100000 in
theorem rcheck_any : ∀ t, ∀ (P : Nat → Nat → Prop) (w : World) (s : Sl), TreeAt w P t s → Calls Tryz.prog 30 #[.agg (ndC t.d s.1 s.2.1 s.2.2)] w (RetB (.int .i64 (chk t)) w) := by
 refine Tree.ind ?_
 intro d ks ih P w ⟨mv, bv, kv⟩ hT
 have IH := Box.mk ih
 have HN := Lib.hid (N1.start hT)
 obtain ⟨A1, n1, hmv, l1⟩ := hT.nod.ms.form
 obtain ⟨A2, n2, hbv, l2⟩ := hT.nod.bys.form
 obtain ⟨A3, n3, hkv, l3⟩ := hT.nod.kform
 subst hmv hbv hkv
 obtain ⟨fin, hfin⟩ : ∃ z, chk (.node d ks) = z := ⟨_, rfl⟩
 rw [hfin]
 rw [chk] at hfin
 have HF := Box.mk hfin
 clear hT ih hfin
 simp only [Tree.d]
 go_enter Tryz.func30, Tryz.ntmps30
 go_upto_region 1 with (fail)
 generalize w.alloc (.cells (ndC d _ _ _) 35) = W at HN ⊢
 obtain ⟨c0, c1, c2, c3, c4, c5, c6, c7, c8, c9, c10⟩ := HN.out.c
 simp only [Nat.zero_add] at c1 c2 c3 c4 c5 c6 c7 c8 c9 c10
 go_wp2_with fail
 refine (rshaped_any d ks P _ _ _ _ HN.out.nod.tree).mono ?_
 rintro e w1 ⟨rfl, hb⟩
 clear c0 c1 c2 c3 c4 c5 c6 c7 c8 c9 c10
 have HN2 := Lib.hid (HN.out.next hb); clear HN hb
 obtain ⟨c0, c1, c2, c3, c4, c5, c6, c7, c8, c9, c10⟩ := HN2.out.c
 simp only [Nat.zero_add] at c1 c2 c3 c4 c5 c6 c7 c8 c9 c10
 obtain ⟨sb, E1⟩ : ∃ z, Box (shapedB d ks.length = z) := ⟨_, ⟨rfl⟩⟩
 rw [E1.out]
 cases sb
 ·go_wp2_with fail
  go_ret
  exact ⟨ret_int (by rw [← HF.out]; unfold chk1; rw [E1.out]; rfl), HN2.out.below⟩
 go_wp2_with fail
 refine (rnamed_any d ks P _ _ _ _ HN2.out.nod.tree).mono ?_
 rintro e w2 ⟨rfl, hb⟩
 clear c0 c1 c2 c3 c4 c5 c6 c7 c8 c9 c10
 have HN := Lib.hid (HN2.out.next hb); clear HN2 hb
 obtain ⟨c0, c1, c2, c3, c4, c5, c6, c7, c8, c9, c10⟩ := HN.out.c
 simp only [Nat.zero_add] at c1 c2 c3 c4 c5 c6 c7 c8 c9 c10
 obtain ⟨nb, E2⟩ : ∃ z, Box (namedB d = z) := ⟨_, ⟨rfl⟩⟩
 rw [E2.out]
 cases nb
 ·go_wp2_with fail
  go_ret
  exact ⟨ret_int (by rw [← HF.out]; unfold chk1; rw [E1.out, E2.out]; rfl), HN.out.below⟩
 by_cases hbig : 8 < d.ms.length ∨ 8 < d.bys.length
 ·have E3 : Box (chk1 d ks.length = 4) := ⟨by unfold chk1; rw [E1.out, E2.out, if_pos hbig]; rfl⟩
  by_cases hb1 : 8 < d.ms.length
  ·go_wp2_with fail
   go_ret
   exact ⟨ret_int (by rw [← HF.out, E3.out]; rfl), HN.out.below⟩
  ·have hb2 : 8 < d.bys.length := by omega
   go_wp2_with fail
   go_ret
   exact ⟨ret_int (by rw [← HF.out, E3.out]; rfl), HN.out.below⟩
 have hb1 : ¬ 8 < d.ms.length := by omega
 have hb2 : ¬ 8 < d.bys.length := by omega
 have HBG := Box.mk hbig
 clear hbig
 go_wp2_with fail
 refine (rwithin_any d ks P _ _ _ _ HN.out.nod.tree ⟨(shaped_kind E1.out).1, (shaped_kind E1.out).2.1⟩ (shaped_k E1.out)).mono ?_
 rintro e w3 ⟨rfl, hb⟩
 clear c0 c1 c2 c3 c4 c5 c6 c7 c8 c9 c10
 have HN2 := Lib.hid (HN.out.next hb); clear HN hb
 obtain ⟨rb, E3⟩ : ∃ z, Box (rangedB d = z) := ⟨_, ⟨rfl⟩⟩
 rw [E3.out]
 cases rb
 ·go_wp2_with fail
  go_ret
  exact ⟨ret_int (by rw [← HF.out]; unfold chk1; rw [E1.out, E2.out, E3.out, if_neg HBG.out]; rfl), HN2.out.below⟩
 have HF2 : Box (chkL ks = fin) := ⟨by rw [← HF.out]; unfold chk1; rw [E1.out, E2.out, E3.out, if_neg HBG.out]; rfl⟩
 clear E1 E2 E3 HBG HF hb1 hb2
 go_wp2_with fail
 go_loopw [3] (fun v wr => ∃ k : Nat, k ≤ ks.length ∧ v = .int .i64 (k : Nat) ∧ N1 w wr P d ks (.slice A1 d.ms.length n1) (.slice A2 d.bys.length n2) (.slice A3 ks.length n3) ∧ Box (chkL (ks.drop k) = fin)) (fun v _ => ks.length - (intOf v).toNat)
 case atStart => exact ⟨0, by omega, rfl, HN2.out, HF2⟩
 case round =>
  clear HN2 HF2
  obtain ⟨k, hk, rfl, hN, HA⟩ := hrel
  have HN := Lib.hid hN; clear hN
  have c10 := (blk11z HN.out.blk).2.2.2.2.2.2.2.2.2.2
  by_cases hlt : k < ks.length
  ·obtain ⟨x, hx⟩ : ∃ x, ks[k]? = some x := ⟨ks[k], List.getElem?_eq_getElem _⟩
   obtain ⟨e, es⟩ := x
   obtain ⟨b, off, mv', bv', kv', rfl, hb, hpb, ⟨k0, k1, k2, k3, k4, k5, k6, k7, k8, k9, k10⟩, hT'⟩ := HN.out.nod.kid k e es hx
   obtain ⟨B1, m1, rfl, -⟩ := hT'.nod.ms.form
   obtain ⟨B2, m2, rfl, -⟩ := hT'.nod.bys.form
   obtain ⟨B3, m3, rfl, -⟩ := hT'.nod.kform
   have HT' := Box.mk hT'
   have HX := Box.mk hx
   have hlt2 : (k : Int) < (ks.length : Int) := by omega
   have HD : Box (ks.drop k = .node e es :: ks.drop (k + 1)) := ⟨by
    rw [List.drop_eq_getElem_cons hlt, (List.getElem?_eq_some_iff.1 hx).2]⟩
   clear hT' hx
   go_wp2_with fail
   refine (IH.out (.node e es) (List.mem_of_getElem? HX.out) P _ (.slice B1 e.ms.length m1, .slice B2 e.bys.length m2, .slice B3 es.length m3) HT'.out).mono ?_
   rintro e1 w1 ⟨rfl, hb1⟩
   have HN4 := Lib.hid (HN.out.next hb1)
   clear HN hb1 k0 k1 k2 k3 k4 k5 k6 k7 k8 k9 k10 c10
   obtain ⟨q, E1⟩ : ∃ z, Box (chk (.node e es) = z) := ⟨_, ⟨rfl⟩⟩
   rw [E1.out]
   by_cases hq : q = 0
   ·subst hq
    go_wp2_with fail
    go_roundw
    case rel => exact ⟨k + 1, by omega, by go_num, HN4.out, ⟨by rw [← HA.out, HD.out, chkL, if_pos E1.out]⟩⟩
    case measure => simp [intOf]; omega
   ·have hq2 : (q != 0) = true := by simpa using hq
    have hq3 : (q == 0) = false := by simpa using hq
    go_wp2_with fail
    go_ret
    exact ⟨ret_int (by rw [← HA.out, HD.out, chkL, E1.out, if_neg hq]), HN4.out.below⟩
  ·have hlt2 : ¬ (k : Int) < (ks.length : Int) := by omega
   go_wp2_with fail
   go_ret
   exact ⟨ret_int (by rw [← HA.out, List.drop_eq_nil_of_le (by omega), chkL]), HN.out.below⟩
set_option maxHeartbeats 1000000 in
theorem rpvalid_any (t : Tree) (P : Nat → Nat → Prop) (w : World) (s : Sl) (hT : TreeAt w P t s) (hn : nds t ≤ 1000000) (hd : dep t ≤ 1000000) : Calls Tryz.prog 14 #[.agg (ndC t.d s.1 s.2.1 s.2.2)] w (RetB (.int .i64 (validE t)) w) := by
 obtain ⟨d, ks⟩ := t
 obtain ⟨mv, bv, kv⟩ := s
 have HN := Lib.hid (N1.start hT)
 clear hT
 simp only [Tree.d]
 go_enter Tryz.func14, Tryz.ntmps14
 go_upto_region 1 with (fail)
 generalize w.alloc (.cells (ndC d _ _ _) 35) = W at HN ⊢
 obtain ⟨c0, c1, c2, c3, c4, c5, c6, c7, c8, c9, c10⟩ := HN.out.c
 simp only [Nat.zero_add] at c1 c2 c3 c4 c5 c6 c7 c8 c9 c10
 go_wp2_with fail
 refine (depth_any (.node d ks) P _ (mv, bv, kv) HN.out.nod.tree hd).mono ?_
 rintro e w1 ⟨rfl, hb⟩
 clear c0 c1 c2 c3 c4 c5 c6 c7 c8 c9 c10
 have HN2 := Lib.hid (HN.out.next hb); clear HN hb
 obtain ⟨c0, c1, c2, c3, c4, c5, c6, c7, c8, c9, c10⟩ := HN2.out.c
 simp only [Nat.zero_add] at c1 c2 c3 c4 c5 c6 c7 c8 c9 c10
 obtain ⟨q, E1⟩ : ∃ z, Box (dep (.node d ks) = z) := ⟨_, ⟨rfl⟩⟩
 rw [E1.out] at hd ⊢
 by_cases hq : 12 < q
 ·have hq2 : 12 < (q : Int) := by omega
  go_wp2_with fail
  go_ret
  exact ⟨ret_int (by unfold validE fitB; rw [E1.out, decide_eq_false (show ¬ q ≤ 12 by omega)]; simp), HN2.out.below⟩
 have hq2 : ¬ 12 < (q : Int) := by omega
 go_wp2_with fail
 refine (nodes_any (.node d ks) P _ (mv, bv, kv) HN2.out.nod.tree hn).mono ?_
 rintro e w1' ⟨rfl, hb⟩
 clear c0 c1 c2 c3 c4 c5 c6 c7 c8 c9 c10
 have HN := Lib.hid (HN2.out.next hb); clear HN2 hb
 obtain ⟨c0, c1, c2, c3, c4, c5, c6, c7, c8, c9, c10⟩ := HN.out.c
 simp only [Nat.zero_add] at c1 c2 c3 c4 c5 c6 c7 c8 c9 c10
 obtain ⟨p, E2⟩ : ∃ z, Box (nds (.node d ks) = z) := ⟨_, ⟨rfl⟩⟩
 rw [E2.out] at hn ⊢
 by_cases hp : 200 < p
 ·have hp2 : 200 < (p : Int) := by omega
  go_wp2_with fail
  go_ret
  exact ⟨ret_int (by unfold validE fitB; rw [E1.out, E2.out, decide_eq_false (show ¬ p ≤ 200 by omega)]; simp), HN.out.below⟩
 have hp2 : ¬ 200 < (p : Int) := by omega
 go_wp2_with fail
 refine (rcheck_any (.node d ks) P _ (mv, bv, kv) HN.out.nod.tree).mono ?_
 rintro e w2 ⟨rfl, hb⟩
 clear c0 c1 c2 c3 c4 c5 c6 c7 c8 c9 c10
 have HB := Lib.hid (HN.out.next hb).below; clear HN hb
 go_wp2_with fail
 go_ret
 exact ⟨ret_int (by unfold validE fitB; rw [E1.out, E2.out, decide_eq_true (show p ≤ 200 by omega), decide_eq_true (show q ≤ 12 by omega)]; rfl), HB.out⟩
end
section
open Go.RowKit FracM
theorem nd_one {w : World} {P : Nat → Nat → Prop} {t : Tree} {s : Sl} (h : TreeAt w P t s) : ∀ u ∈ ndL (t, s), u.oneCell' = true := by
 obtain ⟨d, ks⟩ := t
 obtain ⟨mv, bv, kv⟩ := s
 obtain ⟨A1, n1, rfl, -⟩ := h.nod.ms.form
 obtain ⟨A2, n2, rfl, -⟩ := h.nod.bys.form
 obtain ⟨A3, n3, rfl, -⟩ := h.nod.kform
 intro u hu
 simp [ndL, Tree.d] at hu
 rcases hu with rfl | rfl | rfl | rfl | rfl | rfl | rfl | rfl | rfl | rfl | rfl <;> rfl
end
end Go.Proofs.YtpgdijbfkahepaaGreatDoor
