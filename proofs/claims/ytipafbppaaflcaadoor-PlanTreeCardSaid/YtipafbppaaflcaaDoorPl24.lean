/- Contracts, packed: Sr Sk. -/
import Derived.Test.YtipafbppaaflcaaDoorPl22
import Derived.Test.YtipafbppaaflcaaDoorPl23
import Derived.Deep.RegionHeld3
set_option linter.unusedVariables false
set_option linter.unusedSimpArgs false
namespace Go.Proofs.YtipafbppaaflcaaDoor
section
open Go Go.RowKit
section
variable {P : Program} {ops : Array Oper} {Q : Exit → Act → World → Prop} {md : Region.Mode} {S : World → Prop} {e : Nat}
/-- as wpAnyH, S being asked behind every operation but e -/
def wpAnyT (P : Program) (md : Region.Mode) (ops : Array Oper) (Q : Exit → Act → World → Prop) (S : World → Prop) (e : Nat) : Nat → Array Bool → Act → World → Prop
 | 0, listed, a, w => Region.ready md ops listed = [] ∧ Q .normal a w
 | fuel + 1, listed, a, w =>
  (Region.ready md ops listed = [] → Q .normal a w) ∧
  ∀ i ∈ Region.ready md ops listed, wpOp P ops Q i (fun a' w' => (i ≠ e → S w') ∧ wpAnyT P md ops Q S e fuel (listed.setIfInBounds i true) a' w') a w
theorem wpAny_of_T : ∀ (fuel : Nat) (listed : Array Bool) (a : Act) (w : World), wpAnyT P md ops Q S e fuel listed a w → wpAny P md ops Q fuel listed a w
 | 0, _, _, _, h => h
 | fuel + 1, _, _, _, h => ⟨h.1, fun i hi => wpOp_mono (fun a' w' h' => wpAny_of_T fuel _ a' w' h'.2) (h.2 i hi)⟩
/-- operation e waits for operation i -/
def waits (md : Region.Mode) (ops : Array Oper) (e i : Nat) : Bool :=
 match ops[e]? with
 | some o => o.after.any (fun x => x.on == i && Region.binds md x)
 | none => false
theorem not_ready_of_waits {i : Nat} {listed : Array Bool} (hw : waits md ops e i = true) (hl : listed.getD i true = false) : e ∉ Region.ready md ops listed := by
 intro hr
 obtain ⟨_, o, ho, hall⟩ := mem_ready.1 hr
 unfold waits at hw
 rw [ho] at hw
 simp only [Array.any_eq_true] at hw
 obtain ⟨k, hk, hx⟩ := hw
 simp only [Bool.and_eq_true, beq_iff_eq] at hx
 have h1 := hall _ (Array.getElem_mem hk) hx.2
 rw [hx.1] at h1
 rcases Nat.lt_or_ge i listed.size with h' | h'
 ·simp [h'] at hl h1; rw [hl] at h1; cases h1
 ·simp [Array.getElem?_eq_none h'] at h1
theorem wpAnyT_first {i : Nat} {oi : Oper} {v : Value} (hi : ops[i]? = some oi) (hsel : ∀ (j : Nat) (o : Oper) cs b, ops[j]? = some o → o.op ≠ .select cs b)
  (hQ : ∀ c a w, Q (.panic c) (a.put oi.dst v) w → Q (.panic c) a w) (hwt : waits md ops e i = true) (hie : i ≠ e) :
  ∀ (fuel : Nat) (listed : Array Bool) (a : Act) (w : World),
   (∀ j oj, ops[j]? = some oj → j ≠ i → listed.getD j true = false → (∀ x ∈ oj.after, Region.binds md x = true → x.on ≠ i) → oi.apart ops oj = true) →
   i ∈ Region.ready md ops listed → YieldsIf P ops S oi v a → S w →
   wpAnyT P md ops Q S e fuel (listed.setIfInBounds i true) (a.put oi.dst v) w → wpAnyT P md ops Q S e (fuel + 1) listed a w := by
 intro fuel
 induction fuel with
 | zero =>
  intro listed a w _ hr hy hS H
  refine ⟨fun h => (by rw [h] at hr; cases hr), fun j hj => ?_⟩
  by_cases hji : j = i
  ·subst hji; exact hy.wpOp hi hS ⟨fun _ => hS, H⟩
  ·have := ready_mono hj hji
   rw [H.1] at this
   cases this
 | succ fuel ih =>
  intro listed a w hfree hr hy hS H
  refine ⟨fun h => (by rw [h] at hr; cases hr), fun j hj => ?_⟩
  by_cases hji : j = i
  ·subst hji; exact hy.wpOp hi hS ⟨fun _ => hS, H⟩
  ·have hje : j ≠ e := fun h => not_ready_of_waits hwt (mem_ready.1 hr).1 (h ▸ hj)
   have h1 := H.2 j (ready_mono hj hji)
   obtain ⟨hjun, oj, hoj, hall⟩ := mem_ready.1 hj
   have hnot : ∀ x ∈ oj.after, Region.binds md x = true → x.on ≠ i := fun x hx hb heq => by
    have h1 := hall x hx hb
    have h0 := (mem_ready.1 hr).1
    rw [heq] at h1
    rcases Nat.lt_or_ge i listed.size with h' | h'
    ·simp [h'] at h0 h1; rw [h0] at h1; cases h1
    ·simp [Array.getElem?_eq_none h'] at h1
   have h2 := wpOp_putIf hoj (hfree j oj hoj hji hjun hnot) (fun cs b => hsel i oi cs b hi) (fun cs b => hsel j oj cs b hoj) hQ hy h1
   have hfree' : ∀ k ok, ops[k]? = some ok → k ≠ i → (listed.setIfInBounds j true).getD k true = false →
     (∀ x ∈ ok.after, Region.binds md x = true → x.on ≠ i) → oi.apart ops ok = true := fun k ok hk hki hun hno => by
    refine hfree k ok hk hki ?_ hno
    by_cases hjk : j = k
    ·subst hjk; exact hjun
    ·rw [getD_set_ne true hjk] at hun; exact hun
   refine wpOp_mono (fun a' w' h3 => ⟨h3.2.1, ih (listed.setIfInBounds j true) a' w' hfree' (ready_mono hr (Ne.symm hji)) h3.1 (h3.2.1 hje) ?_⟩) h2
   rw [Array.setIfInBounds_comm _ _ hji]
   exact h3.2.2
theorem wpAnyT_take {i : Nat} {oi : Oper} {v : Value} {fuel : Nat} {listed : Array Bool} {a : Act} {w : World} (hi : ops[i]? = some oi)
  (hs : Region.noSelect ops = true) (hf : Region.free md ops listed i = true) (hr : (Region.ready md ops listed).contains i = true)
  (hQ : ∀ c a w, Q (.panic c) (a.put oi.dst v) w → Q (.panic c) a w) (hwt : waits md ops e i = true) (hie : i ≠ e) (hy : YieldsIf P ops S oi v a) (hS : S w)
  (h : wpAnyT P md ops Q S e fuel (listed.setIfInBounds i true) (a.put oi.dst v) w) : wpAnyT P md ops Q S e (fuel + 1) listed a w :=
 wpAnyT_first hi (Region.noSelect_spec hs) hQ hwt hie fuel listed a w (Region.free_spec hi hf) (by simpa using hr) hy hS h
/-- whichever comes up -/
theorem wpAnyT_all {rs : List Nat} {fuel : Nat} {listed : Array Bool} {a : Act} {w : World} (hr : Region.ready md ops listed = rs) (hne : rs ≠ [])
  (h : ∀ i ∈ rs, wpOp P ops Q i (fun a' w' => (i ≠ e → S w') ∧ wpAnyT P md ops Q S e fuel (listed.setIfInBounds i true) a' w') a w) : wpAnyT P md ops Q S e (fuel + 1) listed a w :=
 ⟨fun h0 => absurd (hr ▸ h0) hne, hr ▸ h⟩
theorem wpAnyT_op {fuel : Nat} {listed : Array Bool} {a : Act} {w : World} {i : Nat} {o : Oper} (ho : ops[i]? = some o)
  (h : ∀ K' : Act → World → Prop, Shut (∀ a w, (i ≠ e → S w) → ((i ≠ e → S w) → wpAnyT P md ops Q S e fuel (listed.setIfInBounds i true) a w) → K' a w) → if Region.wanted o (yielded ops a.tmps) = true then Oper.wp P o a w K' Q else K' (a.put o.dst undef) w) :
  wpOp P ops Q i (fun a' w' => (i ≠ e → S w') ∧ wpAnyT P md ops Q S e fuel (listed.setIfInBounds i true) a' w') a w :=
 wpOp_step ho (fun K' hK => h K' (fun a w hS hW => hK a w ⟨hS, hW hS⟩))
theorem wpAnyT_one {fuel : Nat} {listed : Array Bool} {a : Act} {w : World} (i : Nat) {o : Oper} (hr : Region.ready md ops listed = [i]) (ho : ops[i]? = some o)
  (h : ∀ K' : Act → World → Prop, Shut (∀ a w, (i ≠ e → S w) → ((i ≠ e → S w) → wpAnyT P md ops Q S e fuel (listed.setIfInBounds i true) a w) → K' a w) → if Region.wanted o (yielded ops a.tmps) = true then Oper.wp P o a w K' Q else K' (a.put o.dst undef) w) : wpAnyT P md ops Q S e (fuel + 1) listed a w :=
 wpAnyT_all hr (by simp) fun j hj => by
  rw [List.mem_singleton] at hj
  subst hj
  exact wpAnyT_op ho h
theorem wpAnyT_two {fuel : Nat} {listed : Array Bool} {a : Act} {w : World} (i j : Nat) {o p : Oper} (hr : Region.ready md ops listed = [i, j]) (ho : ops[i]? = some o) (hp : ops[j]? = some p)
  (h1 : ∀ K' : Act → World → Prop, Shut (∀ a w, (i ≠ e → S w) → ((i ≠ e → S w) → wpAnyT P md ops Q S e fuel (listed.setIfInBounds i true) a w) → K' a w) → if Region.wanted o (yielded ops a.tmps) = true then Oper.wp P o a w K' Q else K' (a.put o.dst undef) w)
  (h2 : ∀ K' : Act → World → Prop, Shut (∀ a w, (j ≠ e → S w) → ((j ≠ e → S w) → wpAnyT P md ops Q S e fuel (listed.setIfInBounds j true) a w) → K' a w) → if Region.wanted p (yielded ops a.tmps) = true then Oper.wp P p a w K' Q else K' (a.put p.dst undef) w) : wpAnyT P md ops Q S e (fuel + 1) listed a w :=
 wpAnyT_all hr (by simp) fun k hk => by
  rw [List.mem_cons, List.mem_singleton] at hk
  rcases hk with hk | hk
  ·subst hk; exact wpAnyT_op ho h1
  ·subst hk; exact wpAnyT_op hp h2
theorem wpAnyT_done {listed : Array Bool} {a : Act} {w : World} (hr : Region.ready md ops listed = []) (h : Q .normal a w) :
  ∀ fuel, wpAnyT P md ops Q S e fuel listed a w
 | 0 => ⟨hr, h⟩
 | _ + 1 => ⟨fun _ => h, by rw [hr]; simp⟩
/-- the condition may grow in the midst of a region -/
theorem wpAnyT_more {SS2 : World → Prop} (hS : ∀ w, SS2 w → S w) : ∀ {fuel : Nat} {listed : Array Bool} {a : Act} {w : World}, wpAnyT P md ops Q SS2 e fuel listed a w → wpAnyT P md ops Q S e fuel listed a w := by
 intro fuel
 induction fuel with
 | zero => intro listed a w h; exact h
 | succ fuel ih =>
  intro listed a w h
  exact ⟨h.1, fun i hi => wpOp_mono (fun a' w' h' => ⟨fun hne => hS _ (h'.1 hne), ih h'.2⟩) (h.2 i hi)⟩
/-- the beginning -/
theorem wp_region_T (e : Nat) {id : Nat} {a : Act} {w : World} (hm : P.follows .mixedOrders = true) (hS : S w.drew)
  (h : S w.drew → wpAnyT P .any ops Q S e ops.size (Array.replicate ops.size false) a w.drew) : (Code.region id ops true).wp P Q a w :=
 wp_region_any hm (wpAny_of_T _ _ _ _ (h hS))
end
end
section
open Go.RowKit FracM
set_option maxHeartbeats 4000000 in
set_option maxRecDepth 100000 in
theorem rnamed_any (d : Nd) (ks : List Tree) (P : Nat → Nat → Prop) (w : World) (mv bv kv : Value) (hT : TreeAt w P (.node d ks) (mv, bv, kv)) : Calls Tryd.prog 86 #[.agg (ndC d mv bv kv)] w (RetB (.bool (namedB d)) w) := by
 have HN := Lib.hid (N1.start hT)
 obtain ⟨A1, n1, rfl, l1⟩ := hT.nod.ms.form
 obtain ⟨A2, n2, rfl, l2⟩ := hT.nod.bys.form
 have HO := Box.mk hT.nod.ok
 clear hT
 go_enter Tryd.func86, Tryd.ntmps86
 go_upto_region 1 with (fail)
 generalize w.alloc (.cells (ndC d _ _ _) 29) = W at HN ⊢
 obtain ⟨c0, c1, c2, c3, c4, c5, c6, c7, c8, c9, c10⟩ := HN.out.c
 simp only [Nat.zero_add] at c7
 clear c1 c2 c3 c4 c5 c6 c8 c9 c10
 have hns := HO.out.name
 go_cut [20] (fun x wx => ∃ q : Bool, x = .bool q ∧ Box (q = badB d) ∧ N1 w wx P d ks (.slice A1 d.ms.length n1) (.slice A2 d.bys.length n2) kv)
 case first =>
  by_cases hk : d.kind = 1
  ·have E1 : Box (badB d = !(nameB d.name && !inGroups d.name)) := ⟨by unfold badB; simp [hk]⟩
   have HK := Box.mk hk
   rw [hk] at c0
   clear hk
   obtain ⟨nb, E2⟩ : ∃ z, Box (nameB d.name = z) := ⟨_, ⟨rfl⟩⟩
   obtain ⟨ig, E3⟩ : ∃ z, Box (inGroups d.name = z) := ⟨_, ⟨rfl⟩⟩
   cases nb
   ·first | go_region_with (go_at_call 106; refine (rname_any d.name _ hns).mono ?_; rintro e w5 ⟨rfl, rfl⟩; rw [E2.out]) | fail
    all_goals
     go_wp2_with fail
     go_meet
     exact ⟨_, rfl, ⟨by rw [E1.out, E2.out]; rfl⟩, by first | exact HN.out | exact HN.out.drew⟩
   have hfg := findI_ge d.name groupsL 0
   rw [show groupsL.any (fun x => x.toList == d.name.toList) = inGroups d.name from rfl, E3.out] at hfg
   obtain ⟨fi, HFI⟩ : ∃ z, Box (findI d.name groupsL 0 = z) := ⟨_, ⟨rfl⟩⟩
   rw [HFI.out] at hfg
   cases ig
   all_goals
    have hfi := of_dec hfg
    simp only [if_true, Bool.false_eq_true, if_false] at hfi
    clear hfg
    go_region_held3 (fun w' => w'.cell? ⟨w.heap.size, 0, none⟩ = some (.int .i64 1) ∧ w'.cell? ⟨w.heap.size, 7, none⟩ = some (.string d.name)) (first | go_keep | exact ⟨c0, c7⟩ | exact ⟨cell_drew c0, cell_drew c7⟩ | exact ⟨cell_alloc' _ c0, cell_alloc' _ c7⟩ | exact ⟨cell_alloc' _ (cell_drew c0), cell_alloc' _ (cell_drew c7)⟩)
     (first
      | (go_at_call 106; refine (rname_any d.name _ hns).mono ?_; rintro e w5 ⟨rfl, rfl⟩; rw [E2.out])
      | (go_at_call 108; refine (rgroups_any _).mono ?_; rintro e w5 ⟨rfl, rfl⟩; have HGR := Box.mk (groups_at W); have HGRd := Box.mk (groups_at W.drew))
      | (go_at_call 107; refine (rfind_any _ _ _ groupsL d.name _ (by first | exact HGR.out | exact HGRd.out)).mono ?_; rintro e w5 ⟨rfl, rfl⟩; rw [HFI.out]))
    all_goals
     go_wp2_with fail
     go_meet
     exact ⟨_, rfl, ⟨by rw [E1.out, E2.out, E3.out]; simp [hfi]⟩, by first | exact HN.out | exact HN.out.drew | exact HN.out.next (bel1 _ _) | exact HN.out.drew.next (bel1 _ _) | exact (HN.out.next (bel1 _ _)).drew⟩
  ·have E1 : Box (badB d = false) := ⟨by unfold badB; simp [hk]⟩
   have hk2 : (d.kind == 1) = false := by simpa using hk
   go_wp2_with fail
   go_region
   all_goals
    go_wp2_with fail
    go_meet
    exact ⟨_, rfl, ⟨by rw [E1.out]⟩, by first | exact HN.out | exact HN.out.drew⟩
 case rest =>
  clear HN c0 c7
  obtain ⟨q, rfl, HQ, hbx⟩ := hcut
  rename World => wd
  have HN := Lib.hid hbx; clear hbx
  cases q
  ·have E0 : Box (namedB d = (d.ms.all vmatB && bysB d.bys)) := ⟨named_ok HQ.out.symm⟩
   have c8 := HN.out.c.2.2.2.2.2.2.2.2.1
   simp only [Nat.zero_add] at c8
   go_wp2_with fail
   go_loopw [3] (fun v wr => ∃ k : Nat, k ≤ d.ms.length ∧ v = .int .i64 (k : Nat) ∧ N1 w wr P d ks (.slice A1 d.ms.length n1) (.slice A2 d.bys.length n2) kv ∧ Box ((d.ms.drop k).all vmatB = d.ms.all vmatB)) (fun v _ => d.ms.length - (intOf v).toNat)
   case atStart => exact ⟨0, by omega, rfl, HN.out, ⟨rfl⟩⟩
   case round =>
    clear HN c8
    obtain ⟨k, hk, rfl, hN, HA⟩ := hrel
    have HN := Lib.hid hN; clear hN
    have c8 := HN.out.c.2.2.2.2.2.2.2.2.1
    simp only [Nat.zero_add] at c8
    by_cases hlt : k < d.ms.length
    ·obtain ⟨x, hx⟩ : ∃ x, d.ms[k]? = some x := ⟨d.ms[k], List.getElem?_eq_getElem _⟩
     obtain ⟨b, off, rfl, hb, m0, m1, m2⟩ := Mats.at_ (w := wr) (base := wr.heap.size) (HN.out.nod.ms.seq) k x hx
     obtain ⟨s1, s2⟩ := HO.out.ms x (List.mem_of_getElem? hx)
     obtain ⟨x0, x1, x2⟩ := x
     have HD : Box (d.ms.drop k = (x0, x1, x2) :: d.ms.drop (k + 1)) := ⟨by
      rw [List.drop_eq_getElem_cons hlt, (List.getElem?_eq_some_iff.1 hx).2]⟩
     clear hx
     have hlt2 : (k : Int) < (d.ms.length : Int) := by omega
     go_wp2_with fail
     refine (rvmat_any _ _ _ _ s1 s2).mono ?_
     rintro e w5 ⟨rfl, hb5⟩
     have HN2 := Lib.hid (HN.out.next hb5)
     clear HN hb5 m0 m1 m2 c8
     obtain ⟨vb, E2⟩ : ∃ z, Box (vmatB (x0, x1, x2) = z) := ⟨_, ⟨rfl⟩⟩
     rw [E2.out]
     cases vb
     ·go_wp2_with fail
      go_ret
      exact ⟨ret_bool (by rw [E0.out, ← HA.out, HD.out, List.all_cons, E2.out]; simp), HN2.out.below⟩
     ·go_wp2_with fail
      go_roundw
      case rel => exact ⟨k + 1, by omega, by go_num, HN2.out, ⟨by rw [← HA.out, HD.out, List.all_cons, E2.out]; simp⟩⟩
      case measure => simp [intOf]; omega
    ·have hlt2 : ¬ (k : Int) < (d.ms.length : Int) := by omega
     have E3 : Box (namedB d = bysB d.bys) := ⟨by rw [E0.out, ← HA.out, List.drop_eq_nil_of_le (by omega)]; simp⟩
     clear HA E0
     have c9 := HN.out.c.2.2.2.2.2.2.2.2.2.1
     simp only [Nat.zero_add] at c9
     go_wp2_with fail
     go_loopw [4] (fun v wr => ∃ k : Nat, k ≤ d.bys.length ∧ v = .int .i64 (k : Nat) ∧ N1 w wr P d ks (.slice A1 d.ms.length n1) (.slice A2 d.bys.length n2) kv ∧ Box (bysFrom (prevOf d.bys k) (d.bys.drop k) = bysB d.bys)) (fun v _ => d.bys.length - (intOf v).toNat)
     case atStart => exact ⟨0, by omega, rfl, HN.out, ⟨rfl⟩⟩
     case round =>
      clear HN c9
      obtain ⟨k, hk, rfl, hN, HA⟩ := hrel
      have HN := Lib.hid hN; clear hN
      have c9 := HN.out.c.2.2.2.2.2.2.2.2.2.1
      simp only [Nat.zero_add] at c9
      by_cases hlt : k < d.bys.length
      ·obtain ⟨x, hx⟩ : ∃ x, d.bys[k]? = some x := ⟨d.bys[k], List.getElem?_eq_getElem _⟩
       obtain ⟨b, off, rfl, hb, m0⟩ := HN.out.nod.bys.at1 k (.string x) (by simp [hx])
       have sx := HO.out.bys x (List.mem_of_getElem? hx)
       have HD : Box (d.bys.drop k = x :: d.bys.drop (k + 1)) := ⟨by
        rw [List.drop_eq_getElem_cons hlt, (List.getElem?_eq_some_iff.1 hx).2]⟩
       have HX : Box (prevOf d.bys (k + 1) = some x) := ⟨by unfold prevOf; simpa using hx⟩
       have hlt2 : (k : Int) < (d.bys.length : Int) := by omega
       clear hx
       by_cases hk0 : k = 0
       ·subst hk0
        simp only [Nat.add_zero] at m0
        obtain ⟨nb, E2⟩ : ∃ z, Box (nameB x = z) := ⟨_, ⟨rfl⟩⟩
        cases nb
        ·have HNM : Box (∀ w', Calls Tryd.prog 106 #[.string x] w' fun e w'' => e = .returned (.bool false) ∧ w'' = w') := ⟨fun w' => by have h := rname_any x w' sx; rw [E2.out] at h; exact h.mono fun _ _ ⟨p, q⟩ => ⟨p, q.symm⟩⟩
         go_wp2_with fail
         go_quiet ((go_at_call 106; exact Calls.quiet_of_same (HNM.out _)))
         go_wp2_with fail
         go_ret
         exact ⟨ret_bool (by rw [E3.out, ← HA.out, HD.out, bysFrom_no E2.out]), (HN.out.next (below_drewN _ _)).below⟩
        ·have E4 : Box (bysFrom (some x) (d.bys.drop (0 + 1)) = bysB d.bys) := ⟨by rw [← HA.out, HD.out, show prevOf d.bys 0 = none from rfl, bysFrom_first E2.out]⟩
         have HNM : Box (∀ w', Calls Tryd.prog 106 #[.string x] w' fun e w'' => e = .returned (.bool true) ∧ w'' = w') := ⟨fun w' => by have h := rname_any x w' sx; rw [E2.out] at h; exact h.mono fun _ _ ⟨p, q⟩ => ⟨p, q.symm⟩⟩
         go_wp2_with fail
         go_quiet ((go_at_call 106; exact Calls.quiet_of_same (HNM.out _)))
         go_wp2_with fail
         go_roundw
         case rel => exact ⟨0 + 1, by omega, by go_num, HN.out.next (below_drewN _ _), ⟨by rw [HX.out]; exact E4.out⟩⟩
         case measure => simp [intOf]; omega
       ·obtain ⟨j, hkj⟩ : ∃ j, k = j + 1 := ⟨k - 1, by omega⟩
        obtain ⟨y, hy⟩ : ∃ y, d.bys[j]? = some y := ⟨d.bys[j]'(by omega), List.getElem?_eq_getElem _⟩
        obtain ⟨b', off', hA, hb', m1⟩ := HN.out.nod.bys.at1 j (.string y) (by simp [hy])
        cases hA
        have HY : Box (prevOf d.bys k = some y) := ⟨by rw [hkj]; unfold prevOf; simpa using hy⟩
        have hj : 0 < (k : Int) := by omega
        have hj0 : decide (0 < (k : Int)) = true := decide_eq_true (by omega)
        have hj4 : 0 < k := by omega
        have hj5 : decide (0 < k) = true := decide_eq_true (by omega)
        have hj1 : IntKind.i64.wrap ((k : Int) - 1) = (j : Int) := by rw [show (k : Int) - 1 = (j : Int) by omega]; exact W64_in (by omega) (by omega)
        have hj2 : (j : Int) < (d.bys.length : Int) := by omega
        have hj3 : j < d.bys.length := by omega
        clear hy hkj hk0
        obtain ⟨nb, E2⟩ : ∃ z, Box (nameB x = z) := ⟨_, ⟨rfl⟩⟩
        cases nb
        ·have HNM : Box (∀ w', Calls Tryd.prog 106 #[.string x] w' fun e w'' => e = .returned (.bool false) ∧ w'' = w') := ⟨fun w' => by have h := rname_any x w' sx; rw [E2.out] at h; exact h.mono fun _ _ ⟨p, q⟩ => ⟨p, q.symm⟩⟩
         go_wp2_with fail
         go_quiet ((go_at_call 106; exact Calls.quiet_of_same (HNM.out _)))
         go_wp2_with fail
         go_ret
         exact ⟨ret_bool (by rw [E3.out, ← HA.out, HD.out, bysFrom_no E2.out]), (HN.out.next (below_drewN _ _)).below⟩
        have HNM : Box (∀ w', Calls Tryd.prog 106 #[.string x] w' fun e w'' => e = .returned (.bool true) ∧ w'' = w') := ⟨fun w' => by have h := rname_any x w' sx; rw [E2.out] at h; exact h.mono fun _ _ ⟨p, q⟩ => ⟨p, q.symm⟩⟩
        obtain ⟨q, E5⟩ : ∃ z, Box (leS x y = z) := ⟨_, ⟨rfl⟩⟩
        have hq := E5.out
        unfold leS at hq
        cases q
        ·have hq1 : Op.bytesLess x.toList y.toList = false := by simp at hq; exact hq.1
         have hq2 : (x.toList == y.toList) = false := by simp at hq; simpa using hq.2
         have E4 : Box (bysFrom (some x) (d.bys.drop (k + 1)) = bysB d.bys) := ⟨by rw [← HA.out, HD.out, HY.out, bysFrom_gt E2.out E5.out]⟩
         clear hq
         go_wp2_with fail
         go_quiet ((go_at_call 106; exact Calls.quiet_of_same (HNM.out _)))
         go_wp2_with fail
         go_roundw
         case rel => exact ⟨k + 1, by omega, by go_num, HN.out.next (below_drewN _ _), ⟨by rw [HX.out]; exact E4.out⟩⟩
         case measure => simp [intOf]; omega
        ·have hq1 : (Op.bytesLess x.toList y.toList || x.toList == y.toList) = true := hq
         clear hq
         go_wp2_with fail
         go_quiet ((go_at_call 106; exact Calls.quiet_of_same (HNM.out _)))
         go_wp2_with fail
         go_ret
         exact ⟨ret_bool (by rw [E3.out, ← HA.out, HD.out, HY.out, bysFrom_le E5.out]), (HN.out.next (below_drewN _ _)).below⟩
      ·have hlt2 : ¬ (k : Int) < (d.bys.length : Int) := by omega
       go_wp2_with fail
       go_ret
       exact ⟨ret_bool (by rw [E3.out, ← HA.out, List.drop_eq_nil_of_le (by omega)]; rfl), HN.out.below⟩
  ·have E0 : Box (namedB d = false) := ⟨named_bad HQ.out.symm⟩
   go_wp2_with fail
   go_ret
   exact ⟨ret_bool (by rw [E0.out]), HN.out.below⟩
end
end Go.Proofs.YtipafbppaaflcaaDoor
