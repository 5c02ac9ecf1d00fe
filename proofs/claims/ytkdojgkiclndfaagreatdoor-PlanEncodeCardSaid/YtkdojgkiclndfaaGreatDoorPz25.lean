/- Contracts, packed: Jg Sj Sr Sf. -/
import Derived.Test.YtkdojgkiclndfaaGreatDoorPz4
import Derived.Test.YtkdojgkiclndfaaGreatDoorPz19
import Derived.Test.YtkdojgkiclndfaaGreatDoorPz20
import Derived.Test.YtkdojgkiclndfaaGreatDoorPz21
import Derived.Test.YtkdojgkiclndfaaGreatDoorPz24
import Derived.ArgAppend
import Derived.Deep.DeepAppendRoom
import Derived.Deep.RegionHeld3
set_option linter.unusedVariables false
set_option linter.unusedSimpArgs false
namespace Go.Proofs.YtkdojgkiclndfaaGreatDoor
section
open Go.RowKit FracM
theorem groups_eq : groupsL = groupsT.map bsL := rfl
end
section
open Go.RowKit FracM
section
variable {P : Program} (w : World)
end
end
section
open Go Go.RowKit
section
variable {P : Program} {ops : Array Oper} {Q : Exit → Act → World → Prop} {md : Region.Mode} {S : World → Prop} {e : Nat}
/-- as wpAnyH, S being asked behind every operation but e -/
def wpAnyT (P : Program) (md : Region.Mode) (ops : Array Oper) (Q : Exit → Act → World → Prop) (S : World → Prop) (e : Nat) : Nat → Array Bool → Act → World → Prop
 | 0, listed, a, w => Region.ready md ops listed = [] ∧ Q .normal a w
 | fuel + 1, listed, a, w =>
  (Region.ready md ops listed = [] → Q .normal a w) ∧
  ∀ i ∈ Region.ready md ops listed, wpOp P ops Q i (fun a' w' => (i ≠ e → S w') ∧ wpAnyT P md ops Q S e fuel (listed.setIfInBounds i true) a' w') a w
theorem wpAny_of_T : ∀ (fuel : Nat) (listed : Array Bool) (a : Act) (w : World), wpAnyT P md ops Q S e fuel listed a w → wpAny P md ops Q fuel listed a w
 | 0, _, _, _, h => h
 | fuel + 1, _, _, _, h => ⟨h.1, fun i hi => wpOp_mono (fun a' w' h' => wpAny_of_T fuel _ a' w' h'.2) (h.2 i hi)⟩
/-- operation e waits for operation i -/
def waits (md : Region.Mode) (ops : Array Oper) (e i : Nat) : Bool :=
 match ops[e]? with
 | some o => o.after.any (fun x => x.on == i && Region.binds md x)
 | none => false
theorem not_ready_of_waits {i : Nat} {listed : Array Bool} (hw : waits md ops e i = true) (hl : listed.getD i true = false) : e ∉ Region.ready md ops listed := by
 intro hr
 obtain ⟨_, o, ho, hall⟩ := mem_ready.1 hr
 unfold waits at hw
 rw [ho] at hw
 simp only [Array.any_eq_true] at hw
 obtain ⟨k, hk, hx⟩ := hw
 simp only [Bool.and_eq_true, beq_iff_eq] at hx
 have h1 := hall _ (Array.getElem_mem hk) hx.2
 rw [hx.1] at h1
 rcases Nat.lt_or_ge i listed.size with h' | h'
 ·simp [h'] at hl h1; rw [hl] at h1; cases h1
 ·simp [Array.getElem?_eq_none h'] at h1
theorem wpAnyT_first {i : Nat} {oi : Oper} {v : Value} (hi : ops[i]? = some oi) (hsel : ∀ (j : Nat) (o : Oper) cs b, ops[j]? = some o → o.op ≠ .select cs b)
  (hQ : ∀ c a w, Q (.panic c) (a.put oi.dst v) w → Q (.panic c) a w) (hwt : waits md ops e i = true) (hie : i ≠ e) :
  ∀ (fuel : Nat) (listed : Array Bool) (a : Act) (w : World),
   (∀ j oj, ops[j]? = some oj → j ≠ i → listed.getD j true = false → (∀ x ∈ oj.after, Region.binds md x = true → x.on ≠ i) → oi.apart ops oj = true) →
   i ∈ Region.ready md ops listed → YieldsIf P ops S oi v a → S w →
   wpAnyT P md ops Q S e fuel (listed.setIfInBounds i true) (a.put oi.dst v) w → wpAnyT P md ops Q S e (fuel + 1) listed a w := by
 intro fuel
 induction fuel with
 | zero =>
  intro listed a w _ hr hy hS H
  refine ⟨fun h => (by rw [h] at hr; cases hr), fun j hj => ?_⟩
  by_cases hji : j = i
  ·subst hji; exact hy.wpOp hi hS ⟨fun _ => hS, H⟩
  ·have := ready_mono hj hji
   rw [H.1] at this
   cases this
 | succ fuel ih =>
  intro listed a w hfree hr hy hS H
  refine ⟨fun h => (by rw [h] at hr; cases hr), fun j hj => ?_⟩
  by_cases hji : j = i
  ·subst hji; exact hy.wpOp hi hS ⟨fun _ => hS, H⟩
  ·have hje : j ≠ e := fun h => not_ready_of_waits hwt (mem_ready.1 hr).1 (h ▸ hj)
   have h1 := H.2 j (ready_mono hj hji)
   obtain ⟨hjun, oj, hoj, hall⟩ := mem_ready.1 hj
   have hnot : ∀ x ∈ oj.after, Region.binds md x = true → x.on ≠ i := fun x hx hb heq => by
    have h1 := hall x hx hb
    have h0 := (mem_ready.1 hr).1
    rw [heq] at h1
    rcases Nat.lt_or_ge i listed.size with h' | h'
    ·simp [h'] at h0 h1; rw [h0] at h1; cases h1
    ·simp [Array.getElem?_eq_none h'] at h1
   have h2 := wpOp_putIf hoj (hfree j oj hoj hji hjun hnot) (fun cs b => hsel i oi cs b hi) (fun cs b => hsel j oj cs b hoj) hQ hy h1
   have hfree' : ∀ k ok, ops[k]? = some ok → k ≠ i → (listed.setIfInBounds j true).getD k true = false →
     (∀ x ∈ ok.after, Region.binds md x = true → x.on ≠ i) → oi.apart ops ok = true := fun k ok hk hki hun hno => by
    refine hfree k ok hk hki ?_ hno
    by_cases hjk : j = k
    ·subst hjk; exact hjun
    ·rw [getD_set_ne true hjk] at hun; exact hun
   refine wpOp_mono (fun a' w' h3 => ⟨h3.2.1, ih (listed.setIfInBounds j true) a' w' hfree' (ready_mono hr (Ne.symm hji)) h3.1 (h3.2.1 hje) ?_⟩) h2
   rw [Array.setIfInBounds_comm _ _ hji]
   exact h3.2.2
theorem wpAnyT_take {i : Nat} {oi : Oper} {v : Value} {fuel : Nat} {listed : Array Bool} {a : Act} {w : World} (hi : ops[i]? = some oi)
  (hs : Region.noSelect ops = true) (hf : Region.free md ops listed i = true) (hr : (Region.ready md ops listed).contains i = true)
  (hQ : ∀ c a w, Q (.panic c) (a.put oi.dst v) w → Q (.panic c) a w) (hwt : waits md ops e i = true) (hie : i ≠ e) (hy : YieldsIf P ops S oi v a) (hS : S w)
  (h : wpAnyT P md ops Q S e fuel (listed.setIfInBounds i true) (a.put oi.dst v) w) : wpAnyT P md ops Q S e (fuel + 1) listed a w :=
 wpAnyT_first hi (Region.noSelect_spec hs) hQ hwt hie fuel listed a w (Region.free_spec hi hf) (by simpa using hr) hy hS h
/-- whichever comes up -/
theorem wpAnyT_all {rs : List Nat} {fuel : Nat} {listed : Array Bool} {a : Act} {w : World} (hr : Region.ready md ops listed = rs) (hne : rs ≠ [])
  (h : ∀ i ∈ rs, wpOp P ops Q i (fun a' w' => (i ≠ e → S w') ∧ wpAnyT P md ops Q S e fuel (listed.setIfInBounds i true) a' w') a w) : wpAnyT P md ops Q S e (fuel + 1) listed a w :=
 ⟨fun h0 => absurd (hr ▸ h0) hne, hr ▸ h⟩
theorem wpAnyT_op {fuel : Nat} {listed : Array Bool} {a : Act} {w : World} {i : Nat} {o : Oper} (ho : ops[i]? = some o)
  (h : ∀ K' : Act → World → Prop, Shut (∀ a w, (i ≠ e → S w) → ((i ≠ e → S w) → wpAnyT P md ops Q S e fuel (listed.setIfInBounds i true) a w) → K' a w) → if Region.wanted o (yielded ops a.tmps) = true then Oper.wp P o a w K' Q else K' (a.put o.dst undef) w) :
  wpOp P ops Q i (fun a' w' => (i ≠ e → S w') ∧ wpAnyT P md ops Q S e fuel (listed.setIfInBounds i true) a' w') a w :=
 wpOp_step ho (fun K' hK => h K' (fun a w hS hW => hK a w ⟨hS, hW hS⟩))
theorem wpAnyT_one {fuel : Nat} {listed : Array Bool} {a : Act} {w : World} (i : Nat) {o : Oper} (hr : Region.ready md ops listed = [i]) (ho : ops[i]? = some o)
  (h : ∀ K' : Act → World → Prop, Shut (∀ a w, (i ≠ e → S w) → ((i ≠ e → S w) → wpAnyT P md ops Q S e fuel (listed.setIfInBounds i true) a w) → K' a w) → if Region.wanted o (yielded ops a.tmps) = true then Oper.wp P o a w K' Q else K' (a.put o.dst undef) w) : wpAnyT P md ops Q S e (fuel + 1) listed a w :=
 wpAnyT_all hr (by simp) fun j hj => by
  rw [List.mem_singleton] at hj
  subst hj
  exact wpAnyT_op ho h
theorem wpAnyT_done {listed : Array Bool} {a : Act} {w : World} (hr : Region.ready md ops listed = []) (h : Q .normal a w) :
  ∀ fuel, wpAnyT P md ops Q S e fuel listed a w
 | 0 => ⟨hr, h⟩
 | _ + 1 => ⟨fun _ => h, by rw [hr]; simp⟩
/-- the beginning -/
theorem wp_region_T (e : Nat) {id : Nat} {a : Act} {w : World} (hm : P.follows .mixedOrders = true) (hS : S w.drew)
  (h : S w.drew → wpAnyT P .any ops Q S e ops.size (Array.replicate ops.size false) a w.drew) : (Code.region id ops true).wp P Q a w :=
 wp_region_any hm (wpAny_of_T _ _ _ _ (h hS))
end
end
section
open Go.RowKit FracM
/-- the index of a string in a list, or -1 -/
def findI (s : ByteArray) : List ByteArray → Nat → Int
 | [], _ => -1
 | x :: xs, k => if x.toList == s.toList then k else findI s xs (k + 1)
theorem findI_ge (s : ByteArray) (l : List ByteArray) (k : Nat) : decide (0 ≤ findI s l k) = l.any (fun x => x.toList == s.toList) := by
 induction l generalizing k with
 | nil => rfl
 | cons x xs ih =>
  rw [findI, List.any_cons]
  by_cases h : (x.toList == s.toList) = true
  ·rw [if_pos h, h]; simp
  ·rw [if_neg h, ih (k + 1)]; simp at h; simp [h]
set_option maxHeartbeats 400000 in
theorem rfind_any (A : Option Addr) (n c : Nat) (l : List ByteArray) (s : ByteArray) (w : World) (h : StrsP w (.slice A n c) l) : Calls Tryz.prog 115 #[.slice A n c, .string s] w fun e w' => e = .returned (.int .i64 (findI s l 0)) ∧ w' = w := by
 obtain ⟨A', c', hv, hn⟩ := h.form
 cases hv
 have HW := Box.mk h; clear h
 go_enter Tryz.func115, Tryz.ntmps115
 go_wp2
 go_loop [5] (fun v => ∃ k : Nat, k ≤ l.length ∧ v = .int .i64 (k : Nat) ∧ Box (findI s (l.drop k) k = findI s l 0)) (fun v => l.length - (intOf v).toNat)
 case atStart => exact ⟨0, by omega, rfl, ⟨rfl⟩⟩
 case round =>
  obtain ⟨k, hk, rfl, HI⟩ := hrel
  by_cases h5 : k = l.length
  ·have h6 : ¬ (k : Int) < (l.length : Int) := by omega
   go_wp2
   go_ret
   exact ⟨ret_int (by rw [← HI.out, List.drop_eq_nil_of_le (by omega)]; rfl), rfl⟩
  ·obtain ⟨x, hx⟩ : ∃ x, l[k]? = some x := ⟨l[k]'(by omega), List.getElem?_eq_getElem _⟩
   obtain ⟨b, off, rfl, hb, hs⟩ := SeqP.at1 HW.out k (.string x) (by simp [hx])
   have hk2 : (k : Int) < (l.length : Int) := by omega
   have HD : Box (l.drop k = x :: l.drop (k + 1)) := ⟨by
    rw [List.drop_eq_getElem_cons (by omega : k < l.length)]
    rw [(List.getElem?_eq_some_iff.1 hx).2]⟩
   have hk3 : k < l.length := by omega
   clear h5 hx
   by_cases hn2 : (x.toList == s.toList) = true
   ·go_wp2
    go_ret
    exact ⟨ret_int (by rw [← HI.out, HD.out, findI, if_pos hn2]), rfl⟩
   ·have hn1 : (x.toList == s.toList) = false := by simpa using hn2
    clear hn2
    go_wp2
    go_round
    case rel => exact ⟨k + 1, by omega, by go_num, ⟨by rw [← HI.out, HD.out, findI, if_neg (by rw [hn1]; simp)]⟩⟩
    case measure => simp [intOf]; omega
theorem rgroups_any (w : World) : Calls Tryz.prog 116 #[] w fun e w' => e = .returned (.slice (some ⟨w.heap.size, 0, none⟩) 5 5) ∧ w' = w.alloc (.cells #[.string ⟨#[115, 117, 109]⟩, .string ⟨#[109, 105, 110]⟩, .string ⟨#[109, 97, 120]⟩, .string ⟨#[99, 111, 117, 110, 116]⟩, .string ⟨#[107, 116, 104]⟩] 9) := by
 go_enter Tryz.func116, Tryz.ntmps116
 go_wp2
 go_ret
 exact ⟨rfl, rfl⟩
theorem groups_at (w : World) : StrsP (w.alloc (.cells #[.string ⟨#[115, 117, 109]⟩, .string ⟨#[109, 105, 110]⟩, .string ⟨#[109, 97, 120]⟩, .string ⟨#[99, 111, 117, 110, 116]⟩, .string ⟨#[107, 116, 104]⟩] 9)) (.slice (some ⟨w.heap.size, 0, none⟩) 5 5) groupsL :=
 SeqP.of_blk (n := 5) (size := 1) (Blk.new _ _ _) rfl (by omega) trivial
set_option maxHeartbeats 4000000 in
set_option maxRecDepth 100000 in
theorem rwithin_any (d : Nd) (ks : List Tree) (P : Nat → Nat → Prop) (w : World) (mv bv kv : Value) (hT : TreeAt w P (.node d ks) (mv, bv, kv)) (hk0 : 0 ≤ d.kind ∧ d.kind ≤ 3) (hkk : d.kind ≠ 1 → d.kind ≠ 2 → d.k = 0) : Calls Tryz.prog 81 #[.agg (ndC d mv bv kv)] w (RetB (.bool (rangedB d)) w) := by
 have HN := Lib.hid (N1.start hT)
 have HO := Box.mk hT.nod.ok
 have HK := Box.mk (And.intro hk0 hkk)
 clear hT hk0 hkk
 go_enter Tryz.func81, Tryz.ntmps81
 go_upto_region 1 with (fail)
 generalize w.alloc (.cells (ndC d _ _ _) 33) = W at HN ⊢
 obtain ⟨c0, c1, c2, c3, c4, c5, c6, c7, c8, c9, c10⟩ := HN.out.c
 simp only [Nat.zero_add] at c1 c2 c3 c4 c5 c6 c7 c8 c9 c10
 go_wp2_with fail
 all_goals
  go_ret
  refine ⟨ret_bool ?_, HN.out.below⟩
  have hkk := HK.out.2
  unfold rangedB
  simp_all
  try (intros; omega)
end
end Go.Proofs.YtkdojgkiclndfaaGreatDoor
