/- Contracts, packed: Qm Rb Rc Sa Sj Sr Up Sf Sg. -/
import Derived.Test.YtkdojgkiclndfaaGreatDoorPx5
import Derived.Test.YtkdojgkiclndfaaGreatDoorPx12
import Derived.Test.YtkdojgkiclndfaaGreatDoorPx13
import Derived.Test.YtkdojgkiclndfaaGreatDoorPx16
import Derived.Test.YtkdojgkiclndfaaGreatDoorPx17
import Derived.Test.YtkdojgkiclndfaaGreatDoorPx21
import Derived.Test.YtkdojgkiclndfaaGreatDoorPx22
import Derived.Test.YtkdojgkiclndfaaGreatDoorPx26
import Derived.ArgAppend
import Derived.Deep.DeepAppendRoom
import Derived.Deep.RegionHeld3
set_option linter.unusedVariables false
set_option linter.unusedSimpArgs false
namespace Go.Proofs.YtkdojgkiclndfaaGreatDoor
section
open Go.RowKit FracM
end
section
open Go.RowKit FracM
end
section
open Go.RowKit FracM
theorem blk11z {W : World} {g : Nat} {t : TypeId} {d : Nd} {mv bv kv : Value} (h : Blk W g t (ndC d mv bv kv)) : W.cell? ⟨g, 0, none⟩ = some (.int .i64 d.kind) ∧ W.cell? ⟨g, 1, none⟩ = some (.int .i64 d.fn) ∧ W.cell? ⟨g, 2, none⟩ = some (.int .i64 d.win) ∧ W.cell? ⟨g, 3, none⟩ = some (.int .i64 d.off) ∧ W.cell? ⟨g, 4, none⟩ = some (.int .i64 d.k) ∧ W.cell? ⟨g, 5, none⟩ = some (.int .i64 d.num) ∧ W.cell? ⟨g, 6, none⟩ = some (.int .i64 d.den) ∧ W.cell? ⟨g, 7, none⟩ = some (.string d.name) ∧ W.cell? ⟨g, 8, none⟩ = some mv ∧ W.cell? ⟨g, 9, none⟩ = some bv ∧ W.cell? ⟨g, 10, none⟩ = some kv := by
 unfold Blk at h
 refine ⟨?_, ?_, ?_, ?_, ?_, ?_, ?_, ?_, ?_, ?_, ?_⟩ <;> simp [World.cell?, h]
end
section
open Go.RowKit FracM
end
section
open Go.RowKit FracM
section
variable {P : Program} (w : World)
end
end
section
open Go Go.RowKit
section
variable {P : Program} {ops : Array Oper} {Q : Exit → Act → World → Prop} {md : Region.Mode} {S : World → Prop} {e : Nat}
/-- as wpAnyH, S being asked behind every operation but e -/
def wpAnyT (P : Program) (md : Region.Mode) (ops : Array Oper) (Q : Exit → Act → World → Prop) (S : World → Prop) (e : Nat) : Nat → Array Bool → Act → World → Prop
 | 0, listed, a, w => Region.ready md ops listed = [] ∧ Q .normal a w
 | fuel + 1, listed, a, w =>
  (Region.ready md ops listed = [] → Q .normal a w) ∧
  ∀ i ∈ Region.ready md ops listed, wpOp P ops Q i (fun a' w' => (i ≠ e → S w') ∧ wpAnyT P md ops Q S e fuel (listed.setIfInBounds i true) a' w') a w
theorem wpAny_of_T : ∀ (fuel : Nat) (listed : Array Bool) (a : Act) (w : World), wpAnyT P md ops Q S e fuel listed a w → wpAny P md ops Q fuel listed a w
 | 0, _, _, _, h => h
 | fuel + 1, _, _, _, h => ⟨h.1, fun i hi => wpOp_mono (fun a' w' h' => wpAny_of_T fuel _ a' w' h'.2) (h.2 i hi)⟩
/-- operation e waits for operation i -/
def waits (md : Region.Mode) (ops : Array Oper) (e i : Nat) : Bool :=
 match ops[e]? with
 | some o => o.after.any (fun x => x.on == i && Region.binds md x)
 | none => false
theorem not_ready_of_waits {i : Nat} {listed : Array Bool} (hw : waits md ops e i = true) (hl : listed.getD i true = false) : e ∉ Region.ready md ops listed := by
 intro hr
 obtain ⟨_, o, ho, hall⟩ := mem_ready.1 hr
 unfold waits at hw
 rw [ho] at hw
 simp only [Array.any_eq_true] at hw
 obtain ⟨k, hk, hx⟩ := hw
 simp only [Bool.and_eq_true, beq_iff_eq] at hx
 have h1 := hall _ (Array.getElem_mem hk) hx.2
 rw [hx.1] at h1
 rcases Nat.lt_or_ge i listed.size with h' | h'
 ·simp [h'] at hl h1; rw [hl] at h1; cases h1
 ·simp [Array.getElem?_eq_none h'] at h1
theorem wpAnyT_first {i : Nat} {oi : Oper} {v : Value} (hi : ops[i]? = some oi) (hsel : ∀ (j : Nat) (o : Oper) cs b, ops[j]? = some o → o.op ≠ .select cs b)
  (hQ : ∀ c a w, Q (.panic c) (a.put oi.dst v) w → Q (.panic c) a w) (hwt : waits md ops e i = true) (hie : i ≠ e) :
  ∀ (fuel : Nat) (listed : Array Bool) (a : Act) (w : World),
   (∀ j oj, ops[j]? = some oj → j ≠ i → listed.getD j true = false → (∀ x ∈ oj.after, Region.binds md x = true → x.on ≠ i) → oi.apart ops oj = true) →
   i ∈ Region.ready md ops listed → YieldsIf P ops S oi v a → S w →
   wpAnyT P md ops Q S e fuel (listed.setIfInBounds i true) (a.put oi.dst v) w → wpAnyT P md ops Q S e (fuel + 1) listed a w := by
 intro fuel
 induction fuel with
 | zero =>
  intro listed a w _ hr hy hS H
  refine ⟨fun h => (by rw [h] at hr; cases hr), fun j hj => ?_⟩
  by_cases hji : j = i
  ·subst hji; exact hy.wpOp hi hS ⟨fun _ => hS, H⟩
  ·have := ready_mono hj hji
   rw [H.1] at this
   cases this
 | succ fuel ih =>
  intro listed a w hfree hr hy hS H
  refine ⟨fun h => (by rw [h] at hr; cases hr), fun j hj => ?_⟩
  by_cases hji : j = i
  ·subst hji; exact hy.wpOp hi hS ⟨fun _ => hS, H⟩
  ·have hje : j ≠ e := fun h => not_ready_of_waits hwt (mem_ready.1 hr).1 (h ▸ hj)
   have h1 := H.2 j (ready_mono hj hji)
   obtain ⟨hjun, oj, hoj, hall⟩ := mem_ready.1 hj
   have hnot : ∀ x ∈ oj.after, Region.binds md x = true → x.on ≠ i := fun x hx hb heq => by
    have h1 := hall x hx hb
    have h0 := (mem_ready.1 hr).1
    rw [heq] at h1
    rcases Nat.lt_or_ge i listed.size with h' | h'
    ·simp [h'] at h0 h1; rw [h0] at h1; cases h1
    ·simp [Array.getElem?_eq_none h'] at h1
   have h2 := wpOp_putIf hoj (hfree j oj hoj hji hjun hnot) (fun cs b => hsel i oi cs b hi) (fun cs b => hsel j oj cs b hoj) hQ hy h1
   have hfree' : ∀ k ok, ops[k]? = some ok → k ≠ i → (listed.setIfInBounds j true).getD k true = false →
     (∀ x ∈ ok.after, Region.binds md x = true → x.on ≠ i) → oi.apart ops ok = true := fun k ok hk hki hun hno => by
    refine hfree k ok hk hki ?_ hno
    by_cases hjk : j = k
    ·subst hjk; exact hjun
    ·rw [getD_set_ne true hjk] at hun; exact hun
   refine wpOp_mono (fun a' w' h3 => ⟨h3.2.1, ih (listed.setIfInBounds j true) a' w' hfree' (ready_mono hr (Ne.symm hji)) h3.1 (h3.2.1 hje) ?_⟩) h2
   rw [Array.setIfInBounds_comm _ _ hji]
   exact h3.2.2
theorem wpAnyT_take {i : Nat} {oi : Oper} {v : Value} {fuel : Nat} {listed : Array Bool} {a : Act} {w : World} (hi : ops[i]? = some oi)
  (hs : Region.noSelect ops = true) (hf : Region.free md ops listed i = true) (hr : (Region.ready md ops listed).contains i = true)
  (hQ : ∀ c a w, Q (.panic c) (a.put oi.dst v) w → Q (.panic c) a w) (hwt : waits md ops e i = true) (hie : i ≠ e) (hy : YieldsIf P ops S oi v a) (hS : S w)
  (h : wpAnyT P md ops Q S e fuel (listed.setIfInBounds i true) (a.put oi.dst v) w) : wpAnyT P md ops Q S e (fuel + 1) listed a w :=
 wpAnyT_first hi (Region.noSelect_spec hs) hQ hwt hie fuel listed a w (Region.free_spec hi hf) (by simpa using hr) hy hS h
/-- whichever comes up -/
theorem wpAnyT_all {rs : List Nat} {fuel : Nat} {listed : Array Bool} {a : Act} {w : World} (hr : Region.ready md ops listed = rs) (hne : rs ≠ [])
  (h : ∀ i ∈ rs, wpOp P ops Q i (fun a' w' => (i ≠ e → S w') ∧ wpAnyT P md ops Q S e fuel (listed.setIfInBounds i true) a' w') a w) : wpAnyT P md ops Q S e (fuel + 1) listed a w :=
 ⟨fun h0 => absurd (hr ▸ h0) hne, hr ▸ h⟩
theorem wpAnyT_op {fuel : Nat} {listed : Array Bool} {a : Act} {w : World} {i : Nat} {o : Oper} (ho : ops[i]? = some o)
  (h : ∀ K' : Act → World → Prop, Shut (∀ a w, (i ≠ e → S w) → ((i ≠ e → S w) → wpAnyT P md ops Q S e fuel (listed.setIfInBounds i true) a w) → K' a w) → if Region.wanted o (yielded ops a.tmps) = true then Oper.wp P o a w K' Q else K' (a.put o.dst undef) w) :
  wpOp P ops Q i (fun a' w' => (i ≠ e → S w') ∧ wpAnyT P md ops Q S e fuel (listed.setIfInBounds i true) a' w') a w :=
 wpOp_step ho (fun K' hK => h K' (fun a w hS hW => hK a w ⟨hS, hW hS⟩))
theorem wpAnyT_one {fuel : Nat} {listed : Array Bool} {a : Act} {w : World} (i : Nat) {o : Oper} (hr : Region.ready md ops listed = [i]) (ho : ops[i]? = some o)
  (h : ∀ K' : Act → World → Prop, Shut (∀ a w, (i ≠ e → S w) → ((i ≠ e → S w) → wpAnyT P md ops Q S e fuel (listed.setIfInBounds i true) a w) → K' a w) → if Region.wanted o (yielded ops a.tmps) = true then Oper.wp P o a w K' Q else K' (a.put o.dst undef) w) : wpAnyT P md ops Q S e (fuel + 1) listed a w :=
 wpAnyT_all hr (by simp) fun j hj => by
  rw [List.mem_singleton] at hj
  subst hj
  exact wpAnyT_op ho h
theorem wpAnyT_done {listed : Array Bool} {a : Act} {w : World} (hr : Region.ready md ops listed = []) (h : Q .normal a w) :
  ∀ fuel, wpAnyT P md ops Q S e fuel listed a w
 | 0 => ⟨hr, h⟩
 | _ + 1 => ⟨fun _ => h, by rw [hr]; simp⟩
/-- the beginning -/
theorem wp_region_T (e : Nat) {id : Nat} {a : Act} {w : World} (hm : P.follows .mixedOrders = true) (hS : S w.drew)
  (h : S w.drew → wpAnyT P .any ops Q S e ops.size (Array.replicate ops.size false) a w.drew) : (Code.region id ops true).wp P Q a w :=
 wp_region_any hm (wpAny_of_T _ _ _ _ (h hS))
end
end
section
open Go.RowKit FracM
theorem insInfo : (Tryz.prog.info? 57).map (fun i => (i.zero, i.size, i.bytes)) = some (some (.agg #[.int .i64 0, .int .i64 0, .int .i64 0, .int .i64 0, .int .i64 0, .int .i64 0, .int .i64 0, .string ⟨#[]⟩, .slice none 0 0, .slice none 0 0]), 10, 120) := by kernel_rfl
/-- a plan in a row of its own, its instructions' rows in P -/
def PlW (w : World) (B : Nat) (P : Nat → Nat → Prop) (v : Value) (l : List Nd) : Prop :=
 ∃ cs : List Sl2, w.ownsRow B 57 10 v l.length ((l.zip cs).flatMap insL) ∧ InsRows w P l cs
theorem PlW.nil (w : World) (B : Nat) (P : Nat → Nat → Prop) : PlW w B P (.slice none 0 0) [] := ⟨[], World.ownsRow_nil _ _ _ _, InsRows.nil _ _⟩
theorem PlW.form {w : World} {B : Nat} {P : Nat → Nat → Prop} {v : Value} {l : List Nd} (h : PlW w B P v l) : ∃ A c, v = .slice A l.length c := by
 obtain ⟨cs, h1, -⟩ := h
 exact own_form h1
theorem PlW.base {w : World} {B C : Nat} {P : Nat → Nat → Prop} {v : Value} {l : List Nd} (h : PlW w B P v l) (hC : C ≤ B) : PlW w C P v l := by
 obtain ⟨cs, h1, h2⟩ := h
 refine ⟨cs, ⟨h1.1, ?_⟩, h2⟩
 rcases h1.2 with h | ⟨g, c, cur, hv, hg, rest⟩
 ·exact .inl h
 ·exact .inr ⟨g, c, cur, hv, by omega, rest⟩
theorem PlW.p {w : World} {B : Nat} {P : Nat → Nat → Prop} {v : Value} {l : List Nd} (h : PlW w B P v l) : PlanP w (fun b e => P b e ∨ B ≤ b) v l := by
 obtain ⟨cs, h1, h2⟩ := h
 exact ⟨cs, SeqP.of_own h1 fun b c hb _ => .inr hb, h2.mono fun b e _ h => .inl h⟩
theorem PlW.any {w : World} {B : Nat} {P : Nat → Nat → Prop} {v : Value} {l : List Nd} (h : PlW w B P v l) : PlanP w AnyP v l := h.p.mono fun _ _ _ _ => trivial
theorem ins_one (x : Nd × Sl2) (hm : ∃ A n c, x.2.1 = .slice A n c) (hb : ∃ A n c, x.2.2 = .slice A n c) : ∀ u ∈ insL x, u.oneCell' = true := by
 obtain ⟨A, n, c, h1⟩ := hm
 obtain ⟨A', n', c', h2⟩ := hb
 intro u hu
 simp only [insL, insC, h1, h2, List.mem_cons, List.not_mem_nil, or_false] at hu
 rcases hu with rfl | rfl | rfl | rfl | rfl | rfl | rfl | rfl | rfl | rfl <;> rfl
theorem own_bk {w : World} {B t size n : Nat} {v : Value} {xs : List Value} (h : w.ownsRow B t size v n xs) : ∀ g, v.ownBlock = some g → B ≤ g ∧ g < w.heap.size := by
 intro g hg
 rcases h.2 with ⟨rfl, _⟩ | ⟨g', cap, cur, rfl, hb, hh, _⟩
 ·simp [Value.ownBlock] at hg
 ·simp [Value.ownBlock] at hg; subst hg
  exact ⟨hb, (Array.getElem?_eq_some_iff.1 hh).1⟩
end
section
open Go.RowKit FracM
end
section
open Go.RowKit FracM
end
end Go.Proofs.YtkdojgkiclndfaaGreatDoor
