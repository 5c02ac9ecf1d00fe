/- Contracts, packed: Sr Kt Sk Sh Sp Sm Sl. -/
import Derived.Test.YtipafbppaaflcaaDoorPu23
import Derived.Test.YtipafbppaaflcaaDoorPu24
import Derived.Deep.RegionHeld3
import Derived.Deep.CutBlock
set_option linter.unusedVariables false
set_option linter.unusedSimpArgs false
namespace Go.Proofs.YtipafbppaaflcaaDoor
section
open Go Go.RowKit
section
variable {P : Program} {ops : Array Oper} {Q : Exit → Act → World → Prop} {md : Region.Mode} {S : World → Prop} {e : Nat}
/-- as wpAnyH, S being asked behind every operation but e -/
def wpAnyT (P : Program) (md : Region.Mode) (ops : Array Oper) (Q : Exit → Act → World → Prop) (S : World → Prop) (e : Nat) : Nat → Array Bool → Act → World → Prop
 | 0, listed, a, w => Region.ready md ops listed = [] ∧ Q .normal a w
 | fuel + 1, listed, a, w =>
  (Region.ready md ops listed = [] → Q .normal a w) ∧
  ∀ i ∈ Region.ready md ops listed, wpOp P ops Q i (fun a' w' => (i ≠ e → S w') ∧ wpAnyT P md ops Q S e fuel (listed.setIfInBounds i true) a' w') a w
theorem wpAny_of_T : ∀ (fuel : Nat) (listed : Array Bool) (a : Act) (w : World), wpAnyT P md ops Q S e fuel listed a w → wpAny P md ops Q fuel listed a w
 | 0, _, _, _, h => h
 | fuel + 1, _, _, _, h => ⟨h.1, fun i hi => wpOp_mono (fun a' w' h' => wpAny_of_T fuel _ a' w' h'.2) (h.2 i hi)⟩
/-- operation e waits for operation i -/
def waits (md : Region.Mode) (ops : Array Oper) (e i : Nat) : Bool :=
 match ops[e]? with
 | some o => o.after.any (fun x => x.on == i && Region.binds md x)
 | none => false
theorem not_ready_of_waits {i : Nat} {listed : Array Bool} (hw : waits md ops e i = true) (hl : listed.getD i true = false) : e ∉ Region.ready md ops listed := by
 intro hr
 obtain ⟨_, o, ho, hall⟩ := mem_ready.1 hr
 unfold waits at hw
 rw [ho] at hw
 simp only [Array.any_eq_true] at hw
 obtain ⟨k, hk, hx⟩ := hw
 simp only [Bool.and_eq_true, beq_iff_eq] at hx
 have h1 := hall _ (Array.getElem_mem hk) hx.2
 rw [hx.1] at h1
 rcases Nat.lt_or_ge i listed.size with h' | h'
 ·simp [h'] at hl h1; rw [hl] at h1; cases h1
 ·simp [Array.getElem?_eq_none h'] at h1
theorem wpAnyT_first {i : Nat} {oi : Oper} {v : Value} (hi : ops[i]? = some oi) (hsel : ∀ (j : Nat) (o : Oper) cs b, ops[j]? = some o → o.op ≠ .select cs b)
  (hQ : ∀ c a w, Q (.panic c) (a.put oi.dst v) w → Q (.panic c) a w) (hwt : waits md ops e i = true) (hie : i ≠ e) :
  ∀ (fuel : Nat) (listed : Array Bool) (a : Act) (w : World),
   (∀ j oj, ops[j]? = some oj → j ≠ i → listed.getD j true = false → (∀ x ∈ oj.after, Region.binds md x = true → x.on ≠ i) → oi.apart ops oj = true) →
   i ∈ Region.ready md ops listed → YieldsIf P ops S oi v a → S w →
   wpAnyT P md ops Q S e fuel (listed.setIfInBounds i true) (a.put oi.dst v) w → wpAnyT P md ops Q S e (fuel + 1) listed a w := by
 intro fuel
 induction fuel with
 | zero =>
  intro listed a w _ hr hy hS H
  refine ⟨fun h => (by rw [h] at hr; cases hr), fun j hj => ?_⟩
  by_cases hji : j = i
  ·subst hji; exact hy.wpOp hi hS ⟨fun _ => hS, H⟩
  ·have := ready_mono hj hji
   rw [H.1] at this
   cases this
 | succ fuel ih =>
  intro listed a w hfree hr hy hS H
  refine ⟨fun h => (by rw [h] at hr; cases hr), fun j hj => ?_⟩
  by_cases hji : j = i
  ·subst hji; exact hy.wpOp hi hS ⟨fun _ => hS, H⟩
  ·have hje : j ≠ e := fun h => not_ready_of_waits hwt (mem_ready.1 hr).1 (h ▸ hj)
   have h1 := H.2 j (ready_mono hj hji)
   obtain ⟨hjun, oj, hoj, hall⟩ := mem_ready.1 hj
   have hnot : ∀ x ∈ oj.after, Region.binds md x = true → x.on ≠ i := fun x hx hb heq => by
    have h1 := hall x hx hb
    have h0 := (mem_ready.1 hr).1
    rw [heq] at h1
    rcases Nat.lt_or_ge i listed.size with h' | h'
    ·simp [h'] at h0 h1; rw [h0] at h1; cases h1
    ·simp [Array.getElem?_eq_none h'] at h1
   have h2 := wpOp_putIf hoj (hfree j oj hoj hji hjun hnot) (fun cs b => hsel i oi cs b hi) (fun cs b => hsel j oj cs b hoj) hQ hy h1
   have hfree' : ∀ k ok, ops[k]? = some ok → k ≠ i → (listed.setIfInBounds j true).getD k true = false →
     (∀ x ∈ ok.after, Region.binds md x = true → x.on ≠ i) → oi.apart ops ok = true := fun k ok hk hki hun hno => by
    refine hfree k ok hk hki ?_ hno
    by_cases hjk : j = k
    ·subst hjk; exact hjun
    ·rw [getD_set_ne true hjk] at hun; exact hun
   refine wpOp_mono (fun a' w' h3 => ⟨h3.2.1, ih (listed.setIfInBounds j true) a' w' hfree' (ready_mono hr (Ne.symm hji)) h3.1 (h3.2.1 hje) ?_⟩) h2
   rw [Array.setIfInBounds_comm _ _ hji]
   exact h3.2.2
theorem wpAnyT_take {i : Nat} {oi : Oper} {v : Value} {fuel : Nat} {listed : Array Bool} {a : Act} {w : World} (hi : ops[i]? = some oi)
  (hs : Region.noSelect ops = true) (hf : Region.free md ops listed i = true) (hr : (Region.ready md ops listed).contains i = true)
  (hQ : ∀ c a w, Q (.panic c) (a.put oi.dst v) w → Q (.panic c) a w) (hwt : waits md ops e i = true) (hie : i ≠ e) (hy : YieldsIf P ops S oi v a) (hS : S w)
  (h : wpAnyT P md ops Q S e fuel (listed.setIfInBounds i true) (a.put oi.dst v) w) : wpAnyT P md ops Q S e (fuel + 1) listed a w :=
 wpAnyT_first hi (Region.noSelect_spec hs) hQ hwt hie fuel listed a w (Region.free_spec hi hf) (by simpa using hr) hy hS h
/-- whichever comes up -/
theorem wpAnyT_all {rs : List Nat} {fuel : Nat} {listed : Array Bool} {a : Act} {w : World} (hr : Region.ready md ops listed = rs) (hne : rs ≠ [])
  (h : ∀ i ∈ rs, wpOp P ops Q i (fun a' w' => (i ≠ e → S w') ∧ wpAnyT P md ops Q S e fuel (listed.setIfInBounds i true) a' w') a w) : wpAnyT P md ops Q S e (fuel + 1) listed a w :=
 ⟨fun h0 => absurd (hr ▸ h0) hne, hr ▸ h⟩
theorem wpAnyT_op {fuel : Nat} {listed : Array Bool} {a : Act} {w : World} {i : Nat} {o : Oper} (ho : ops[i]? = some o)
  (h : ∀ K' : Act → World → Prop, Shut (∀ a w, (i ≠ e → S w) → ((i ≠ e → S w) → wpAnyT P md ops Q S e fuel (listed.setIfInBounds i true) a w) → K' a w) → if Region.wanted o (yielded ops a.tmps) = true then Oper.wp P o a w K' Q else K' (a.put o.dst undef) w) :
  wpOp P ops Q i (fun a' w' => (i ≠ e → S w') ∧ wpAnyT P md ops Q S e fuel (listed.setIfInBounds i true) a' w') a w :=
 wpOp_step ho (fun K' hK => h K' (fun a w hS hW => hK a w ⟨hS, hW hS⟩))
theorem wpAnyT_one {fuel : Nat} {listed : Array Bool} {a : Act} {w : World} (i : Nat) {o : Oper} (hr : Region.ready md ops listed = [i]) (ho : ops[i]? = some o)
  (h : ∀ K' : Act → World → Prop, Shut (∀ a w, (i ≠ e → S w) → ((i ≠ e → S w) → wpAnyT P md ops Q S e fuel (listed.setIfInBounds i true) a w) → K' a w) → if Region.wanted o (yielded ops a.tmps) = true then Oper.wp P o a w K' Q else K' (a.put o.dst undef) w) : wpAnyT P md ops Q S e (fuel + 1) listed a w :=
 wpAnyT_all hr (by simp) fun j hj => by
  rw [List.mem_singleton] at hj
  subst hj
  exact wpAnyT_op ho h
theorem wpAnyT_done {listed : Array Bool} {a : Act} {w : World} (hr : Region.ready md ops listed = []) (h : Q .normal a w) :
  ∀ fuel, wpAnyT P md ops Q S e fuel listed a w
 | 0 => ⟨hr, h⟩
 | _ + 1 => ⟨fun _ => h, by rw [hr]; simp⟩
/-- the beginning -/
theorem wp_region_T (e : Nat) {id : Nat} {a : Act} {w : World} (hm : P.follows .mixedOrders = true) (hS : S w.drew)
  (h : S w.drew → wpAnyT P .any ops Q S e ops.size (Array.replicate ops.size false) a w.drew) : (Code.region id ops true).wp P Q a w :=
 wp_region_any hm (wpAny_of_T _ _ _ _ (h hS))
end
end
section
open Go.RowKit FracM
theorem PS.low {w w' : World} {g B : Nat} {en : Int} {ts : List Tok} (h : PS w g en ts) (hb : Below B w w') (hg : g < B) : PS w' g en ts := by
 obtain ⟨v, h1, h2⟩ := h.mem
 exact ⟨⟨v, (hb.block g hg).trans h1, h2.keep (Agree.of_lt hb (fun b _ hx => by omega))⟩, h.ok, h.en0⟩
theorem WordsAt.low {w w' : World} {g B : Nat} {l : List (List UInt8)} (h : WordsAt w g l) (hb : Below B w w') (hg : g < B) : WordsAt w' g l := ⟨Nat.lt_of_lt_of_le h.1 hb.size, fun k x hx => (World.cell?_of_block (a := ⟨g, k, none⟩) (hb.block g hg)).trans (h.2 k x hx)⟩
theorem WordsP.lows {w w' : World} {q B : Nat} (h : WordsP w q) (hb : Below B w w') (hq : q ≤ B) : WordsP w' q :=
 ⟨h.grp.low hb (Nat.lt_of_lt_of_le h.far.1 hq), h.fn.low hb (Nat.lt_of_lt_of_le h.far.2.1 hq), h.mat.low hb (Nat.lt_of_lt_of_le h.far.2.2.1 hq), h.opr.low hb (Nat.lt_of_lt_of_le h.far.2.2.2 hq), h.far⟩
/-- a function that makes a node: the result's block, then the node's -/
structure E2 (g : Nat) (en : Int) (w W : World) (ts : List Tok) (d : Nd) (mv bv kv : Value) : Prop where
 ps : PS W g en ts
 only : Only g w W
 z : Blk W w.heap.size 29 zeroC
 e : Blk W (w.heap.size + 1) 29 (ndC d mv bv kv)
 g0 : g < w.heap.size
 wp : WordsP W g
section
variable {g : Nat} {en : Int} {w W W' : World} {ts us : List Tok} {d d' : Nd} {mv bv kv mv' bv' kv' : Value}
theorem E2.start (h : PS w g en ts) (hw : WordsP w g) : E2 g en w ((w.alloc (.cells zeroC 29)).alloc (.cells (ndC d mv bv kv) 29)) ts d mv bv kv :=
 ⟨h.below (bel2 _ _ _), Only.of_below (bel2 _ _ _), (Blk.new _ _ _).alloc _, Blk.newAt _ _ (by simp), h.lt, hw.below (bel2 _ _ _)⟩
theorem E2.step (h : E2 g en w W ts d mv bv kv) (ho : Only g W W') (hp : PS W' g en us) : E2 g en w W' us d mv bv kv :=
 ⟨hp, h.only.trans ho, ho.blk h.z (by have := h.g0; omega), ho.blk h.e (by have := h.g0; omega), h.g0, h.wp.only ho h.wp.far⟩
theorem E2.next (h : E2 g en w W ts d mv bv kv) (hb : Below W.heap.size W W') : E2 g en w W' ts d mv bv kv := h.step (Only.of_below hb) (h.ps.below hb)
theorem E2.drew (h : E2 g en w W ts d mv bv kv) : E2 g en w W.drew ts d mv bv kv := h.next (below_drewN _ 1)
theorem E2.low (h : E2 g en w W ts d mv bv kv) (hb : Below (w.heap.size + 2) W W') : E2 g en w W' ts d mv bv kv := by
 have hg := h.g0
 have hs := h.only.size
 refine ⟨h.ps.low hb (by omega), ⟨hb.os.trans h.only.os, hb.tape.trans h.only.tape, hb.output.trans h.only.output, Nat.le_trans h.only.size hb.size, fun k hk hn => (hb.block k (by omega)).trans (h.only.block k hk hn)⟩, (hb.block _ (by omega)).trans h.z, (hb.block _ (by omega)).trans h.e, hg, h.wp.lows hb (by omega)⟩
theorem E2.put (h : E2 g en w W ts d mv bv kv) (i : Nat) (u : Value) (hd : (ndC d mv bv kv).setIfInBounds i u = ndC d' mv' bv' kv') : E2 g en w (W.setCell ⟨w.heap.size + 1, i, none⟩ u) ts d' mv' bv' kv' := by
 have hg := h.g0
 exact ⟨h.ps.only (h := w.heap.size + 1) (Only.setCell i u) (by omega), only_new h.only (by omega) i u, h.z.far (p := ⟨w.heap.size + 1, i, none⟩) (by simp only; omega) u, hd ▸ h.e.set i u, hg, h.wp.only (Only.setCell i u) (h.wp.far.le (by omega))⟩
theorem E2.c (h : E2 g en w W ts d mv bv kv) : At11 W (w.heap.size + 1) 0 d mv bv kv := blk11 h.e
theorem E2.fn (h : E2 g en w W ts d mv bv kv) : FnS g en (w.heap.size + 1) W W ts d mv bv kv := ⟨h.ps, Only2.refl _ _ _, h.e, by have := h.g0; omega, h.wp⟩
theorem E2.of_fn (h : E2 g en w W ts d mv bv kv) (f : FnS g en (w.heap.size + 1) W W' us d' mv' bv' kv') : E2 g en w W' us d' mv' bv' kv' := by
 have hg := h.g0
 have hz := h.z.lt
 have hs := h.only.size
 exact ⟨f.ps, f.only.only h.only (by omega), (f.only.block _ hz (by omega) (by omega)).trans h.z, f.blk, hg, f.wp⟩
end
/-- a tree is returned -/
def VTree (B : Nat) (t : Tree) (e : Ending) (w' : World) : Prop := ∃ mv bv kv, e = .returned (.agg (ndC t.d mv bv kv)) ∧ TreeAt w' (fun b _ => B ≤ b) t (mv, bv, kv)
theorem Only.grown {g : Nat} {w w' : World} {row : Option Nat} (h : w.grownBy w' row) (B : Nat) (hr : ∀ k, row = some k → B ≤ k) (hB : B ≤ w.heap.size) : Below B w w' :=
 ⟨h.os, h.tape, h.output, h.size, fun k hk => h.block k (by omega) (fun e => by have := hr k e.symm; omega)⟩
end
section
open Go.RowKit FracM
end
section
open Go.RowKit FracM
end
section
open Go.RowKit FracM
theorem nd_one {w : World} {P : Nat → Nat → Prop} {t : Tree} {s : Sl} (h : TreeAt w P t s) : ∀ u ∈ ndL (t, s), u.oneCell' = true := by
 obtain ⟨d, ks⟩ := t
 obtain ⟨mv, bv, kv⟩ := s
 obtain ⟨A1, n1, rfl, -⟩ := h.nod.ms.form
 obtain ⟨A2, n2, rfl, -⟩ := h.nod.bys.form
 obtain ⟨A3, n3, rfl, -⟩ := h.nod.kform
 intro u hu
 simp [ndL, Tree.d] at hu
 rcases hu with rfl | rfl | rfl | rfl | rfl | rfl | rfl | rfl | rfl | rfl | rfl <;> rfl
end
section
open Go.RowKit FracM
theorem cells3H (w : World) (H : Nat) (t : TypeId) (v0 v1 v2 : Value) (h : w.heap.size = H) : ∀ j u, [v0, v1, v2][j]? = some u → (w.alloc (.cells #[v0, v1, v2] t)).cell? ((⟨H, 0, none⟩ : Addr).add j) = some u := by subst h; exact cells3 w t v0 v1 v2
theorem cells1H (w : World) (H : Nat) (t : TypeId) (v0 : Value) (h : w.heap.size = H) : ∀ j u, [v0][j]? = some u → (w.alloc (.cells #[v0] t)).cell? ((⟨H, 0, none⟩ : Addr).add j) = some u := by subst h; exact cells1 w t v0
end
section
open Go.RowKit FracM
end
end Go.Proofs.YtipafbppaaflcaaDoor
