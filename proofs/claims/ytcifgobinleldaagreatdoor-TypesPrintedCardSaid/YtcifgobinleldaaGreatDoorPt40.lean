/- Contracts, packed: Rf Sa Sj Sr Sf. -/
import Derived.Test.YtcifgobinleldaaGreatDoorPt4
import Derived.Test.YtcifgobinleldaaGreatDoorPt14
import Derived.Test.YtcifgobinleldaaGreatDoorPt19
import Derived.Test.YtcifgobinleldaaGreatDoorPt20
import Derived.Test.YtcifgobinleldaaGreatDoorPt21
import Derived.Test.YtcifgobinleldaaGreatDoorPt22
import Derived.Test.YtcifgobinleldaaGreatDoorPt28
import Derived.Test.YtcifgobinleldaaGreatDoorPt31
import Derived.Test.YtcifgobinleldaaGreatDoorPt32
import Derived.ArgAppend
import Derived.Deep.DeepAppendRoom
import Derived.Deep.RegionHeld3
set_option linter.unusedVariables false
set_option linter.unusedSimpArgs false
namespace Go.Proofs.YtcifgobinleldaaGreatDoor
section
open Go.RowKit FracM

abbrev Var := Nat × TypeId × Array Value
/-- what the law holds: declarations, and its variables -/
structure QS (w W : World) (dv : Value) (D : List Dx) (vs : List Var) : Prop where
  below : Below w.heap.size w W
  decs : DecsAt W AnyP dv D
  vars : ∀ v ∈ vs, Blk W v.1 v.2.1 v.2.2
theorem QS.next {w W W' : World} {dv : Value} {D : List Dx} {vs : List Var} (h : QS w W dv D vs) (hb : Below W.heap.size W W') : QS w W' dv D vs :=
  ⟨bthen h.below hb (Nat.le_refl _), h.decs.keep (Agree.of_below hb), fun v hv => (h.vars v hv).below hb⟩
theorem QS.add {w W : World} {dv : Value} {D : List Dx} {vs : List Var} (h : QS w W dv D vs) (t : TypeId) (cs : Array Value) : QS w (W.alloc (.cells cs t)) dv D ((W.heap.size, t, cs) :: vs) :=
  ⟨bthen h.below (bel1 _ _) (Nat.le_refl _), h.decs.keep (Agree.of_below (bel1 _ _)), fun v hv => by
    rcases List.mem_cons.1 hv with e | e
    · subst e; exact Blk.new _ _ _
    · exact (h.vars v e).alloc _⟩
theorem unitsL_fit : ∀ u ∈ unitsL, I64 u.1 ∧ I64 u.2.1 ∧ I64 u.2.2 := by
  intro u hu
  simp [unitsL] at hu
  unfold I64
  rcases hu with rfl | rfl | rfl | rfl | rfl | rfl | rfl | rfl <;> simp
theorem decs_of {w w1 : World} {D : List Dx} {v : Value} (hown : w1.ownsRow w.heap.size 63 12 v D.length (D.flatMap dcL)) (hg : ∀ x ∈ D, GoodD w1 0 x) : DecsAt w1 AnyP v D :=
  ⟨SeqP.of_own hown (fun _ _ _ _ => trivial), fun x hx => ⟨SeqP.of_seq (hg x hx).labs (fun _ _ _ _ _ => trivial), by have := (ns3_ok _ (hg x hx).name).2.2; unfold maxLen; omega, unitsL_fit _ (hg x hx).unit⟩⟩
theorem Ints.toP {w : World} {v : Value} {l : List Int} (h : Ints w w.heap.size v l) : IntsP w v l := by
  obtain ⟨⟨h1, A, c, hv, hn, hc, hx⟩, hz⟩ := h
  refine ⟨⟨h1, A, c, hv, hn, hc, fun h0 => ?_⟩, hz⟩
  obtain ⟨b, off, hA, hf, hcl⟩ := hx h0
  exact ⟨b, off, hA, hf.1, hf.1, hcl⟩
end
section
open Go.RowKit FracM
end
section
open Go.RowKit FracM

/-- of the blocks from B to H only the cells behind the ends L have turned -/
structure SpF (B H : Nat) (L : Nat → Nat) (w w' : World) : Prop where
  os : w'.os = w.os
  tape : w'.tape = w.tape
  output : w'.output = w.output
  size : w.heap.size ≤ w'.heap.size
  block : ∀ k, k < w.heap.size → (k < B ∨ H ≤ k) → w'.heap[k]? = w.heap[k]?
  cell : ∀ b o, b < w.heap.size → o < L b → w'.cell? ⟨b, o, none⟩ = w.cell? ⟨b, o, none⟩
theorem SpF.refl (B H : Nat) (L : Nat → Nat) (w : World) : SpF B H L w w := ⟨rfl, rfl, rfl, Nat.le_refl _, fun _ _ _ => rfl, fun _ _ _ _ => rfl⟩
theorem SpF.below {B H : Nat} {L : Nat → Nat} {w w' : World} (h : SpF B H L w w') (hB : B ≤ w.heap.size) : Below B w w' := ⟨h.os, h.tape, h.output, h.size, fun k hk => h.block k (by omega) (.inl hk)⟩
theorem SpF.agree {B H : Nat} {L : Nat → Nat} {w w' : World} (h : SpF B H L w w') : Agree (fun b e => B ≤ b ∧ b < H ∧ e = L b) w w' := ⟨h.size, fun b e o hp hb ho => h.cell b o hb (hp.2.2 ▸ ho)⟩
theorem SpF.then_below {B H : Nat} {L : Nat → Nat} {w w1 w2 : World} (h : SpF B H L w w1) (k : Below w.heap.size w1 w2) : SpF B H L w w2 :=
  ⟨k.os.trans h.os, k.tape.trans h.tape, k.output.trans h.output, Nat.le_trans h.size k.size, fun j hj hb => (k.block j hj).trans (h.block j hj hb), fun b o hb ho => (World.cell?_of_block (a := ⟨b, o, none⟩) (k.block b hb)).trans (h.cell b o hb ho)⟩
theorem SpF.trans {B H : Nat} {L : Nat → Nat} {w w1 w2 : World} (h : SpF B H L w w1) (k : SpF B H L w1 w2) : SpF B H L w w2 :=
  ⟨k.os.trans h.os, k.tape.trans h.tape, k.output.trans h.output, Nat.le_trans h.size k.size, fun j hj hb => (k.block j (Nat.lt_of_lt_of_le hj h.size) hb).trans (h.block j hj hb), fun b o hb ho => (k.cell b o (Nat.lt_of_lt_of_le hb h.size) ho).trans (h.cell b o hb ho)⟩
/-- what an append onto a row may turn: blocks that R names with the row's end, behind that end -/
structure ApF (R : Nat → Nat → Prop) (z : Nat) (w w' : World) : Prop where
  os : w'.os = w.os
  tape : w'.tape = w.tape
  output : w'.output = w.output
  size : w.heap.size ≤ w'.heap.size
  block : ∀ k, k < w.heap.size → ¬ R k z → w'.heap[k]? = w.heap[k]?
  cell : ∀ b o, b < w.heap.size → o < z → w'.cell? ⟨b, o, none⟩ = w.cell? ⟨b, o, none⟩
section
variable {P : Program} (w : World)
end
/-- the state of a changed node: its own copy, the result's block -/
structure Ch (w W : World) (B H : Nat) (L : Nat → Nat) (d : Nd) (mv bv kv : Value) : Prop where
  fr : SpF B H L w W
  e : Blk W w.heap.size 33 (ndC d mv bv kv)
  z : Blk W (w.heap.size + 1) 33 zeroC
theorem Ch.start (w : World) (B H : Nat) (L : Nat → Nat) (d : Nd) (mv bv kv : Value) : Ch w ((w.alloc (.cells (ndC d mv bv kv) 33)).alloc (.cells zeroC 33)) B H L d mv bv kv :=
  ⟨.then_below (.refl _ _ _ _) (bel2 _ _ _), (Blk.new _ _ _).alloc _, Blk.newAt _ _ (by simp)⟩
theorem Ch.below {w W W' : World} {B H : Nat} {L : Nat → Nat} {d : Nd} {mv bv kv : Value} (h : Ch w W B H L d mv bv kv) (f : Below W.heap.size W W') : Ch w W' B H L d mv bv kv :=
  ⟨h.fr.then_below (f.mono h.fr.size), h.e.below f, h.z.below f⟩
theorem Ch.set {w W : World} {B H : Nat} {L : Nat → Nat} {d d' : Nd} {mv bv kv mv' bv' kv' : Value} (h : Ch w W B H L d mv bv kv) (k : Nat) (u : Value) (hd : (ndC d mv bv kv).setIfInBounds k u = ndC d' mv' bv' kv') : Ch w (W.setCell ⟨w.heap.size, k, none⟩ u) B H L d' mv' bv' kv' :=
  ⟨h.fr.then_below ((Below.refl _ W).setCell (p := ⟨w.heap.size, k, none⟩) (Nat.le_refl _) u), by have := h.e.set k u; rw [hd] at this; exact this, (Only.setCell (g := w.heap.size) k u).blk h.z (by omega)⟩
/-- where a row of a changed node may lie: behind its old end in an old block, or in a new block -/
def SpP (B H F : Nat) (L : Nat → Nat) : Nat → Nat → Prop := fun b e => (B ≤ b ∧ b < H ∧ L b ≤ e) ∨ F ≤ b
theorem Ch.app {w W W' : World} {B H : Nat} {L : Nat → Nat} {d : Nd} {mv bv kv : Value} {z : Nat} (h : Ch w W B H L d mv bv kv) (hH : H ≤ w.heap.size) (f : ApF (SpP B H (w.heap.size + 2) L) z W W') : Ch w W' B H L d mv bv kv := by
  have h0 := h.fr.size
  refine ⟨⟨f.os.trans h.fr.os, f.tape.trans h.fr.tape, f.output.trans h.fr.output, Nat.le_trans h0 f.size, fun k hk hb => (f.block k (by omega) ?_).trans (h.fr.block k hk hb), fun b o hb ho => ?_⟩, ?_, ?_⟩
  · rintro (⟨q1, q2, q3⟩ | q)
    · omega
    · omega
  · by_cases hr : SpP B H (w.heap.size + 2) L b z
    · rcases hr with ⟨q1, q2, q3⟩ | q
      · exact (f.cell b o (by omega) (by omega)).trans (h.fr.cell b o hb ho)
      · omega
    · exact (World.cell?_of_block (a := ⟨b, o, none⟩) (f.block b (by omega) hr)).trans (h.fr.cell b o hb ho)
  · refine (f.block _ h.e.lt ?_).trans h.e
    rintro (⟨q1, q2, q3⟩ | q)
    · omega
    · omega
  · refine (f.block _ h.z.lt ?_).trans h.z
    rintro (⟨q1, q2, q3⟩ | q)
    · omega
    · omega
theorem OwnP.sp {w : World} {B H F t size n : Nat} {L : Nat → Nat} {v : Value} {xs : List Value} (h : OwnP w (fun b e => B ≤ b ∧ b < H ∧ e = L b) t size v n xs) : OwnP w (SpP B H F L) t size v n xs :=
  h.mono fun b e _ hp => .inl ⟨hp.1, hp.2.1, by omega⟩
/-- old blocks below H, or blocks from F on -/
def FrP (H F : Nat) : Nat → Nat → Prop := fun b _ => b < H ∨ F ≤ b
theorem Ch.nod {w wx : World} {B H : Nat} {L : Nat → Nat} {d d' : Nd} {ks : List Tree} {mv bv kv mv' bv' kv' : Value} (h : Ch w wx B H L d' mv' bv' kv') (hT : TreeG w (fun b e => B ≤ b ∧ b < H ∧ e = L b) (.node d ks) (mv, bv, kv)) : Nod wx (FrP H (w.heap.size + 2)) d ks mv bv kv :=
  ((hT.tree.keep h.fr.agree).mono fun _ _ _ hp => .inl hp.2.1).nod
theorem SpP.fr {B H F : Nat} {L : Nat → Nat} {b e : Nat} (h : SpP B H F L b e) : FrP H F b e := by
  rcases h with ⟨q1, q2, q3⟩ | q
  · exact .inl q2
  · exact .inr q
end
section
open Go Go.RowKit

section
variable {P : Program} {ops : Array Oper} {Q : Exit → Act → World → Prop} {md : Region.Mode} {S : World → Prop} {e : Nat}
/-- as wpAnyH, S being asked behind every operation but e -/
def wpAnyT (P : Program) (md : Region.Mode) (ops : Array Oper) (Q : Exit → Act → World → Prop) (S : World → Prop) (e : Nat) : Nat → Array Bool → Act → World → Prop
  | 0, listed, a, w => Region.ready md ops listed = [] ∧ Q .normal a w
  | fuel + 1, listed, a, w =>
    (Region.ready md ops listed = [] → Q .normal a w) ∧
    ∀ i ∈ Region.ready md ops listed, wpOp P ops Q i (fun a' w' => (i ≠ e → S w') ∧ wpAnyT P md ops Q S e fuel (listed.setIfInBounds i true) a' w') a w
theorem wpAny_of_T : ∀ (fuel : Nat) (listed : Array Bool) (a : Act) (w : World), wpAnyT P md ops Q S e fuel listed a w → wpAny P md ops Q fuel listed a w
  | 0, _, _, _, h => h
  | fuel + 1, _, _, _, h => ⟨h.1, fun i hi => wpOp_mono (fun a' w' h' => wpAny_of_T fuel _ a' w' h'.2) (h.2 i hi)⟩
/-- operation e waits for operation i -/
def waits (md : Region.Mode) (ops : Array Oper) (e i : Nat) : Bool :=
  match ops[e]? with
  | some o => o.after.any (fun x => x.on == i && Region.binds md x)
  | none => false
theorem not_ready_of_waits {i : Nat} {listed : Array Bool} (hw : waits md ops e i = true) (hl : listed.getD i true = false) : e ∉ Region.ready md ops listed := by
  intro hr
  obtain ⟨_, o, ho, hall⟩ := mem_ready.1 hr
  unfold waits at hw
  rw [ho] at hw
  simp only [Array.any_eq_true] at hw
  obtain ⟨k, hk, hx⟩ := hw
  simp only [Bool.and_eq_true, beq_iff_eq] at hx
  have h1 := hall _ (Array.getElem_mem hk) hx.2
  rw [hx.1] at h1
  rcases Nat.lt_or_ge i listed.size with h' | h'
  · simp [h'] at hl h1; rw [hl] at h1; cases h1
  · simp [Array.getElem?_eq_none h'] at h1
theorem wpAnyT_first {i : Nat} {oi : Oper} {v : Value} (hi : ops[i]? = some oi) (hsel : ∀ (j : Nat) (o : Oper) cs b, ops[j]? = some o → o.op ≠ .select cs b)
    (hQ : ∀ c a w, Q (.panic c) (a.put oi.dst v) w → Q (.panic c) a w) (hwt : waits md ops e i = true) (hie : i ≠ e) :
    ∀ (fuel : Nat) (listed : Array Bool) (a : Act) (w : World),
      (∀ j oj, ops[j]? = some oj → j ≠ i → listed.getD j true = false → (∀ x ∈ oj.after, Region.binds md x = true → x.on ≠ i) → oi.apart ops oj = true) →
      i ∈ Region.ready md ops listed → YieldsIf P ops S oi v a → S w →
      wpAnyT P md ops Q S e fuel (listed.setIfInBounds i true) (a.put oi.dst v) w → wpAnyT P md ops Q S e (fuel + 1) listed a w := by
  intro fuel
  induction fuel with
  | zero =>
    intro listed a w _ hr hy hS H
    refine ⟨fun h => (by rw [h] at hr; cases hr), fun j hj => ?_⟩
    by_cases hji : j = i
    · subst hji; exact hy.wpOp hi hS ⟨fun _ => hS, H⟩
    · have := ready_mono hj hji
      rw [H.1] at this
      cases this
  | succ fuel ih =>
    intro listed a w hfree hr hy hS H
    refine ⟨fun h => (by rw [h] at hr; cases hr), fun j hj => ?_⟩
    by_cases hji : j = i
    · subst hji; exact hy.wpOp hi hS ⟨fun _ => hS, H⟩
    · have hje : j ≠ e := fun h => not_ready_of_waits hwt (mem_ready.1 hr).1 (h ▸ hj)
      have h1 := H.2 j (ready_mono hj hji)
      obtain ⟨hjun, oj, hoj, hall⟩ := mem_ready.1 hj
      have hnot : ∀ x ∈ oj.after, Region.binds md x = true → x.on ≠ i := fun x hx hb heq => by
        have h1 := hall x hx hb
        have h0 := (mem_ready.1 hr).1
        rw [heq] at h1
        rcases Nat.lt_or_ge i listed.size with h' | h'
        · simp [h'] at h0 h1; rw [h0] at h1; cases h1
        · simp [Array.getElem?_eq_none h'] at h1
      have h2 := wpOp_putIf hoj (hfree j oj hoj hji hjun hnot) (fun cs b => hsel i oi cs b hi) (fun cs b => hsel j oj cs b hoj) hQ hy h1
      have hfree' : ∀ k ok, ops[k]? = some ok → k ≠ i → (listed.setIfInBounds j true).getD k true = false →
          (∀ x ∈ ok.after, Region.binds md x = true → x.on ≠ i) → oi.apart ops ok = true := fun k ok hk hki hun hno => by
        refine hfree k ok hk hki ?_ hno
        by_cases hjk : j = k
        · subst hjk; exact hjun
        · rw [getD_set_ne true hjk] at hun; exact hun
      refine wpOp_mono (fun a' w' h3 => ⟨h3.2.1, ih (listed.setIfInBounds j true) a' w' hfree' (ready_mono hr (Ne.symm hji)) h3.1 (h3.2.1 hje) ?_⟩) h2
      rw [Array.setIfInBounds_comm _ _ hji]
      exact h3.2.2
theorem wpAnyT_take {i : Nat} {oi : Oper} {v : Value} {fuel : Nat} {listed : Array Bool} {a : Act} {w : World} (hi : ops[i]? = some oi)
    (hs : Region.noSelect ops = true) (hf : Region.free md ops listed i = true) (hr : (Region.ready md ops listed).contains i = true)
    (hQ : ∀ c a w, Q (.panic c) (a.put oi.dst v) w → Q (.panic c) a w) (hwt : waits md ops e i = true) (hie : i ≠ e) (hy : YieldsIf P ops S oi v a) (hS : S w)
    (h : wpAnyT P md ops Q S e fuel (listed.setIfInBounds i true) (a.put oi.dst v) w) : wpAnyT P md ops Q S e (fuel + 1) listed a w :=
  wpAnyT_first hi (Region.noSelect_spec hs) hQ hwt hie fuel listed a w (Region.free_spec hi hf) (by simpa using hr) hy hS h
/-- whichever comes up -/
theorem wpAnyT_all {rs : List Nat} {fuel : Nat} {listed : Array Bool} {a : Act} {w : World} (hr : Region.ready md ops listed = rs) (hne : rs ≠ [])
    (h : ∀ i ∈ rs, wpOp P ops Q i (fun a' w' => (i ≠ e → S w') ∧ wpAnyT P md ops Q S e fuel (listed.setIfInBounds i true) a' w') a w) : wpAnyT P md ops Q S e (fuel + 1) listed a w :=
  ⟨fun h0 => absurd (hr ▸ h0) hne, hr ▸ h⟩
theorem wpAnyT_op {fuel : Nat} {listed : Array Bool} {a : Act} {w : World} {i : Nat} {o : Oper} (ho : ops[i]? = some o)
    (h : ∀ K' : Act → World → Prop, Shut (∀ a w, (i ≠ e → S w) → ((i ≠ e → S w) → wpAnyT P md ops Q S e fuel (listed.setIfInBounds i true) a w) → K' a w) → if Region.wanted o (yielded ops a.tmps) = true then Oper.wp P o a w K' Q else K' (a.put o.dst undef) w) :
    wpOp P ops Q i (fun a' w' => (i ≠ e → S w') ∧ wpAnyT P md ops Q S e fuel (listed.setIfInBounds i true) a' w') a w :=
  wpOp_step ho (fun K' hK => h K' (fun a w hS hW => hK a w ⟨hS, hW hS⟩))
theorem wpAnyT_one {fuel : Nat} {listed : Array Bool} {a : Act} {w : World} (i : Nat) {o : Oper} (hr : Region.ready md ops listed = [i]) (ho : ops[i]? = some o)
    (h : ∀ K' : Act → World → Prop, Shut (∀ a w, (i ≠ e → S w) → ((i ≠ e → S w) → wpAnyT P md ops Q S e fuel (listed.setIfInBounds i true) a w) → K' a w) → if Region.wanted o (yielded ops a.tmps) = true then Oper.wp P o a w K' Q else K' (a.put o.dst undef) w) : wpAnyT P md ops Q S e (fuel + 1) listed a w :=
  wpAnyT_all hr (by simp) fun j hj => by
    rw [List.mem_singleton] at hj
    subst hj
    exact wpAnyT_op ho h
theorem wpAnyT_done {listed : Array Bool} {a : Act} {w : World} (hr : Region.ready md ops listed = []) (h : Q .normal a w) :
    ∀ fuel, wpAnyT P md ops Q S e fuel listed a w
  | 0 => ⟨hr, h⟩
  | _ + 1 => ⟨fun _ => h, by rw [hr]; simp⟩
/-- the beginning -/
theorem wp_region_T (e : Nat) {id : Nat} {a : Act} {w : World} (hm : P.follows .mixedOrders = true) (hS : S w.drew)
    (h : S w.drew → wpAnyT P .any ops Q S e ops.size (Array.replicate ops.size false) a w.drew) : (Code.region id ops true).wp P Q a w :=
  wp_region_any hm (wpAny_of_T _ _ _ _ (h hS))
end
end
section
open Go.RowKit FracM
end
end Go.Proofs.YtcifgobinleldaaGreatDoor
