/- Contracts, packed: Kt Sk Sh Sp Sm Sl Le. -/
import Derived.Test.YtkdojgkiclndfaaGreatDoorPx26
import Derived.Test.YtkdojgkiclndfaaGreatDoorPx27
import Derived.Test.YtkdojgkiclndfaaGreatDoorPx33
import Derived.Deep.CutBlock
set_option linter.unusedVariables false
set_option linter.unusedSimpArgs false
namespace Go.Proofs.YtkdojgkiclndfaaGreatDoor
section
open Go.RowKit FracM
theorem PS.low {w w' : World} {g B : Nat} {en : Int} {ts : List Tok} (h : PS w g en ts) (hb : Below B w w') (hg : g < B) : PS w' g en ts := by
 obtain ⟨v, h1, h2⟩ := h.mem
 exact ⟨⟨v, (hb.block g hg).trans h1, h2.keep (Agree.of_lt hb (fun b _ hx => by omega))⟩, h.ok, h.en0⟩
theorem WordsAt.low {w w' : World} {g B : Nat} {l : List (List UInt8)} (h : WordsAt w g l) (hb : Below B w w') (hg : g < B) : WordsAt w' g l := ⟨Nat.lt_of_lt_of_le h.1 hb.size, fun k x hx => (World.cell?_of_block (a := ⟨g, k, none⟩) (hb.block g hg)).trans (h.2 k x hx)⟩
theorem WordsP.lows {w w' : World} {q B : Nat} (h : WordsP w q) (hb : Below B w w') (hq : q ≤ B) : WordsP w' q :=
 ⟨h.grp.low hb (Nat.lt_of_lt_of_le h.far.1 hq), h.fn.low hb (Nat.lt_of_lt_of_le h.far.2.1 hq), h.mat.low hb (Nat.lt_of_lt_of_le h.far.2.2.1 hq), h.opr.low hb (Nat.lt_of_lt_of_le h.far.2.2.2 hq), h.far⟩
/-- a function that makes a node: the result's block, then the node's -/
structure E2 (g : Nat) (en : Int) (w W : World) (ts : List Tok) (d : Nd) (mv bv kv : Value) : Prop where
 ps : PS W g en ts
 only : Only g w W
 z : Blk W w.heap.size 33 zeroC
 e : Blk W (w.heap.size + 1) 33 (ndC d mv bv kv)
 g0 : g < w.heap.size
 wp : WordsP W g
section
variable {g : Nat} {en : Int} {w W W' : World} {ts us : List Tok} {d d' : Nd} {mv bv kv mv' bv' kv' : Value}
theorem E2.start (h : PS w g en ts) (hw : WordsP w g) : E2 g en w ((w.alloc (.cells zeroC 33)).alloc (.cells (ndC d mv bv kv) 33)) ts d mv bv kv :=
 ⟨h.below (bel2 _ _ _), Only.of_below (bel2 _ _ _), (Blk.new _ _ _).alloc _, Blk.newAt _ _ (by simp), h.lt, hw.below (bel2 _ _ _)⟩
theorem E2.step (h : E2 g en w W ts d mv bv kv) (ho : Only g W W') (hp : PS W' g en us) : E2 g en w W' us d mv bv kv :=
 ⟨hp, h.only.trans ho, ho.blk h.z (by have := h.g0; omega), ho.blk h.e (by have := h.g0; omega), h.g0, h.wp.only ho h.wp.far⟩
theorem E2.next (h : E2 g en w W ts d mv bv kv) (hb : Below W.heap.size W W') : E2 g en w W' ts d mv bv kv := h.step (Only.of_below hb) (h.ps.below hb)
theorem E2.drew (h : E2 g en w W ts d mv bv kv) : E2 g en w W.drew ts d mv bv kv := h.next (below_drewN _ 1)
theorem E2.low (h : E2 g en w W ts d mv bv kv) (hb : Below (w.heap.size + 2) W W') : E2 g en w W' ts d mv bv kv := by
 have hg := h.g0
 have hs := h.only.size
 refine ⟨h.ps.low hb (by omega), ⟨hb.os.trans h.only.os, hb.tape.trans h.only.tape, hb.output.trans h.only.output, Nat.le_trans h.only.size hb.size, fun k hk hn => (hb.block k (by omega)).trans (h.only.block k hk hn)⟩, (hb.block _ (by omega)).trans h.z, (hb.block _ (by omega)).trans h.e, hg, h.wp.lows hb (by omega)⟩
theorem E2.put (h : E2 g en w W ts d mv bv kv) (i : Nat) (u : Value) (hd : (ndC d mv bv kv).setIfInBounds i u = ndC d' mv' bv' kv') : E2 g en w (W.setCell ⟨w.heap.size + 1, i, none⟩ u) ts d' mv' bv' kv' := by
 have hg := h.g0
 exact ⟨h.ps.only (h := w.heap.size + 1) (Only.setCell i u) (by omega), only_new h.only (by omega) i u, h.z.far (p := ⟨w.heap.size + 1, i, none⟩) (by simp only; omega) u, hd ▸ h.e.set i u, hg, h.wp.only (Only.setCell i u) (h.wp.far.le (by omega))⟩
theorem E2.c (h : E2 g en w W ts d mv bv kv) : At11 W (w.heap.size + 1) 0 d mv bv kv := blk11 h.e
theorem E2.fn (h : E2 g en w W ts d mv bv kv) : FnS g en (w.heap.size + 1) W W ts d mv bv kv := ⟨h.ps, Only2.refl _ _ _, h.e, by have := h.g0; omega, h.wp⟩
theorem E2.of_fn (h : E2 g en w W ts d mv bv kv) (f : FnS g en (w.heap.size + 1) W W' us d' mv' bv' kv') : E2 g en w W' us d' mv' bv' kv' := by
 have hg := h.g0
 have hz := h.z.lt
 have hs := h.only.size
 exact ⟨f.ps, f.only.only h.only (by omega), (f.only.block _ hz (by omega) (by omega)).trans h.z, f.blk, hg, f.wp⟩
end
/-- a tree is returned -/
def VTree (B : Nat) (t : Tree) (e : Ending) (w' : World) : Prop := ∃ mv bv kv, e = .returned (.agg (ndC t.d mv bv kv)) ∧ TreeAt w' (fun b _ => B ≤ b) t (mv, bv, kv)
theorem Only.grown {g : Nat} {w w' : World} {row : Option Nat} (h : w.grownBy w' row) (B : Nat) (hr : ∀ k, row = some k → B ≤ k) (hB : B ≤ w.heap.size) : Below B w w' :=
 ⟨h.os, h.tape, h.output, h.size, fun k hk => h.block k (by omega) (fun e => by have := hr k e.symm; omega)⟩
end
section
open Go.RowKit FracM
end
section
open Go.RowKit FracM
end
section
open Go.RowKit FracM
theorem nd_one {w : World} {P : Nat → Nat → Prop} {t : Tree} {s : Sl} (h : TreeAt w P t s) : ∀ u ∈ ndL (t, s), u.oneCell' = true := by
 obtain ⟨d, ks⟩ := t
 obtain ⟨mv, bv, kv⟩ := s
 obtain ⟨A1, n1, rfl, -⟩ := h.nod.ms.form
 obtain ⟨A2, n2, rfl, -⟩ := h.nod.bys.form
 obtain ⟨A3, n3, rfl, -⟩ := h.nod.kform
 intro u hu
 simp [ndL, Tree.d] at hu
 rcases hu with rfl | rfl | rfl | rfl | rfl | rfl | rfl | rfl | rfl | rfl | rfl <;> rfl
end
section
open Go.RowKit FracM
end
section
open Go.RowKit FracM
end
section
open Go.RowKit FracM
/-- a number as the parser reads its print -/
def normN (n d : Int) : Tree :=
 if natE n d then numT n
 else if n < 0 then (if d = 1 then binT 1 (numT 0) (numT (absI n)) else binT 1 (numT 0) (binT 3 (numT (absI n)) (numT d)))
 else (if d = 1 then numT (absI n) else binT 3 (numT (absI n)) (numT d))
mutual
/-- a tree as the parser reads its print -/
def norm : Tree → Tree
 | .node d ks => if d.kind = 0 then normN d.num d.den else .node d (normL ks)
def normL : List Tree → List Tree
 | [] => []
 | t :: ts => norm t :: normL ts
end
def Chain (opd : List Tok → Res Tree) (first : Nat) (t : Tree) (ts : List Tok) (es : List ETok) : Prop :=
 ∃ t0 us0, opd ts = .ok (t0, us0) ∧ ∀ m, us0.length < m → ∃ us m', us.map er = es ∧ us.length < m' ∧ opLoop opd first m t0 us0 = opLoop opd first m' t us
theorem Chain.base {opd : List Tok → Res Tree} {first : Nat} {t : Tree} {ts : List Tok} {es : List ETok} (h : PR (opd ts) t es) : Chain opd first t ts es := by
 obtain ⟨us, h1, h2⟩ := h
 exact ⟨t, us, h1, fun m hm => ⟨us, m, h2, hm, rfl⟩⟩
theorem opAt_ne {a b : Nat} (ha : a < 4) (hb : b < 4) (h : opAt a = opAt b) : a = b := by
 unfold opAt at h
 match a, ha, b, hb with
 | 0, _, 0, _ => rfl
 | 0, _, 1, _ => exact absurd h (by decide)
 | 0, _, 2, _ => exact absurd h (by decide)
 | 0, _, 3, _ => exact absurd h (by decide)
 | 1, _, 0, _ => exact absurd h (by decide)
 | 1, _, 1, _ => rfl
 | 1, _, 2, _ => exact absurd h (by decide)
 | 1, _, 3, _ => exact absurd h (by decide)
 | 2, _, 0, _ => exact absurd h (by decide)
 | 2, _, 1, _ => exact absurd h (by decide)
 | 2, _, 2, _ => rfl
 | 2, _, 3, _ => exact absurd h (by decide)
 | 3, _, 0, _ => exact absurd h (by decide)
 | 3, _, 1, _ => exact absurd h (by decide)
 | 3, _, 2, _ => exact absurd h (by decide)
 | 3, _, 3, _ => rfl
theorem opFn_at {first fn : Nat} (hf : first ≤ fn ∧ fn ≤ first + 1) (h4 : first + 1 < 4) {us : List Tok} {es : List ETok} (h : us.map er = eS (opAt fn) :: es) : opFn first us = fn ∧ isT us 3 (opAt fn) = true := by
 have h1 : isT us 3 (opAt fn) = true := by rw [isT_er, h]; simp [isE]
 refine ⟨?_, h1⟩
 unfold opFn
 by_cases hx : fn = first
 ·subst hx; rw [if_pos h1]
 ·rw [if_neg ?_]
  ·omega
  ·rw [isT_er, h]
   simp only [isE, Bool.and_eq_true, beq_iff_eq]
   exact fun hc => hx (opAt_ne (by omega) (by omega) hc.2)
theorem opLoop_go2 {opd : List Tok → Res Tree} {A fn n : Nat} {t : Tree} {us : List Tok} (hf : opFn A us = fn) (h : isT us 3 (opAt fn) = true) : opLoop opd A (n + 1) t us = andR (opd us.tail) fun right ts' => opLoop opd A n (binT fn t right) ts' := by
 rw [opLoop, hf, if_pos h]
theorem Chain.step {opd : List Tok → Res Tree} {first fn : Nat} {l r : Tree} {ts : List Tok} {es rs : List ETok} (hf : first ≤ fn ∧ fn ≤ first + 1) (h4 : first + 1 < 4) (h : Chain opd first l ts (eS (opAt fn) :: (rs ++ es))) (hr : ∀ us, us.map er = rs ++ es → PR (opd us) r es) : Chain opd first (binT fn l r) ts es := by
 obtain ⟨t0, us0, h1, h2⟩ := h
 refine ⟨t0, us0, h1, fun m hm => ?_⟩
 obtain ⟨us, m', h3, h5, h6⟩ := h2 m hm
 obtain ⟨k, rfl⟩ : ∃ k, m' = k + 1 := ⟨m' - 1, by omega⟩
 obtain ⟨h7, h8⟩ := opFn_at hf h4 h3
 obtain ⟨vs, h9, h10⟩ := hr us.tail (hd_er h3).2.2.2.1
 refine ⟨vs, k, h10, ?_, ?_⟩
 ·have e1 := congrArg List.length h3
  have e2 := congrArg List.length h10
  rw [List.length_map] at e1 e2
  simp only [List.length_cons, List.length_append] at e1
  omega
 ·rw [h6, opLoop_go2 h7 h8, h9]
  rfl
theorem opLoop_end {opd : List Tok → Res Tree} {first m : Nat} {t : Tree} {us : List Tok} (h4 : first + 1 < 4) (h1 : isT us 3 (opAt first) = false) (h2 : isT us 3 (opAt (first + 1)) = false) : opLoop opd first m t us = .ok (t, us) := by
 cases m with
 | zero => rfl
 | succ m =>
  rw [opLoop, if_neg]
  unfold opFn
  rw [if_neg (by rw [h1]; simp), h2]
  simp
theorem Chain.done {opd : List Tok → Res Tree} {first : Nat} {t : Tree} {ts : List Tok} {es : List ETok} (h4 : first + 1 < 4) (h : Chain opd first t ts es) (h1 : isE es 3 (opAt first) = false) (h2 : isE es 3 (opAt (first + 1)) = false) : PR (operM opd first ts) t es := by
 obtain ⟨t0, us0, h3, h5⟩ := h
 obtain ⟨us, m', h6, h7, h8⟩ := h5 (us0.length + 1) (by omega)
 refine ⟨us, ?_, h6⟩
 unfold operM
 rw [h3]
 show opLoop opd first (us0.length + 1) t0 us0 = _
 rw [h8]
 exact opLoop_end h4 (by rw [isT_er, h6]; exact h1) (by rw [isT_er, h6]; exact h2)
end
end Go.Proofs.YtkdojgkiclndfaaGreatDoor
