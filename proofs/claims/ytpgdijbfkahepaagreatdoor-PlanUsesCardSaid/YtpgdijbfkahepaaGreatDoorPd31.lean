/- Contracts, packed: Kt Sm Sl Sn Ss. -/
import Derived.Test.YtpgdijbfkahepaaGreatDoorPd26
import Derived.Test.YtpgdijbfkahepaaGreatDoorPd30
import Derived.Deep.CutBlock
set_option linter.unusedVariables false
set_option linter.unusedSimpArgs false
namespace Go.Proofs.YtpgdijbfkahepaaGreatDoor
section
open Go.RowKit FracM
theorem PS.low {w w' : World} {g B : Nat} {en : Int} {ts : List Tok} (h : PS w g en ts) (hb : Below B w w') (hg : g < B) : PS w' g en ts := by
 obtain ⟨v, h1, h2⟩ := h.mem
 exact ⟨⟨v, (hb.block g hg).trans h1, h2.keep (Agree.of_lt hb (fun b _ hx => by omega))⟩, h.ok, h.en0⟩
theorem WordsAt.low {w w' : World} {g B : Nat} {l : List (List UInt8)} (h : WordsAt w g l) (hb : Below B w w') (hg : g < B) : WordsAt w' g l := ⟨Nat.lt_of_lt_of_le h.1 hb.size, fun k x hx => (World.cell?_of_block (a := ⟨g, k, none⟩) (hb.block g hg)).trans (h.2 k x hx)⟩
theorem WordsP.lows {w w' : World} {q B : Nat} (h : WordsP w q) (hb : Below B w w') (hq : q ≤ B) : WordsP w' q :=
 ⟨h.grp.low hb (Nat.lt_of_lt_of_le h.far.1 hq), h.fn.low hb (Nat.lt_of_lt_of_le h.far.2.1 hq), h.mat.low hb (Nat.lt_of_lt_of_le h.far.2.2.1 hq), h.opr.low hb (Nat.lt_of_lt_of_le h.far.2.2.2 hq), h.far⟩
/-- a function that makes a node: the result's block, then the node's -/
structure E2 (g : Nat) (en : Int) (w W : World) (ts : List Tok) (d : Nd) (mv bv kv : Value) : Prop where
 ps : PS W g en ts
 only : Only g w W
 z : Blk W w.heap.size 35 zeroC
 e : Blk W (w.heap.size + 1) 35 (ndC d mv bv kv)
 g0 : g < w.heap.size
 wp : WordsP W g
section
variable {g : Nat} {en : Int} {w W W' : World} {ts us : List Tok} {d d' : Nd} {mv bv kv mv' bv' kv' : Value}
theorem E2.start (h : PS w g en ts) (hw : WordsP w g) : E2 g en w ((w.alloc (.cells zeroC 35)).alloc (.cells (ndC d mv bv kv) 35)) ts d mv bv kv :=
 ⟨h.below (bel2 _ _ _), Only.of_below (bel2 _ _ _), (Blk.new _ _ _).alloc _, Blk.newAt _ _ (by simp), h.lt, hw.below (bel2 _ _ _)⟩
theorem E2.step (h : E2 g en w W ts d mv bv kv) (ho : Only g W W') (hp : PS W' g en us) : E2 g en w W' us d mv bv kv :=
 ⟨hp, h.only.trans ho, ho.blk h.z (by have := h.g0; omega), ho.blk h.e (by have := h.g0; omega), h.g0, h.wp.only ho h.wp.far⟩
theorem E2.next (h : E2 g en w W ts d mv bv kv) (hb : Below W.heap.size W W') : E2 g en w W' ts d mv bv kv := h.step (Only.of_below hb) (h.ps.below hb)
theorem E2.drew (h : E2 g en w W ts d mv bv kv) : E2 g en w W.drew ts d mv bv kv := h.next (below_drewN _ 1)
theorem E2.low (h : E2 g en w W ts d mv bv kv) (hb : Below (w.heap.size + 2) W W') : E2 g en w W' ts d mv bv kv := by
 have hg := h.g0
 have hs := h.only.size
 refine ⟨h.ps.low hb (by omega), ⟨hb.os.trans h.only.os, hb.tape.trans h.only.tape, hb.output.trans h.only.output, Nat.le_trans h.only.size hb.size, fun k hk hn => (hb.block k (by omega)).trans (h.only.block k hk hn)⟩, (hb.block _ (by omega)).trans h.z, (hb.block _ (by omega)).trans h.e, hg, h.wp.lows hb (by omega)⟩
theorem E2.put (h : E2 g en w W ts d mv bv kv) (i : Nat) (u : Value) (hd : (ndC d mv bv kv).setIfInBounds i u = ndC d' mv' bv' kv') : E2 g en w (W.setCell ⟨w.heap.size + 1, i, none⟩ u) ts d' mv' bv' kv' := by
 have hg := h.g0
 exact ⟨h.ps.only (h := w.heap.size + 1) (Only.setCell i u) (by omega), only_new h.only (by omega) i u, h.z.far (p := ⟨w.heap.size + 1, i, none⟩) (by simp only; omega) u, hd ▸ h.e.set i u, hg, h.wp.only (Only.setCell i u) (h.wp.far.le (by omega))⟩
theorem E2.c (h : E2 g en w W ts d mv bv kv) : At11 W (w.heap.size + 1) 0 d mv bv kv := blk11 h.e
theorem E2.fn (h : E2 g en w W ts d mv bv kv) : FnS g en (w.heap.size + 1) W W ts d mv bv kv := ⟨h.ps, Only2.refl _ _ _, h.e, by have := h.g0; omega, h.wp⟩
theorem E2.of_fn (h : E2 g en w W ts d mv bv kv) (f : FnS g en (w.heap.size + 1) W W' us d' mv' bv' kv') : E2 g en w W' us d' mv' bv' kv' := by
 have hg := h.g0
 have hz := h.z.lt
 have hs := h.only.size
 exact ⟨f.ps, f.only.only h.only (by omega), (f.only.block _ hz (by omega) (by omega)).trans h.z, f.blk, hg, f.wp⟩
end
/-- a tree is returned -/
def VTree (B : Nat) (t : Tree) (e : Ending) (w' : World) : Prop := ∃ mv bv kv, e = .returned (.agg (ndC t.d mv bv kv)) ∧ TreeAt w' (fun b _ => B ≤ b) t (mv, bv, kv)
theorem Only.grown {g : Nat} {w w' : World} {row : Option Nat} (h : w.grownBy w' row) (B : Nat) (hr : ∀ k, row = some k → B ≤ k) (hB : B ≤ w.heap.size) : Below B w w' :=
 ⟨h.os, h.tape, h.output, h.size, fun k hk => h.block k (by omega) (fun e => by have := hr k e.symm; omega)⟩
end
section
open Go.RowKit FracM
end
section
open Go.RowKit FracM
end
section
open Go.RowKit FracM
end
section
open Go.RowKit FracM
end
end Go.Proofs.YtpgdijbfkahepaaGreatDoor
