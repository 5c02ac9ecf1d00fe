/- Contracts, packed: Aa Ab Ac Ad Ak Bf. -/
import Derived.Test.YtipafbppaaflcaaDoorPu1
import Derived.Test.YtipafbppaaflcaaDoorPu25
import Derived.Test.YtipafbppaaflcaaDoorPu45
import Derived.Test.YtipafbppaaflcaaDoorPu46
import Derived.Test.YtipafbppaaflcaaDoorPu47
import Derived.Test.YtipafbppaaflcaaDoorPu48
import Derived.WalkLawsBesides
import Derived.IntWalk
set_option linter.unusedVariables false
set_option linter.unusedSimpArgs false
namespace Go.Proofs.YtipafbppaaflcaaDoor
section
open Go.RowKit FracM
theorem Ints.toP {w : World} {v : Value} {l : List Int} (h : Ints w w.heap.size v l) : IntsP w v l := by
 obtain ⟨⟨h1, A, c, hv, hn, hc, hx⟩, hz⟩ := h
 refine ⟨⟨h1, A, c, hv, hn, hc, fun h0 => ?_⟩, hz⟩
 obtain ⟨b, off, hA, hf, hcl⟩ := hx h0
 exact ⟨b, off, hA, hf.1, hf.1, hcl⟩
/-- a variable that holds a tree -/
structure TB (W : World) (g : Nat) (t : Tree) (s : Sl) : Prop where
 box : Blk W g 29 (ndC t.d s.1 s.2.1 s.2.2)
 tr : TreeAt W AnyP t s
theorem TB.next {W W' : World} {g : Nat} {t : Tree} {s : Sl} (h : TB W g t s) (hb : Below W.heap.size W W') : TB W' g t s := ⟨h.box.below hb, (h.tr.low.keep (Agree.of_below hb)).mono fun _ _ _ _ => trivial⟩
theorem TB.new {W : World} {t : Tree} {s : Sl} (h : TreeAt W AnyP t s) : TB (W.alloc (.cells (ndC t.d s.1 s.2.1 s.2.2) 29)) W.heap.size t s := ⟨Blk.new _ _ _, (h.low.keep (Agree.of_below (bel1 _ _))).mono fun _ _ _ _ => trivial⟩
end
section
open Go.RowKit FracM
section
variable {P : Program} (w : World)
end
end
section
open Go.RowKit FracM
def SmallD (d : Nd) : Prop := d.ms.length ≤ 1000000 ∧ d.bys.length ≤ 1000000
end
section
open Go.RowKit FracM
section
variable {P : Program} (w : World)
end
end
section
open Go.RowKit FracM
theorem own_lt {w w' : World} {B X t size n : Nat} {v : Value} {xs : List Value} (h : w.ownsRow B t size v n xs) (hb : Below X w w') (hv : ∀ g, v.ownBlock = some g → g < X) : w'.ownsRow B t size v n xs := by
 refine ⟨h.1, ?_⟩
 rcases h.2 with h0 | ⟨g, c, cur, rfl, hg, hh, rest⟩
 ·exact .inl h0
 ·exact .inr ⟨g, c, cur, rfl, hg, (hb.block g (hv g rfl)).trans hh, rest⟩
theorem PlW.keepX {w w' : World} {B X : Nat} {P : Nat → Nat → Prop} {v : Value} {l : List Nd} (h : PlW w B P v l) (hb : Below X w w') (hP : ∀ b e, P b e → b < X) (hv : ∀ g, v.ownBlock = some g → g < X) : PlW w' B P v l := by
 obtain ⟨cs, h1, h2⟩ := h
 exact ⟨cs, own_lt h1 hb hv, h2.keep (Agree.of_lt hb hP)⟩
theorem PlW.bk {w : World} {B : Nat} {P : Nat → Nat → Prop} {v : Value} {l : List Nd} (h : PlW w B P v l) : ∀ g, v.ownBlock = some g → B ≤ g ∧ g < w.heap.size := by
 obtain ⟨cs, h1, -⟩ := h
 exact own_bk h1
theorem SeqP.matP {w : World} {P : Nat → Nat → Prop} {A : Option Addr} {n c : Nat} {l : List Mat} (h : SeqP w P 3 (.slice A n c) n (l.flatMap matCells)) (k : Nat) (x : Mat) (hx : l[k]? = some x) :
  ∃ b off, A = some ⟨b, off, none⟩ ∧ (∃ z, P b z) ∧ w.cell? ⟨b, off + k * 3, none⟩ = some (.string x.1) ∧ w.cell? ⟨b, off + k * 3 + 1, none⟩ = some (.int .i64 x.2.1) ∧ w.cell? ⟨b, off + k * 3 + 2, none⟩ = some (.string x.2.2) := by
 obtain ⟨b, off, h1, h2, h3, h4⟩ := h.mat k x hx
 refine ⟨b, off, h1, ?_, h2, h3, h4⟩
 have hk := (List.getElem?_eq_some_iff.1 hx).1
 obtain ⟨hl, A', c', hv, -, -, h5⟩ := h
 cases hv
 have hn : 0 < n := by
  rcases Nat.eq_zero_or_pos n with h0 | h0
  ·subst h0
   rw [flat_len matCells 3 (fun _ => rfl)] at hl
   omega
  ·exact h0
 obtain ⟨b', off', hA, -, hp, -⟩ := h5 hn
 rw [h1] at hA
 cases hA
 exact ⟨_, hp⟩
end
section
open Go.RowKit FracM
theorem PlW.fr {W W2 : World} {h B0 : Nat} {P : Nat → Nat → Prop} {vo : Value} {m : List Nd} (k : PlW W B0 P vo m) (f : FR h W.heap.size W W2) (hh : h < B0) (hP : ∀ q e, P q e → q ≠ h) : PlW W2 B0 P vo m := by
 obtain ⟨cs, h1, h2⟩ := k
 exact ⟨cs, own_fr2 h1 f hh, h2.keep ⟨f.size, fun q e o hp hq _ => World.cell?_of_block (a := ⟨q, o, none⟩) (f.block q hq (hP q e hp))⟩⟩
/-- the reader, the instructions so far -/
structure DcO (w W : World) (h b off c B0 : Nat) (L : List Nat) (p : Nat) (vo : Value) (m : List Nd) : Prop where
 below : Below w.heap.size w W
 rd : RD h b off c L W p
 out : PlW W B0 (fun q _ => B0 ≤ q ∧ vo.ownBlock ≠ some q) vo m
 hw : w.heap.size ≤ h
 hh : h < B0
 hb : b < B0
 hB : B0 ≤ W.heap.size
/-- and the instruction that is being read -/
structure DcX (w W : World) (h b off c B0 : Nat) (L : List Nat) (p : Nat) (vo : Value) (m : List Nd) (xb : Nat) (d : Nd) (mv bv : Value) : Prop where
 below : Below w.heap.size w W
 rd : RD h b off c L W p
 out : PlW W B0 (fun q _ => B0 ≤ q ∧ vo.ownBlock ≠ some q ∧ q < xb) vo m
 obk : ∀ g, vo.ownBlock = some g → g < xb
 x : Blk W xb 45 (insC d mv bv)
 hx : B0 ≤ xb
 hw : w.heap.size ≤ h
 hh : h < B0
 hb : b < B0
theorem fr_bel {w W W2 : World} {h : Nat} (k : Below w.heap.size w W) (f : FR h W.heap.size W W2) (hw : w.heap.size ≤ h) : Below w.heap.size w W2 :=
 k.trans ⟨f.os, f.tape, f.output, f.size, fun q hq => f.block q (by have := k.size; omega) (by omega)⟩
theorem DcO.read {w W W2 : World} {h b off c B0 : Nat} {L : List Nat} {p p2 : Nat} {vo : Value} {m : List Nd} (k : DcO w W h b off c B0 L p vo m) (hr : RD h b off c L W2 p2) (f : FR h W.heap.size W W2) : DcO w W2 h b off c B0 L p2 vo m :=
 ⟨fr_bel k.below f k.hw, hr, k.out.fr f k.hh fun q e hq => by have := k.hh; omega, k.hw, k.hh, k.hb, Nat.le_trans k.hB f.size⟩
theorem DcX.read {w W W2 : World} {h b off c B0 : Nat} {L : List Nat} {p p2 : Nat} {vo : Value} {m : List Nd} {xb : Nat} {d : Nd} {mv bv : Value} (k : DcX w W h b off c B0 L p vo m xb d mv bv) (hr : RD h b off c L W2 p2) (f : FR h W.heap.size W W2) : DcX w W2 h b off c B0 L p2 vo m xb d mv bv :=
 ⟨fr_bel k.below f k.hw, hr, k.out.fr f k.hh fun q e hq => by have := k.hh; omega, k.obk, (f.block xb k.x.lt (by have := k.hh; have := k.hx; omega)).trans k.x, k.hx, k.hw, k.hh, k.hb⟩
theorem DcO.new {w W W2 : World} {h b off c B0 : Nat} {L : List Nat} {p : Nat} {vo : Value} {m : List Nd} {d : Nd} {mv bv : Value} (k : DcO w W h b off c B0 L p vo m) (f : Below W.heap.size W W2) (hx : Blk W2 W.heap.size 45 (insC d mv bv)) : DcX w W2 h b off c B0 L p vo m W.heap.size d mv bv :=
 ⟨bthen k.below f (Nat.le_refl _), k.rd.below f, (k.out.mono (Q := fun q _ => B0 ≤ q ∧ vo.ownBlock ≠ some q ∧ q < W.heap.size) fun q e h1 h2 => ⟨h2.1, h2.2, h1⟩).keepX f (fun q e h => h.2.2) (fun g hg => (k.out.bk g hg).2), fun g hg => (k.out.bk g hg).2, hx, k.hB, k.hw, k.hh, k.hb⟩
theorem DcX.turn {w W W2 : World} {h b off c B0 : Nat} {L : List Nat} {p : Nat} {vo : Value} {m : List Nd} {xb : Nat} {d d' : Nd} {mv bv mv' bv' : Value} (k : DcX w W h b off c B0 L p vo m xb d mv bv) (f : Below xb W W2) (hx : Blk W2 xb 45 (insC d' mv' bv')) : DcX w W2 h b off c B0 L p vo m xb d' mv' bv' :=
 ⟨k.below.trans (f.mono (by have := k.hw; have := k.hh; have := k.hx; omega)), k.rd.lt_ f (by have := k.hh; have := k.hx; omega) (by have := k.hb; have := k.hx; omega), k.out.keepX f (fun q e h => h.2.2) k.obk, k.obk, hx, k.hx, k.hw, k.hh, k.hb⟩
theorem DcX.push {w W W9 : World} {h b off c B0 : Nat} {L : List Nat} {p : Nat} {vo : Value} {m : List Nd} {xb g9 cap9 : Nat} {d d' : Nd} {mv bv : Value} {cs : List Sl2} {o : Obj} (k : DcX w W h b off c B0 L p vo m xb d mv bv) (hrow : InsRows W (fun q _ => B0 ≤ q ∧ vo.ownBlock ≠ some q ∧ q < xb) m cs) (hI : InsAt W (fun q _ => xb < q) d' mv bv)
  (hown : W9.ownsRow B0 45 10 (.slice (some ⟨g9, 0, none⟩) (m.length + 1) cap9) (m.length + 1) ((m.zip cs).flatMap insL ++ insL (d', mv, bv)))
  (hgr : (W.alloc o).grownBy W9 vo.ownBlock) (hat : vo.ownBlock = some g9 ∨ g9 = W.heap.size + 1) : DcO w W9 h b off c B0 L p (.slice (some ⟨g9, 0, none⟩) (m.length + 1) cap9) (m ++ [d']) := by
 have hbk := k.out.bk
 have hs9 := hgr.size
 simp at hs9
 have hxl := k.x.lt
 have hx := k.hx
 have same : ∀ q, q < W.heap.size → vo.ownBlock ≠ some q → W9.heap[q]? = W.heap[q]? := fun q hq hn => by
  rw [hgr.block q (by simp; omega) (fun e => hn e.symm)]
  exact (bel1 W o).block q hq
 have B9 : Below B0 W W9 := ⟨hgr.os, hgr.tape, hgr.output, by omega, fun q hq => same q (by omega) (fun e => by have := (hbk q e).1; omega)⟩
 refine ⟨k.below.trans (B9.mono (by have := k.hw; have := k.hh; omega)), k.rd.lt_ B9 k.hh k.hb, ?_, k.hw, k.hh, k.hb, by omega⟩
 have hf : Agree (fun q _ => B0 ≤ q ∧ vo.ownBlock ≠ some q ∧ q < W.heap.size) W W9 := ⟨by omega, fun q e o' hp hq ho => World.cell?_of_block (a := ⟨q, o', none⟩) (same q hq hp.2.1)⟩
 have hr := hrow.mono (Q := fun q _ => B0 ≤ q ∧ vo.ownBlock ≠ some q ∧ q < W.heap.size) fun q e hq hp => ⟨hp.1, hp.2.1, hq⟩
 have hi := hI.mono (Q := fun q _ => B0 ≤ q ∧ vo.ownBlock ≠ some q ∧ q < W.heap.size) fun q e hq hp => ⟨by omega, fun e => by have := k.obk q e; omega, hq⟩
 refine (PlW.snoc hr hi hown hf).mono fun q e _ hp => ⟨hp.1, ?_⟩
 intro hc
 simp [Value.ownBlock] at hc
 subst hc
 rcases hat with hat | hat
 ·exact hp.2.1 hat
 ·have := hp.2.2; omega
theorem drop_app {L a r : List Nat} {p : Nat} (hd : L.drop p = a ++ r) : L.drop (p + a.length) = r := by
 rw [← List.drop_drop, hd]
 simp
end
end Go.Proofs.YtipafbppaaflcaaDoor
