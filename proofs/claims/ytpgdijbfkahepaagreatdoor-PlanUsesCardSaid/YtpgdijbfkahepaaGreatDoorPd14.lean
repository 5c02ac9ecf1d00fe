/- Contracts, packed: Qo. -/
import Derived.Test.YtpgdijbfkahepaaGreatDoorPd11
import Derived.Test.YtpgdijbfkahepaaGreatDoorPd13
import Derived.Deep.RegionHeld3
set_option linter.unusedVariables false
set_option linter.unusedSimpArgs false
namespace Go.Proofs.YtpgdijbfkahepaaGreatDoor
section
open Go.RowKit FracM
abbrev zNd : Nd := ⟨0, 0, 0, 0, 0, 0, 0, ⟨#[]⟩, [], []⟩
abbrev nilV : Value := .slice none 0 0
abbrev zeroC : Array Value := ndC zNd nilV nilV nilV
/-- the frame of a function that makes a node: the result's block, the node's block, the generator -/
structure Sel (g o : Nat) (w W : World) (i : Int) (lv nv : Value) (l : List Int) (ns : List ByteArray) (most : Int) (d : Nd) (mv bv kv : Value) : Prop where
 only : Only g w W
 R : Blk W w.heap.size 35 zeroC
 blk : Blk W o 35 (ndC d mv bv kv)
 new : w.heap.size < o
 gen : GenAt W g i lv nv l ns most
theorem Sel.next {g o : Nat} {w W W' : World} {i i' : Int} {lv nv : Value} {l : List Int} {ns : List ByteArray} {most : Int} {d : Nd} {mv bv kv : Value} (h : Sel g o w W i lv nv l ns most d mv bv kv) (hg : g < w.heap.size) (k : Only g W W') (hgen : GenAt W' g i' lv nv l ns most) : Sel g o w W' i' lv nv l ns most d mv bv kv :=
 ⟨h.only.trans k, k.blk h.R (by omega), k.blk h.blk (by have := h.new; omega), h.new, hgen⟩
theorem Sel.set {g o : Nat} {w W : World} {i : Int} {lv nv : Value} {l : List Int} {ns : List ByteArray} {most : Int} {d d' : Nd} {mv bv kv mv' bv' kv' : Value} (h : Sel g o w W i lv nv l ns most d mv bv kv) (hg : g < w.heap.size) (f : Nat) (v : Value) (hd : (ndC d mv bv kv).setIfInBounds f v = ndC d' mv' bv' kv') : Sel g o w (W.setCell ⟨o, f, none⟩ v) i lv nv l ns most d' mv' bv' kv' := by
 have hn := h.new
 refine ⟨h.only.newCell (by simp only; omega) v, h.R.far (by simp only; omega) v, ?_, hn, h.gen.above ((Below.refl _ _).setCell (by simp only; omega) v)⟩
 rw [← hd]
 exact h.blk.set f v
theorem Sel.c {g o : Nat} {w W : World} {i : Int} {lv nv : Value} {l : List Int} {ns : List ByteArray} {most : Int} {d : Nd} {mv bv kv : Value} (h : Sel g o w W i lv nv l ns most d mv bv kv) : At11 W o 0 d mv bv kv := blk11 h.blk
/-- eleven cells of block o are written -/
abbrev put11 (W : World) (o : Nat) (u0 u1 u2 u3 u4 u5 u6 u7 u8 u9 u10 : Value) : World := (((((((((((W.setCell ⟨o, 0, none⟩ u0).setCell ⟨o, 1, none⟩ u1).setCell ⟨o, 2, none⟩ u2).setCell ⟨o, 3, none⟩ u3).setCell ⟨o, 4, none⟩ u4).setCell ⟨o, 5, none⟩ u5).setCell ⟨o, 6, none⟩ u6).setCell ⟨o, 7, none⟩ u7).setCell ⟨o, 8, none⟩ u8).setCell ⟨o, 9, none⟩ u9).setCell ⟨o, 10, none⟩ u10)
theorem put11_blk {W : World} {o : Nat} {t : TypeId} {a0 a1 a2 a3 a4 a5 a6 a7 a8 a9 a10 u0 u1 u2 u3 u4 u5 u6 u7 u8 u9 u10 : Value} (h : Blk W o t #[a0, a1, a2, a3, a4, a5, a6, a7, a8, a9, a10]) : Blk (put11 W o u0 u1 u2 u3 u4 u5 u6 u7 u8 u9 u10) o t #[u0, u1, u2, u3, u4, u5, u6, u7, u8, u9, u10] := by
 have h0 : Blk (W.setCell ⟨o, 0, none⟩ u0) o t #[u0, a1, a2, a3, a4, a5, a6, a7, a8, a9, a10] := by simpa using h.set 0 u0
 have h1 : Blk ((W.setCell ⟨o, 0, none⟩ u0).setCell ⟨o, 1, none⟩ u1) o t #[u0, u1, a2, a3, a4, a5, a6, a7, a8, a9, a10] := by simpa using h0.set 1 u1
 have h2 : Blk (((W.setCell ⟨o, 0, none⟩ u0).setCell ⟨o, 1, none⟩ u1).setCell ⟨o, 2, none⟩ u2) o t #[u0, u1, u2, a3, a4, a5, a6, a7, a8, a9, a10] := by simpa using h1.set 2 u2
 have h3 : Blk ((((W.setCell ⟨o, 0, none⟩ u0).setCell ⟨o, 1, none⟩ u1).setCell ⟨o, 2, none⟩ u2).setCell ⟨o, 3, none⟩ u3) o t #[u0, u1, u2, u3, a4, a5, a6, a7, a8, a9, a10] := by simpa using h2.set 3 u3
 have h4 : Blk (((((W.setCell ⟨o, 0, none⟩ u0).setCell ⟨o, 1, none⟩ u1).setCell ⟨o, 2, none⟩ u2).setCell ⟨o, 3, none⟩ u3).setCell ⟨o, 4, none⟩ u4) o t #[u0, u1, u2, u3, u4, a5, a6, a7, a8, a9, a10] := by simpa using h3.set 4 u4
 have h5 : Blk ((((((W.setCell ⟨o, 0, none⟩ u0).setCell ⟨o, 1, none⟩ u1).setCell ⟨o, 2, none⟩ u2).setCell ⟨o, 3, none⟩ u3).setCell ⟨o, 4, none⟩ u4).setCell ⟨o, 5, none⟩ u5) o t #[u0, u1, u2, u3, u4, u5, a6, a7, a8, a9, a10] := by simpa using h4.set 5 u5
 have h6 : Blk (((((((W.setCell ⟨o, 0, none⟩ u0).setCell ⟨o, 1, none⟩ u1).setCell ⟨o, 2, none⟩ u2).setCell ⟨o, 3, none⟩ u3).setCell ⟨o, 4, none⟩ u4).setCell ⟨o, 5, none⟩ u5).setCell ⟨o, 6, none⟩ u6) o t #[u0, u1, u2, u3, u4, u5, u6, a7, a8, a9, a10] := by simpa using h5.set 6 u6
 have h7 : Blk ((((((((W.setCell ⟨o, 0, none⟩ u0).setCell ⟨o, 1, none⟩ u1).setCell ⟨o, 2, none⟩ u2).setCell ⟨o, 3, none⟩ u3).setCell ⟨o, 4, none⟩ u4).setCell ⟨o, 5, none⟩ u5).setCell ⟨o, 6, none⟩ u6).setCell ⟨o, 7, none⟩ u7) o t #[u0, u1, u2, u3, u4, u5, u6, u7, a8, a9, a10] := by simpa using h6.set 7 u7
 have h8 : Blk (((((((((W.setCell ⟨o, 0, none⟩ u0).setCell ⟨o, 1, none⟩ u1).setCell ⟨o, 2, none⟩ u2).setCell ⟨o, 3, none⟩ u3).setCell ⟨o, 4, none⟩ u4).setCell ⟨o, 5, none⟩ u5).setCell ⟨o, 6, none⟩ u6).setCell ⟨o, 7, none⟩ u7).setCell ⟨o, 8, none⟩ u8) o t #[u0, u1, u2, u3, u4, u5, u6, u7, u8, a9, a10] := by simpa using h7.set 8 u8
 have h9 : Blk ((((((((((W.setCell ⟨o, 0, none⟩ u0).setCell ⟨o, 1, none⟩ u1).setCell ⟨o, 2, none⟩ u2).setCell ⟨o, 3, none⟩ u3).setCell ⟨o, 4, none⟩ u4).setCell ⟨o, 5, none⟩ u5).setCell ⟨o, 6, none⟩ u6).setCell ⟨o, 7, none⟩ u7).setCell ⟨o, 8, none⟩ u8).setCell ⟨o, 9, none⟩ u9) o t #[u0, u1, u2, u3, u4, u5, u6, u7, u8, u9, a10] := by simpa using h8.set 9 u9
 have h10 : Blk (((((((((((W.setCell ⟨o, 0, none⟩ u0).setCell ⟨o, 1, none⟩ u1).setCell ⟨o, 2, none⟩ u2).setCell ⟨o, 3, none⟩ u3).setCell ⟨o, 4, none⟩ u4).setCell ⟨o, 5, none⟩ u5).setCell ⟨o, 6, none⟩ u6).setCell ⟨o, 7, none⟩ u7).setCell ⟨o, 8, none⟩ u8).setCell ⟨o, 9, none⟩ u9).setCell ⟨o, 10, none⟩ u10) o t #[u0, u1, u2, u3, u4, u5, u6, u7, u8, u9, u10] := by simpa using h9.set 10 u10
 exact h10
theorem put11_below {W : World} {B o : Nat} (h : B ≤ o) (u0 u1 u2 u3 u4 u5 u6 u7 u8 u9 u10 : Value) : Below B W (put11 W o u0 u1 u2 u3 u4 u5 u6 u7 u8 u9 u10) :=
 ((((((((((((Below.refl B W).setCell (p := ⟨o, 0, none⟩) h u0).setCell (p := ⟨o, 1, none⟩) h u1).setCell (p := ⟨o, 2, none⟩) h u2).setCell (p := ⟨o, 3, none⟩) h u3).setCell (p := ⟨o, 4, none⟩) h u4).setCell (p := ⟨o, 5, none⟩) h u5).setCell (p := ⟨o, 6, none⟩) h u6).setCell (p := ⟨o, 7, none⟩) h u7).setCell (p := ⟨o, 8, none⟩) h u8).setCell (p := ⟨o, 9, none⟩) h u9).setCell (p := ⟨o, 10, none⟩) h u10)
theorem put11_only {W : World} {o : Nat} (u0 u1 u2 u3 u4 u5 u6 u7 u8 u9 u10 : Value) : Only o W (put11 W o u0 u1 u2 u3 u4 u5 u6 u7 u8 u9 u10) :=
 (((((((((((Only.setCell 0 u0).trans (Only.setCell 1 u1)).trans (Only.setCell 2 u2)).trans (Only.setCell 3 u3)).trans (Only.setCell 4 u4)).trans (Only.setCell 5 u5)).trans (Only.setCell 6 u6)).trans (Only.setCell 7 u7)).trans (Only.setCell 8 u8)).trans (Only.setCell 9 u9)).trans (Only.setCell 10 u10))
theorem Only.low_then {g : Nat} {w W W' : World} (h : Only g w W) (f : Below w.heap.size W W') : Only g w W' :=
 ⟨f.os.trans h.os, f.tape.trans h.tape, f.output.trans h.output, Nat.le_trans h.size f.size, fun k hk hn => (f.block k hk).trans (h.block k hk hn)⟩
theorem Sel.fill {g o : Nat} {w W : World} {i : Int} {lv nv : Value} {l : List Int} {ns : List ByteArray} {most : Int} {d d' : Nd} {mv bv kv mv' bv' kv' : Value} (h : Sel g o w W i lv nv l ns most d mv bv kv) (hg : g < w.heap.size) : Sel g o w (put11 W o (.int .i64 d'.kind) (.int .i64 d'.fn) (.int .i64 d'.win) (.int .i64 d'.off) (.int .i64 d'.k) (.int .i64 d'.num) (.int .i64 d'.den) (.string d'.name) mv' bv' kv') i lv nv l ns most d' mv' bv' kv' := by
 have hn := h.new
 exact ⟨h.only.low_then (put11_below (by omega) ..), ((put11_below (B := w.heap.size + 1) (by omega) ..).block _ (by omega)).trans h.R, put11_blk h.blk, hn, h.gen.above (put11_below (by omega) ..)⟩
theorem only_at {g b k : Nat} {W w1 : World} {v : Value} (h : Only g W w1) (hb : b < g) (hg : b < W.heap.size) (hx : W.cell? ⟨b, k, none⟩ = some v) : w1.cell? ⟨b, k, none⟩ = some v :=
 (World.cell?_of_block (a := ⟨b, k, none⟩) (h.block b hg (by omega))).trans hx
theorem SeqP.at1b {w : World} {P : Nat → Nat → Prop} {A : Option Addr} {n c m : Nat} {xs : List Value} (h : SeqP w P 1 (.slice A n c) m xs) (k : Nat) (u : Value) (hk : xs[k]? = some u) : ∃ b off, A = some ⟨b, off, none⟩ ∧ b < w.heap.size ∧ (∃ z, P b z) ∧ w.cell? ⟨b, off + k, none⟩ = some u := by
 obtain ⟨h1, A', c', hv, _, _, h2⟩ := h
 cases hv
 have hlt : k < xs.length := (List.getElem?_eq_some_iff.1 hk).1
 obtain ⟨b, off, rfl, hf, hp, hx⟩ := h2 (by omega)
 exact ⟨b, off, rfl, hf, ⟨_, hp⟩, hx k u hk⟩
theorem cell_drew {w : World} {b k : Nat} {v : Value} (h : w.cell? ⟨b, k, none⟩ = some v) : w.drew.cell? ⟨b, k, none⟩ = some v := h
theorem cell_lt {w : World} {b k : Nat} {v : Value} (h : w.cell? ⟨b, k, none⟩ = some v) : b < w.heap.size := World.block_lt_of_cell? w ⟨b, k, none⟩ h
/-- the frame before the node's block is there -/
structure Pre (g : Nat) (w W : World) : Prop where
 only : Only g w W
 R : Blk W w.heap.size 35 zeroC
theorem Pre.next {g : Nat} {w W W' : World} (h : Pre g w W) (hg : g < w.heap.size) (k : Only g W W') : Pre g w W' := ⟨h.only.trans k, k.blk h.R (by omega)⟩
theorem Pre.alloc {g : Nat} {w W : World} (h : Pre g w W) (o : Obj) : Pre g w (W.alloc o) := ⟨h.only.trans (Only.of_below (bel1 W o)), h.R.alloc o⟩
theorem Pre.drew {g : Nat} {w W : World} (h : Pre g w W) : Pre g w W.drew := ⟨⟨h.only.os, h.only.tape, h.only.output, h.only.size, h.only.block⟩, h.R⟩
theorem Pre.sel {g o : Nat} {w W : World} {i : Int} {lv nv : Value} {l : List Int} {ns : List ByteArray} {most : Int} {d : Nd} {mv bv kv : Value} (h : Pre g w W) (hb : Blk W o 35 (ndC d mv bv kv)) (ho : w.heap.size < o) (hg : GenAt W g i lv nv l ns most) : Sel g o w W i lv nv l ns most d mv bv kv :=
 ⟨h.only, h.R, hb, ho, hg⟩
theorem cell_put11 {w : World} {b k o : Nat} {v u0 u1 u2 u3 u4 u5 u6 u7 u8 u9 u10 : Value} (h : w.cell? ⟨b, k, none⟩ = some v) (hn : b ≠ o) : (put11 w o u0 u1 u2 u3 u4 u5 u6 u7 u8 u9 u10).cell? ⟨b, k, none⟩ = some v := by
 rw [← h]
 exact World.cell?_of_block (a := ⟨b, k, none⟩) (by
  repeat rw [Below.heap_setCell _ _ _ _ (by exact hn)])
theorem Blk.drew {w : World} {g : Nat} {t : TypeId} {cs : Array Value} (h : Blk w g t cs) : Blk w.drew g t cs := h
theorem only_at' {g b k : Nat} {W w1 : World} {v : Value} (h : Only g W w1) (hb : b < g) (hx : W.cell? ⟨b, k, none⟩ = some v) : w1.cell? ⟨b, k, none⟩ = some v := only_at h hb (cell_lt hx) hx
theorem cell_alloc' {w : World} {b k : Nat} {v : Value} (o : Obj) (h : w.cell? ⟨b, k, none⟩ = some v) : (w.alloc o).cell? ⟨b, k, none⟩ = some v := bat (bel1 w o) (cell_lt h) h
theorem cell_allocd' {w : World} {b k : Nat} {v : Value} (o : Obj) (h : w.cell? ⟨b, k, none⟩ = some v) : (w.alloc o).drew.cell? ⟨b, k, none⟩ = some v := cell_alloc' o h
/-- below o (and at g) nothing else turns -/
theorem Sel.from_ {g o B : Nat} {w W W' : World} {i : Int} {lv nv : Value} {l : List Int} {ns : List ByteArray} {most : Int} {d : Nd} {mv bv kv : Value} (h : Sel g o w W i lv nv l ns most d mv bv kv) (hg : g < w.heap.size) (hB : o < B) (f : Below B W W') : Sel g o w W' i lv nv l ns most d mv bv kv := by
 have hn := h.new
 exact ⟨⟨f.os.trans h.only.os, f.tape.trans h.only.tape, f.output.trans h.only.output, Nat.le_trans h.only.size f.size, fun k hk hne => (f.block k (by omega)).trans (h.only.block k hk hne)⟩, (f.block _ (by omega)).trans h.R, (f.block _ hB).trans h.blk, hn, h.gen.above (f.mono (by omega))⟩
theorem Sel.below {g o : Nat} {w W W' : World} {i : Int} {lv nv : Value} {l : List Int} {ns : List ByteArray} {most : Int} {d : Nd} {mv bv kv : Value} (h : Sel g o w W i lv nv l ns most d mv bv kv) (hg : g < w.heap.size) (f : Below W.heap.size W W') : Sel g o w W' i lv nv l ns most d mv bv kv := h.from_ hg h.blk.lt f
theorem grow_lt {w w' : World} {B t size n : Nat} {v : Value} {xs : List Value} (h : w.ownsRow B t size v n xs) (hg : w.grownBy w' v.ownBlock) (hB : B ≤ w.heap.size) : Below B w w' :=
 (Below.refl B w).grown hg hB (fun g hk => by
  rcases h.2 with ⟨rfl, _⟩ | ⟨g', cap, cur, rfl, hb, _⟩
  ·simp [Value.ownBlock] at hk
  ·simp [Value.ownBlock] at hk; omega)
theorem own_only {w w' : World} {g B t size n : Nat} {v : Value} {xs : List Value} (h : w.ownsRow B t size v n xs) (f : Only g w w') (hg : g < B) : w'.ownsRow B t size v n xs :=
 h.kept (row := some g) ⟨f.os, f.tape, f.output, f.size, fun k hk hn => f.block k hk (fun e => hn (by rw [e]))⟩ (by
  rcases h.2 with ⟨rfl, _⟩ | ⟨g', cap, cur, rfl, hb, _⟩
  ·exact .inl rfl
  ·exact .inr (by simp [Value.ownBlock]; omega))
/-- an own row as the cells of a tree -/
theorem SeqP.of_own {w : World} {P : Nat → Nat → Prop} {B t size n : Nat} {v : Value} {xs : List Value} (h : w.ownsRow B t size v n xs) (hP : ∀ b c, B ≤ b → v = .slice (some ⟨b, 0, none⟩) n c → P b (0 + n * size)) : SeqP w P size v n xs := by
 refine SeqP.of_seq (Seq.of_own (base' := 0) h) (fun b off n' c hv => ?_)
 rcases h.2 with ⟨rfl, _⟩ | ⟨g', cap, cur, rfl, hb, _⟩
 ·cases hv
 ·cases hv; exact hP _ _ hb rfl
/-- blocks that P names are as they were -/
structure AgreeB (P : Nat → Nat → Prop) (w w' : World) : Prop where
 size : w.heap.size ≤ w'.heap.size
 block : ∀ b e, P b e → b < w.heap.size → w'.heap[b]? = w.heap[b]?
theorem AgreeB.of_below {P : Nat → Nat → Prop} {w w' : World} (h : Below w.heap.size w w') : AgreeB P w w' := ⟨h.size, fun b _ _ hb => h.block b hb⟩
theorem AgreeB.of_only {P : Nat → Nat → Prop} {g : Nat} {w w' : World} (h : Only g w w') (hP : ∀ b e, P b e → b ≠ g) : AgreeB P w w' := ⟨h.size, fun b e hp hb => h.block b hb (hP b e hp)⟩
/-- a row of its own, in a block that P names with the end of its cells -/
def OwnP (w : World) (P : Nat → Nat → Prop) (t size : Nat) (v : Value) (n : Nat) (xs : List Value) : Prop := w.ownsRow 0 t size v n xs ∧ ∀ g c, v = .slice (some ⟨g, 0, none⟩) n c → P g (0 + n * size)
theorem OwnP.seq {w : World} {P : Nat → Nat → Prop} {t size n : Nat} {v : Value} {xs : List Value} (h : OwnP w P t size v n xs) : SeqP w P size v n xs := SeqP.of_own h.1 fun b c _ hv => h.2 b c hv
theorem OwnP.of_own {w : World} {P : Nat → Nat → Prop} {B t size n : Nat} {v : Value} {xs : List Value} (h : w.ownsRow B t size v n xs) (hP : ∀ b c, B ≤ b → v = .slice (some ⟨b, 0, none⟩) n c → P b (0 + n * size)) : OwnP w P t size v n xs := by
 refine ⟨⟨h.1, ?_⟩, ?_⟩
 ·rcases h.2 with h2 | ⟨g, cap, cur, h1, h2, h3⟩
  ·exact .inl h2
  ·exact .inr ⟨g, cap, cur, h1, Nat.zero_le _, h3⟩
 ·intro g c hv
  rcases h.2 with ⟨h2, _⟩ | ⟨g', cap, cur, h1, h2, h3⟩
  ·rw [h2] at hv; cases hv
  ·rw [h1] at hv; cases hv; exact hP _ _ h2 h1
theorem OwnP.keep {w w' : World} {P : Nat → Nat → Prop} {t size n : Nat} {v : Value} {xs : List Value} (h : OwnP w P t size v n xs) (f : AgreeB P w w') : OwnP w' P t size v n xs := by
 refine ⟨⟨h.1.1, ?_⟩, h.2⟩
 rcases h.1.2 with h2 | ⟨g, cap, cur, h1, h2, h3, h4⟩
 ·exact .inl h2
 ·exact .inr ⟨g, cap, cur, h1, h2, (f.block g _ (h.2 g cap h1) (Array.getElem?_eq_some_iff.1 h3).1).trans h3, h4⟩
theorem OwnP.mono {w : World} {P Q : Nat → Nat → Prop} {t size n : Nat} {v : Value} {xs : List Value} (h : OwnP w P t size v n xs) (hq : ∀ b e, b < w.heap.size → P b e → Q b e) : OwnP w Q t size v n xs := by
 refine ⟨h.1, fun g c hv => ?_⟩
 rcases h.1.2 with ⟨h2, _⟩ | ⟨g', cap, cur, h1, h2, h3, h4⟩
 ·rw [h2] at hv; cases hv
 ·have hv' := hv; rw [h1] at hv'; cases hv'
  exact hq _ _ (Array.getElem?_eq_some_iff.1 h3).1 (h.2 _ _ hv)
theorem OwnP.nil (w : World) (P : Nat → Nat → Prop) (t size : Nat) : OwnP w P t size (.slice none 0 0) 0 [] := ⟨⟨by simp, .inl ⟨rfl, rfl⟩⟩, fun g c hv => by cases hv⟩
theorem OwnP.of_blk {w : World} {P : Nat → Nat → Prop} {g t size n : Nat} {cs : Array Value} (h : Blk w g t cs) (hs : cs.size = n * size) (hn : n ≤ 1000) (hP : P g (0 + n * size)) : OwnP w P t size (.slice (some ⟨g, 0, none⟩) n n) n cs.toList := by
 refine ⟨⟨by simpa using hs, .inr ⟨g, n, cs, rfl, Nat.zero_le _, h, Nat.le_refl _, by unfold maxLen; omega, hs, ?_⟩⟩, fun g' c hv => by cases hv; exact hP⟩
 rw [List.take_of_length_le (by simp [hs])]
/-- a tree whose slices are rows of their own -/
inductive TreeG (w : World) (P : Nat → Nat → Prop) : Tree → Sl → Prop
 | mk (d : Nd) (ks : List Tree) (mv bv kv : Value) (cs : List Sl) (hd : NdOk d)
   (hm : OwnP w P 75 3 mv d.ms.length (d.ms.flatMap matCells)) (hb : OwnP w P 9 1 bv d.bys.length (d.bys.map Value.string))
   (hl : cs.length = ks.length) (hk : OwnP w P 35 11 kv ks.length ((ks.zip cs).flatMap ndL))
   (hr : ∀ (i : Nat) (t : Tree) (c : Sl), ks[i]? = some t → cs[i]? = some c → TreeG w P t c) : TreeG w P (.node d ks) (mv, bv, kv)
theorem TreeG.tree {w : World} {P : Nat → Nat → Prop} {t : Tree} {s : Sl} (h : TreeG w P t s) : TreeAt w P t s := by
 induction h with
 | mk d ks mv bv kv cs hd hm hb hl hk hr ih => exact .mk d ks mv bv kv cs hd hm.seq hb.seq hl hk.seq ih
theorem TreeG.keep {w w' : World} {P : Nat → Nat → Prop} {t : Tree} {s : Sl} (h : TreeG w P t s) (f : AgreeB P w w') : TreeG w' P t s := by
 induction h with
 | mk d ks mv bv kv cs hd hm hb hl hk hr ih => exact .mk d ks mv bv kv cs hd (hm.keep f) (hb.keep f) hl (hk.keep f) ih
theorem TreeG.mono {w : World} {P Q : Nat → Nat → Prop} {t : Tree} {s : Sl} (h : TreeG w P t s) (hq : ∀ b e, b < w.heap.size → P b e → Q b e) : TreeG w Q t s := by
 induction h with
 | mk d ks mv bv kv cs hd hm hb hl hk hr ih => exact .mk d ks mv bv kv cs hd (hm.mono hq) (hb.mono hq) hl (hk.mono hq) ih
theorem TreeG.belo {w w' : World} {P : Nat → Nat → Prop} {t : Tree} {s : Sl} (h : TreeG w P t s) (f : Below w.heap.size w w') : TreeG w' P t s := h.keep (AgreeB.of_below f)
/-- a tree in blocks from B on; each block is used up to one end -/
def TreeF (w : World) (B : Nat) (t : Tree) (s : Sl) : Prop := ∃ L : Nat → Nat, TreeG w (fun b e => B ≤ b ∧ e = L b) t s
theorem TreeF.belo {w w' : World} {B : Nat} {t : Tree} {s : Sl} (h : TreeF w B t s) (f : Below w.heap.size w w') : TreeF w' B t s := by
 obtain ⟨L, h⟩ := h; exact ⟨L, h.belo f⟩
theorem TreeF.lower {w : World} {B B' : Nat} {t : Tree} {s : Sl} (h : TreeF w B t s) (hb : B' ≤ B) : TreeF w B' t s := by
 obtain ⟨L, h⟩ := h; exact ⟨L, h.mono fun b e _ hp => ⟨Nat.le_trans hb hp.1, hp.2⟩⟩
theorem TreeF.far {w w' : World} {B x : Nat} {t : Tree} {s : Sl} (h : TreeF w B t s) (f : Only x w w') (hx : x < B) : TreeF w' B t s := by
 obtain ⟨L, h⟩ := h; exact ⟨L, h.keep (AgreeB.of_only f fun b e hp => by have := hp.1; omega)⟩
/-- cells in a literal block -/
theorem SeqP.of_blk {w : World} {P : Nat → Nat → Prop} {g t size n : Nat} {cs : Array Value} (h : Blk w g t cs) (hs : cs.size = n * size) (hn : n ≤ 1000) (hP : P g (0 + n * size)) : SeqP w P size (.slice (some ⟨g, 0, none⟩) n n) n cs.toList := by
 have hl := h.lt
 refine ⟨by simpa using hs, _, _, rfl, Nat.le_refl _, by unfold maxLen; omega, fun _ => ⟨g, 0, rfl, hl, hP, fun j u hu => ?_⟩⟩
 unfold Blk at h
 simp [World.cell?, h]
 simpa using hu
/-- a node over one kid -/
theorem tree_one {w : World} {B B1 : Nat} {d : Nd} {t : Tree} {s : Sl} {L0 : Nat → Nat} {mv bv : Value} (hd : NdOk d) (hB : B ≤ B1) (hm : OwnP w (fun b e => B ≤ b ∧ b < B1 ∧ e = L0 b) 75 3 mv d.ms.length (d.ms.flatMap matCells)) (hb : OwnP w (fun b e => B ≤ b ∧ b < B1 ∧ e = L0 b) 9 1 bv d.bys.length (d.bys.map Value.string)) (ht : TreeF w B1 t s) (h1 : B1 ≤ w.heap.size) :
  TreeF (w.alloc (.cells (ndC t.d s.1 s.2.1 s.2.2) 35)) B (.node d [t]) (mv, bv, .slice (some ⟨w.heap.size, 0, none⟩) 1 1) := by
 obtain ⟨L1, ht⟩ := ht
 refine ⟨fun b => if b < B1 then L0 b else if b = w.heap.size then 11 else L1 b, ?_⟩
 have a1 := ((hm.mono (Q := fun b e => B ≤ b ∧ e = if b < B1 then L0 b else if b = w.heap.size then 11 else L1 b) fun b e _ hp => ⟨hp.1, by rw [if_pos hp.2.1]; exact hp.2.2⟩).keep (AgreeB.of_below (bel1 w (.cells (ndC t.d s.1 s.2.1 s.2.2) 35))))
 have a2 := ((hb.mono (Q := fun b e => B ≤ b ∧ e = if b < B1 then L0 b else if b = w.heap.size then 11 else L1 b) fun b e _ hp => ⟨hp.1, by rw [if_pos hp.2.1]; exact hp.2.2⟩).keep (AgreeB.of_below (bel1 w (.cells (ndC t.d s.1 s.2.1 s.2.2) 35))))
 have a3 := ((ht.mono (Q := fun b e => B ≤ b ∧ e = if b < B1 then L0 b else if b = w.heap.size then 11 else L1 b) fun b e hl hp => ⟨Nat.le_trans hB hp.1, by rw [if_neg (by have := hp.1; omega), if_neg (by omega)]; exact hp.2⟩).belo (bel1 w (.cells (ndC t.d s.1 s.2.1 s.2.2) 35)))
 have a4 := OwnP.of_blk (P := fun b e => B ≤ b ∧ e = if b < B1 then L0 b else if b = w.heap.size then 11 else L1 b) (size := 11) (n := 1) (Blk.new w (ndC t.d s.1 s.2.1 s.2.2) 35) rfl (by omega) ⟨by omega, by rw [if_neg (by omega), if_pos rfl]⟩
 refine .mk d [t] _ _ _ [s] hd a1 a2 rfl ?_ ?_
 ·simpa [ndL] using a4
 ·intro i t' c h1 h2
  match i, h1, h2 with
  | 0, h1, h2 => simp at h1 h2; subst h1 h2; exact a3
  | i + 1, h1, h2 => simp at h1
/-- a node over two kids -/
theorem tree_two {w : World} {B B1 : Nat} {d : Nd} {t u : Tree} {s r : Sl} (hd : NdOk d) (hms : d.ms = []) (hbs : d.bys = []) (hB : B ≤ B1) (hu : TreeF w B1 u r) (h1 : B1 ≤ w.heap.size) (hlt : ∃ L : Nat → Nat, TreeG w (fun b e => B ≤ b ∧ b < B1 ∧ e = L b) t s) :
  TreeF (w.alloc (.cells (ndC t.d s.1 s.2.1 s.2.2 ++ ndC u.d r.1 r.2.1 r.2.2) 35)) B (.node d [t, u]) (nilV, nilV, .slice (some ⟨w.heap.size, 0, none⟩) 2 2) := by
 obtain ⟨L0, ht⟩ := hlt
 obtain ⟨L1, hu⟩ := hu
 refine ⟨fun b => if b < B1 then L0 b else if b = w.heap.size then 22 else L1 b, ?_⟩
 have a1 := ((ht.mono (Q := fun b e => B ≤ b ∧ e = if b < B1 then L0 b else if b = w.heap.size then 22 else L1 b) fun b e _ hp => ⟨hp.1, by rw [if_pos hp.2.1]; exact hp.2.2⟩).belo (bel1 w (.cells (ndC t.d s.1 s.2.1 s.2.2 ++ ndC u.d r.1 r.2.1 r.2.2) 35)))
 have a3 := ((hu.mono (Q := fun b e => B ≤ b ∧ e = if b < B1 then L0 b else if b = w.heap.size then 22 else L1 b) fun b e hl hp => ⟨Nat.le_trans hB hp.1, by rw [if_neg (by have := hp.1; omega), if_neg (by omega)]; exact hp.2⟩).belo (bel1 w (.cells (ndC t.d s.1 s.2.1 s.2.2 ++ ndC u.d r.1 r.2.1 r.2.2) 35)))
 have a4 := OwnP.of_blk (P := fun b e => B ≤ b ∧ e = if b < B1 then L0 b else if b = w.heap.size then 22 else L1 b) (size := 11) (n := 2) (Blk.new w (ndC t.d s.1 s.2.1 s.2.2 ++ ndC u.d r.1 r.2.1 r.2.2) 35) rfl (by omega) ⟨by omega, by rw [if_neg (by omega), if_pos rfl]⟩
 refine .mk d [t, u] _ _ _ [s, r] hd (by rw [hms]; exact OwnP.nil _ _ _ _) (by rw [hbs]; exact OwnP.nil _ _ _ _) rfl ?_ ?_
 ·simpa [ndL] using a4
 ·intro i t' c h1 h2
  match i, h1, h2 with
  | 0, h1, h2 => simp at h1 h2; subst h1 h2; exact a1
  | 1, h1, h2 => simp at h1 h2; subst h1 h2; exact a3
  | i + 2, h1, h2 => simp at h1
/-- an expression is returned -/
def RetTree (g : Nat) (lv nv : Value) (l : List Int) (ns : List ByteArray) (most i D : Int) (N K : Nat) (w : World) (e : Ending) (w' : World) : Prop :=
 ∃ (t : Tree) (s : Sl) (i' : Int), e = .returned (.agg (ndC t.d s.1 s.2.1 s.2.2)) ∧ TreeF w' w.heap.size t s ∧ GoodT ns most t ∧ (dep t : Int) ≤ D ∧ nds t ≤ N ∧ i ≤ i' ∧ i' ≤ i + K ∧ GenAt w' g i' lv nv l ns most ∧ Only g w w'
theorem intInfo : (Tryz.prog.info? 3).map (fun i => (i.zero, i.size, i.bytes)) = some (some (.int .i64 0), 1, 8) := by kernel_rfl
theorem selN_ok {ns : List ByteArray} {most : Int} {d : Nd} {n : Nat} (h : GoodN ns most d n) (hn : NamesOk ns) (hm : most ≤ 4096) : NdOk d := by
 obtain ⟨h1, h2, h3, h4⟩ := good_ok1 h hn hm
 have hnm : d.name.size ≤ maxLen := by
  cases h with
  | sel fn win off k nm ms a b c => have := (hn nm c).2.2; simp only; unfold maxLen; omega
  | num => exact Nat.zero_le _
  | grp => exact Nat.zero_le _
  | bin => exact Nat.zero_le _
 refine ⟨?_, hnm, h3, h4⟩
 unfold I64
 cases h with
 | num x hx => simp [numsL] at hx; simp only; omega
 | sel => simp only; omega
 | grp => simp only; omega
 | bin => simp only; omega
end
end Go.Proofs.YtpgdijbfkahepaaGreatDoor
