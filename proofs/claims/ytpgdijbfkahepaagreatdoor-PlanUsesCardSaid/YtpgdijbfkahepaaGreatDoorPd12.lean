/- Contracts, packed: Qb. -/
import Derived.Test.YtpgdijbfkahepaaGreatDoorPd6
import Derived.Test.YtpgdijbfkahepaaGreatDoorPd10
import Derived.Test.YtpgdijbfkahepaaGreatDoorPd11
set_option linter.unusedVariables false
set_option linter.unusedSimpArgs false
namespace Go.Proofs.YtpgdijbfkahepaaGreatDoor
section
open Go.RowKit FracM
/-- of the old cells those below an end in P are as they were -/
structure Agree (P : Nat → Nat → Prop) (w w' : World) : Prop where
 size : w.heap.size ≤ w'.heap.size
 cell : ∀ b e o, P b e → b < w.heap.size → o < e → w'.cell? ⟨b, o, none⟩ = w.cell? ⟨b, o, none⟩
theorem Agree.of_below {P : Nat → Nat → Prop} {w w' : World} (h : Below w.heap.size w w') : Agree P w w' := ⟨h.size, fun b _ o _ hb _ => World.cell?_of_block (a := ⟨b, o, none⟩) (h.block b hb)⟩
theorem Agree.of_only {P : Nat → Nat → Prop} {g : Nat} {w w' : World} (h : Only g w w') (hP : ∀ b e, P b e → b ≠ g) : Agree P w w' := ⟨h.size, fun b e o hp hb _ => World.cell?_of_block (a := ⟨b, o, none⟩) (h.block b hb (hP b e hp))⟩
theorem Agree.of_lt {P : Nat → Nat → Prop} {B : Nat} {w w' : World} (h : Below B w w') (hP : ∀ b e, P b e → b < B) : Agree P w w' := ⟨h.size, fun b e o hp hb _ => World.cell?_of_block (a := ⟨b, o, none⟩) (h.block b (hP b e hp))⟩
/-- the slice v has n elements of 'size' cells, the cells xs, in a block that P names with the end of these cells -/
def SeqP (w : World) (P : Nat → Nat → Prop) (size : Nat) (v : Value) (n : Nat) (xs : List Value) : Prop :=
 xs.length = n * size ∧ ∃ A c, v = .slice A n c ∧ n ≤ c ∧ c ≤ maxLen ∧
  (0 < n → ∃ b off, A = some ⟨b, off, none⟩ ∧ b < w.heap.size ∧ P b (off + n * size) ∧ ∀ j u, xs[j]? = some u → w.cell? ⟨b, off + j, none⟩ = some u)
theorem SeqP.keep {w w' : World} {P : Nat → Nat → Prop} {size n : Nat} {v : Value} {xs : List Value} (h : SeqP w P size v n xs) (f : Agree P w w') : SeqP w' P size v n xs := by
 obtain ⟨h1, A, c, hv, hn, hc, h2⟩ := h
 refine ⟨h1, A, c, hv, hn, hc, fun h0 => ?_⟩
 obtain ⟨b, off, hA, hb, hp, hx⟩ := h2 h0
 refine ⟨b, off, hA, Nat.lt_of_lt_of_le hb f.size, hp, fun j u hu => (f.cell b _ (off + j) hp hb ?_).trans (hx j u hu)⟩
 have := (List.getElem?_eq_some_iff.1 hu).1
 omega
theorem SeqP.mono {w : World} {P Q : Nat → Nat → Prop} {size n : Nat} {v : Value} {xs : List Value} (h : SeqP w P size v n xs) (hq : ∀ b e, b < w.heap.size → P b e → Q b e) : SeqP w Q size v n xs := by
 obtain ⟨h1, A, c, hv, hn, hc, h2⟩ := h
 refine ⟨h1, A, c, hv, hn, hc, fun h0 => ?_⟩
 obtain ⟨b, off, hA, hb, hp, hx⟩ := h2 h0
 exact ⟨b, off, hA, hb, hq b _ hb hp, hx⟩
theorem SeqP.seq {w : World} {P : Nat → Nat → Prop} {t size n : Nat} {v : Value} {xs : List Value} (h : SeqP w P size v n xs) : Seq w w.heap.size t size v n xs := by
 obtain ⟨h1, A, c, hv, hn, hc, h2⟩ := h
 refine ⟨h1, A, c, hv, hn, hc, fun h0 => ?_⟩
 obtain ⟨b, off, hA, hb, hp, hx⟩ := h2 h0
 exact ⟨b, off, hA, ⟨hb, .inl hb⟩, hx⟩
theorem SeqP.of_seq {w : World} {P : Nat → Nat → Prop} {base t size n : Nat} {v : Value} {xs : List Value} (h : Seq w base t size v n xs) (hq : ∀ b off n' c, v = .slice (some ⟨b, off, none⟩) n' c → P b (off + n' * size)) : SeqP w P size v n xs := by
 obtain ⟨h1, A, c, hv, hn, hc, h2⟩ := h
 refine ⟨h1, A, c, hv, hn, hc, fun h0 => ?_⟩
 obtain ⟨b, off, hA, hf, hx⟩ := h2 h0
 exact ⟨b, off, hA, hf.1, hq b off n c (by rw [hv, hA]), hx⟩
theorem SeqP.nil (w : World) (P : Nat → Nat → Prop) (size : Nat) : SeqP w P size (.slice none 0 0) 0 [] :=
 ⟨by simp, none, 0, rfl, Nat.le_refl _, by unfold maxLen; omega, fun h => absurd h (by omega)⟩
theorem SeqP.form {w : World} {P : Nat → Nat → Prop} {size n : Nat} {v : Value} {xs : List Value} (h : SeqP w P size v n xs) : ∃ A c, v = .slice A n c ∧ n ≤ 9223372036854775807 := by
 obtain ⟨_, A, c, hv, h1, h2, _⟩ := h
 unfold maxLen at h2
 exact ⟨A, c, hv, by omega⟩
abbrev ndC (d : Nd) (mv bv kv : Value) : Array Value := #[.int .i64 d.kind, .int .i64 d.fn, .int .i64 d.win, .int .i64 d.off, .int .i64 d.k, .int .i64 d.num, .int .i64 d.den, .string d.name, mv, bv, kv]
abbrev Sl := Value × Value × Value
def ndL (x : Tree × Sl) : List Value := (ndC x.1.d x.2.1 x.2.2.1 x.2.2.2).toList
/-- numbers and strings fit -/
structure NdOk (d : Nd) : Prop where
 ints : I64 d.kind ∧ I64 d.fn ∧ I64 d.win ∧ I64 d.off ∧ I64 d.k ∧ I64 d.num ∧ I64 d.den
 name : d.name.size ≤ maxLen
 ms : ∀ m ∈ d.ms, m.1.size ≤ maxLen ∧ m.2.2.size ≤ maxLen
 bys : ∀ s ∈ d.bys, s.size ≤ maxLen
inductive TreeAt (w : World) (P : Nat → Nat → Prop) : Tree → Sl → Prop
 | mk (d : Nd) (ks : List Tree) (mv bv kv : Value) (cs : List Sl) (hd : NdOk d)
   (hm : SeqP w P 3 mv d.ms.length (d.ms.flatMap matCells)) (hb : SeqP w P 1 bv d.bys.length (d.bys.map Value.string))
   (hl : cs.length = ks.length) (hk : SeqP w P 11 kv ks.length ((ks.zip cs).flatMap ndL))
   (hr : ∀ (i : Nat) (t : Tree) (c : Sl), ks[i]? = some t → cs[i]? = some c → TreeAt w P t c) : TreeAt w P (.node d ks) (mv, bv, kv)
theorem TreeAt.keep {w w' : World} {P : Nat → Nat → Prop} {t : Tree} {s : Sl} (h : TreeAt w P t s) (f : Agree P w w') : TreeAt w' P t s := by
 induction h with
 | mk d ks mv bv kv cs hd hm hb hl hk hr ih => exact .mk d ks mv bv kv cs hd (hm.keep f) (hb.keep f) hl (hk.keep f) ih
theorem TreeAt.mono {w : World} {P Q : Nat → Nat → Prop} {t : Tree} {s : Sl} (h : TreeAt w P t s) (hq : ∀ b e, b < w.heap.size → P b e → Q b e) : TreeAt w Q t s := by
 induction h with
 | mk d ks mv bv kv cs hd hm hb hl hk hr ih => exact .mk d ks mv bv kv cs hd (hm.mono hq) (hb.mono hq) hl (hk.mono hq) ih
theorem TreeAt.belo {w w' : World} {P : Nat → Nat → Prop} {t : Tree} {s : Sl} (h : TreeAt w P t s) (f : Below w.heap.size w w') : TreeAt w' P t s := h.keep (Agree.of_below f)
/-- a node in memory, opened -/
structure Nod (w : World) (P : Nat → Nat → Prop) (d : Nd) (ks : List Tree) (mv bv kv : Value) : Prop where
 ok : NdOk d
 ms : SeqP w P 3 mv d.ms.length (d.ms.flatMap matCells)
 bys : SeqP w P 1 bv d.bys.length (d.bys.map Value.string)
 kids : ∃ cs : List Sl, cs.length = ks.length ∧ SeqP w P 11 kv ks.length ((ks.zip cs).flatMap ndL) ∧ ∀ (i : Nat) (t : Tree) (c : Sl), ks[i]? = some t → cs[i]? = some c → TreeAt w P t c
theorem TreeAt.nod {w : World} {P : Nat → Nat → Prop} {d : Nd} {ks : List Tree} {mv bv kv : Value} (h : TreeAt w P (.node d ks) (mv, bv, kv)) : Nod w P d ks mv bv kv := by
 cases h with
 | mk _ _ _ _ _ cs hd hm hb hl hk hr => exact ⟨hd, hm, hb, cs, hl, hk, hr⟩
theorem Nod.tree {w : World} {P : Nat → Nat → Prop} {d : Nd} {ks : List Tree} {mv bv kv : Value} (h : Nod w P d ks mv bv kv) : TreeAt w P (.node d ks) (mv, bv, kv) := by
 obtain ⟨hd, hm, hb, cs, hl, hk, hr⟩ := h
 exact .mk d ks mv bv kv cs hd hm hb hl hk hr
theorem Nod.keep {w w' : World} {P : Nat → Nat → Prop} {d : Nd} {ks : List Tree} {mv bv kv : Value} (h : Nod w P d ks mv bv kv) (f : Agree P w w') : Nod w' P d ks mv bv kv := (h.tree.keep f).nod
theorem Nod.below {w w' : World} {P : Nat → Nat → Prop} {d : Nd} {ks : List Tree} {mv bv kv : Value} (h : Nod w P d ks mv bv kv) (f : Below w.heap.size w w') : Nod w' P d ks mv bv kv := (h.tree.belo f).nod
theorem Nod.kform {w : World} {P : Nat → Nat → Prop} {d : Nd} {ks : List Tree} {mv bv kv : Value} (h : Nod w P d ks mv bv kv) : ∃ A c, kv = .slice A ks.length c ∧ ks.length ≤ 9223372036854775807 := by
 obtain ⟨cs, _, hk, _⟩ := h.kids
 exact hk.form
/-- eleven cells -/
abbrev At11 (w : World) (b o : Nat) (d : Nd) (mv bv kv : Value) : Prop := w.cell? ⟨b, o, none⟩ = some (.int .i64 d.kind) ∧ w.cell? ⟨b, o + 1, none⟩ = some (.int .i64 d.fn) ∧ w.cell? ⟨b, o + 2, none⟩ = some (.int .i64 d.win) ∧ w.cell? ⟨b, o + 3, none⟩ = some (.int .i64 d.off) ∧ w.cell? ⟨b, o + 4, none⟩ = some (.int .i64 d.k) ∧ w.cell? ⟨b, o + 5, none⟩ = some (.int .i64 d.num) ∧ w.cell? ⟨b, o + 6, none⟩ = some (.int .i64 d.den) ∧ w.cell? ⟨b, o + 7, none⟩ = some (.string d.name) ∧ w.cell? ⟨b, o + 8, none⟩ = some mv ∧ w.cell? ⟨b, o + 9, none⟩ = some bv ∧ w.cell? ⟨b, o + 10, none⟩ = some kv
theorem Nod.kid {w : World} {P : Nat → Nat → Prop} {d : Nd} {ks : List Tree} {mv bv : Value} {A : Option Addr} {n c : Nat} (h : Nod w P d ks mv bv (.slice A n c)) (i : Nat) (e : Nd) (es : List Tree) (hi : ks[i]? = some (.node e es)) :
  ∃ b off mv' bv' kv', A = some ⟨b, off, none⟩ ∧ b < w.heap.size ∧ (∃ z, P b z) ∧ At11 w b (off + i * 11) e mv' bv' kv' ∧ TreeAt w P (.node e es) (mv', bv', kv') := by
 obtain ⟨cs, hl, hk, hr⟩ := h.kids
 have hlt : i < ks.length := (List.getElem?_eq_some_iff.1 hi).1
 obtain ⟨s, hs⟩ : ∃ s, cs[i]? = some s := ⟨cs[i]'(by omega), List.getElem?_eq_getElem _⟩
 obtain ⟨mv', bv', kv'⟩ := s
 obtain ⟨_, A', c', hv, _, _, h2⟩ := hk
 cases hv
 obtain ⟨b, off, rfl, hb, hp, hx⟩ := h2 (by omega)
 have hz : (ks.zip cs)[i]? = some (.node e es, mv', bv', kv') := by rw [List.getElem?_zip_eq_some]; exact ⟨hi, hs⟩
 refine ⟨b, off, mv', bv', kv', rfl, hb, ⟨_, hp⟩, ?_, hr i _ _ hi hs⟩
 have g := fun j (hj : j < 11) => flat_get ndL 11 (fun _ => rfl) (ks.zip cs) i j _ hz hj
 refine ⟨?_, ?_, ?_, ?_, ?_, ?_, ?_, ?_, ?_, ?_, ?_⟩
 ·exact hx _ _ ((g 0 (by omega)).trans rfl)
 ·rw [Nat.add_assoc]; exact hx _ _ ((g 1 (by omega)).trans rfl)
 ·rw [Nat.add_assoc]; exact hx _ _ ((g 2 (by omega)).trans rfl)
 ·rw [Nat.add_assoc]; exact hx _ _ ((g 3 (by omega)).trans rfl)
 ·rw [Nat.add_assoc]; exact hx _ _ ((g 4 (by omega)).trans rfl)
 ·rw [Nat.add_assoc]; exact hx _ _ ((g 5 (by omega)).trans rfl)
 ·rw [Nat.add_assoc]; exact hx _ _ ((g 6 (by omega)).trans rfl)
 ·rw [Nat.add_assoc]; exact hx _ _ ((g 7 (by omega)).trans rfl)
 ·rw [Nat.add_assoc]; exact hx _ _ ((g 8 (by omega)).trans rfl)
 ·rw [Nat.add_assoc]; exact hx _ _ ((g 9 (by omega)).trans rfl)
 ·rw [Nat.add_assoc]; exact hx _ _ ((g 10 (by omega)).trans rfl)
theorem blk11 {W : World} {g : Nat} {t : TypeId} {d : Nd} {mv bv kv : Value} (h : Blk W g t (ndC d mv bv kv)) : At11 W g 0 d mv bv kv := by
 unfold Blk at h
 refine ⟨?_, ?_, ?_, ?_, ?_, ?_, ?_, ?_, ?_, ?_, ?_⟩ <;> simp [World.cell?, h]
/-- what a function over a tree holds: the node's own copy (the first block it allots), the tree -/
structure N1 (w W : World) (P : Nat → Nat → Prop) (d : Nd) (ks : List Tree) (mv bv kv : Value) : Prop where
 below : Below w.heap.size w W
 blk : Blk W w.heap.size 35 (ndC d mv bv kv)
 nod : Nod W P d ks mv bv kv
theorem N1.next {w W W' : World} {P : Nat → Nat → Prop} {d : Nd} {ks : List Tree} {mv bv kv : Value} (h : N1 w W P d ks mv bv kv) (hb : Below W.heap.size W W') : N1 w W' P d ks mv bv kv :=
 ⟨bthen h.below hb (Nat.le_refl _), h.blk.below hb, h.nod.below hb⟩
theorem N1.start {w : World} {P : Nat → Nat → Prop} {d : Nd} {ks : List Tree} {mv bv kv : Value} (h : TreeAt w P (.node d ks) (mv, bv, kv)) : N1 w (w.alloc (.cells (ndC d mv bv kv) 35)) P d ks mv bv kv :=
 ⟨bel1 _ _, Blk.new _ _ _, (h.belo (bel1 _ _)).nod⟩
theorem N1.c {w W : World} {P : Nat → Nat → Prop} {d : Nd} {ks : List Tree} {mv bv kv : Value} (h : N1 w W P d ks mv bv kv) : At11 W w.heap.size 0 d mv bv kv := blk11 h.blk
end
end Go.Proofs.YtpgdijbfkahepaaGreatDoor
