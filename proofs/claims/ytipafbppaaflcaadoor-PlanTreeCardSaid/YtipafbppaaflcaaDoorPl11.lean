/- Contracts, packed: Yj Qb Kl Qn Yk Za. -/
import Derived.Test.YtipafbppaaflcaaDoorPl5
import Derived.Test.YtipafbppaaflcaaDoorPl8
import Derived.Test.YtipafbppaaflcaaDoorPl10
set_option linter.unusedVariables false
set_option linter.unusedSimpArgs false
namespace Go.Proofs.YtipafbppaaflcaaDoor
section
open Go.RowKit
end
section
open Go.RowKit FracM
/-- of the old cells those below an end in P are as they were -/
structure Agree (P : Nat → Nat → Prop) (w w' : World) : Prop where
 size : w.heap.size ≤ w'.heap.size
 cell : ∀ b e o, P b e → b < w.heap.size → o < e → w'.cell? ⟨b, o, none⟩ = w.cell? ⟨b, o, none⟩
theorem Agree.of_below {P : Nat → Nat → Prop} {w w' : World} (h : Below w.heap.size w w') : Agree P w w' := ⟨h.size, fun b _ o _ hb _ => World.cell?_of_block (a := ⟨b, o, none⟩) (h.block b hb)⟩
theorem Agree.of_only {P : Nat → Nat → Prop} {g : Nat} {w w' : World} (h : Only g w w') (hP : ∀ b e, P b e → b ≠ g) : Agree P w w' := ⟨h.size, fun b e o hp hb _ => World.cell?_of_block (a := ⟨b, o, none⟩) (h.block b hb (hP b e hp))⟩
theorem Agree.of_lt {P : Nat → Nat → Prop} {B : Nat} {w w' : World} (h : Below B w w') (hP : ∀ b e, P b e → b < B) : Agree P w w' := ⟨h.size, fun b e o hp hb _ => World.cell?_of_block (a := ⟨b, o, none⟩) (h.block b (hP b e hp))⟩
theorem Agree.trans {P : Nat → Nat → Prop} {a b c : World} (h : Agree P a b) (k : Agree P b c) : Agree P a c :=
 ⟨Nat.le_trans h.size k.size, fun i e o hp hi ho => (k.cell i e o hp (Nat.lt_of_lt_of_le hi h.size) ho).trans (h.cell i e o hp hi ho)⟩
/-- the slice v has n elements of 'size' cells, the cells xs, in a block that P names with the end of these cells -/
def SeqP (w : World) (P : Nat → Nat → Prop) (size : Nat) (v : Value) (n : Nat) (xs : List Value) : Prop :=
 xs.length = n * size ∧ ∃ A c, v = .slice A n c ∧ n ≤ c ∧ c ≤ maxLen ∧
  (0 < n → ∃ b off, A = some ⟨b, off, none⟩ ∧ b < w.heap.size ∧ P b (off + n * size) ∧ ∀ j u, xs[j]? = some u → w.cell? ⟨b, off + j, none⟩ = some u)
theorem SeqP.keep {w w' : World} {P : Nat → Nat → Prop} {size n : Nat} {v : Value} {xs : List Value} (h : SeqP w P size v n xs) (f : Agree P w w') : SeqP w' P size v n xs := by
 obtain ⟨h1, A, c, hv, hn, hc, h2⟩ := h
 refine ⟨h1, A, c, hv, hn, hc, fun h0 => ?_⟩
 obtain ⟨b, off, hA, hb, hp, hx⟩ := h2 h0
 refine ⟨b, off, hA, Nat.lt_of_lt_of_le hb f.size, hp, fun j u hu => (f.cell b _ (off + j) hp hb ?_).trans (hx j u hu)⟩
 have := (List.getElem?_eq_some_iff.1 hu).1
 omega
theorem SeqP.mono {w : World} {P Q : Nat → Nat → Prop} {size n : Nat} {v : Value} {xs : List Value} (h : SeqP w P size v n xs) (hq : ∀ b e, b < w.heap.size → P b e → Q b e) : SeqP w Q size v n xs := by
 obtain ⟨h1, A, c, hv, hn, hc, h2⟩ := h
 refine ⟨h1, A, c, hv, hn, hc, fun h0 => ?_⟩
 obtain ⟨b, off, hA, hb, hp, hx⟩ := h2 h0
 exact ⟨b, off, hA, hb, hq b _ hb hp, hx⟩
theorem SeqP.seq {w : World} {P : Nat → Nat → Prop} {t size n : Nat} {v : Value} {xs : List Value} (h : SeqP w P size v n xs) : Seq w w.heap.size t size v n xs := by
 obtain ⟨h1, A, c, hv, hn, hc, h2⟩ := h
 refine ⟨h1, A, c, hv, hn, hc, fun h0 => ?_⟩
 obtain ⟨b, off, hA, hb, hp, hx⟩ := h2 h0
 exact ⟨b, off, hA, ⟨hb, .inl hb⟩, hx⟩
theorem SeqP.of_seq {w : World} {P : Nat → Nat → Prop} {base t size n : Nat} {v : Value} {xs : List Value} (h : Seq w base t size v n xs) (hq : ∀ b off n' c, v = .slice (some ⟨b, off, none⟩) n' c → P b (off + n' * size)) : SeqP w P size v n xs := by
 obtain ⟨h1, A, c, hv, hn, hc, h2⟩ := h
 refine ⟨h1, A, c, hv, hn, hc, fun h0 => ?_⟩
 obtain ⟨b, off, hA, hf, hx⟩ := h2 h0
 exact ⟨b, off, hA, hf.1, hq b off n c (by rw [hv, hA]), hx⟩
theorem SeqP.nil (w : World) (P : Nat → Nat → Prop) (size : Nat) : SeqP w P size (.slice none 0 0) 0 [] :=
 ⟨by simp, none, 0, rfl, Nat.le_refl _, by unfold maxLen; omega, fun h => absurd h (by omega)⟩
theorem SeqP.form {w : World} {P : Nat → Nat → Prop} {size n : Nat} {v : Value} {xs : List Value} (h : SeqP w P size v n xs) : ∃ A c, v = .slice A n c ∧ n ≤ 9223372036854775807 := by
 obtain ⟨_, A, c, hv, h1, h2, _⟩ := h
 unfold maxLen at h2
 exact ⟨A, c, hv, by omega⟩
abbrev ndC (d : Nd) (mv bv kv : Value) : Array Value := #[.int .i64 d.kind, .int .i64 d.fn, .int .i64 d.win, .int .i64 d.off, .int .i64 d.k, .int .i64 d.num, .int .i64 d.den, .string d.name, mv, bv, kv]
abbrev Sl := Value × Value × Value
def ndL (x : Tree × Sl) : List Value := (ndC x.1.d x.2.1 x.2.2.1 x.2.2.2).toList
/-- numbers and strings fit -/
structure NdOk (d : Nd) : Prop where
 ints : I64 d.kind ∧ I64 d.fn ∧ I64 d.win ∧ I64 d.off ∧ I64 d.k ∧ I64 d.num ∧ I64 d.den
 name : d.name.size ≤ maxLen
 ms : ∀ m ∈ d.ms, m.1.size ≤ maxLen ∧ m.2.2.size ≤ maxLen
 bys : ∀ s ∈ d.bys, s.size ≤ maxLen
inductive TreeAt (w : World) (P : Nat → Nat → Prop) : Tree → Sl → Prop
 | mk (d : Nd) (ks : List Tree) (mv bv kv : Value) (cs : List Sl) (hd : NdOk d)
   (hm : SeqP w P 3 mv d.ms.length (d.ms.flatMap matCells)) (hb : SeqP w P 1 bv d.bys.length (d.bys.map Value.string))
   (hl : cs.length = ks.length) (hk : SeqP w P 11 kv ks.length ((ks.zip cs).flatMap ndL))
   (hr : ∀ (i : Nat) (t : Tree) (c : Sl), ks[i]? = some t → cs[i]? = some c → TreeAt w P t c) : TreeAt w P (.node d ks) (mv, bv, kv)
theorem TreeAt.keep {w w' : World} {P : Nat → Nat → Prop} {t : Tree} {s : Sl} (h : TreeAt w P t s) (f : Agree P w w') : TreeAt w' P t s := by
 induction h with
 | mk d ks mv bv kv cs hd hm hb hl hk hr ih => exact .mk d ks mv bv kv cs hd (hm.keep f) (hb.keep f) hl (hk.keep f) ih
theorem TreeAt.mono {w : World} {P Q : Nat → Nat → Prop} {t : Tree} {s : Sl} (h : TreeAt w P t s) (hq : ∀ b e, b < w.heap.size → P b e → Q b e) : TreeAt w Q t s := by
 induction h with
 | mk d ks mv bv kv cs hd hm hb hl hk hr ih => exact .mk d ks mv bv kv cs hd (hm.mono hq) (hb.mono hq) hl (hk.mono hq) ih
theorem TreeAt.belo {w w' : World} {P : Nat → Nat → Prop} {t : Tree} {s : Sl} (h : TreeAt w P t s) (f : Below w.heap.size w w') : TreeAt w' P t s := h.keep (Agree.of_below f)
/-- a node in memory, opened -/
structure Nod (w : World) (P : Nat → Nat → Prop) (d : Nd) (ks : List Tree) (mv bv kv : Value) : Prop where
 ok : NdOk d
 ms : SeqP w P 3 mv d.ms.length (d.ms.flatMap matCells)
 bys : SeqP w P 1 bv d.bys.length (d.bys.map Value.string)
 kids : ∃ cs : List Sl, cs.length = ks.length ∧ SeqP w P 11 kv ks.length ((ks.zip cs).flatMap ndL) ∧ ∀ (i : Nat) (t : Tree) (c : Sl), ks[i]? = some t → cs[i]? = some c → TreeAt w P t c
theorem TreeAt.nod {w : World} {P : Nat → Nat → Prop} {d : Nd} {ks : List Tree} {mv bv kv : Value} (h : TreeAt w P (.node d ks) (mv, bv, kv)) : Nod w P d ks mv bv kv := by
 cases h with
 | mk _ _ _ _ _ cs hd hm hb hl hk hr => exact ⟨hd, hm, hb, cs, hl, hk, hr⟩
theorem Nod.tree {w : World} {P : Nat → Nat → Prop} {d : Nd} {ks : List Tree} {mv bv kv : Value} (h : Nod w P d ks mv bv kv) : TreeAt w P (.node d ks) (mv, bv, kv) := by
 obtain ⟨hd, hm, hb, cs, hl, hk, hr⟩ := h
 exact .mk d ks mv bv kv cs hd hm hb hl hk hr
theorem Nod.keep {w w' : World} {P : Nat → Nat → Prop} {d : Nd} {ks : List Tree} {mv bv kv : Value} (h : Nod w P d ks mv bv kv) (f : Agree P w w') : Nod w' P d ks mv bv kv := (h.tree.keep f).nod
theorem Nod.below {w w' : World} {P : Nat → Nat → Prop} {d : Nd} {ks : List Tree} {mv bv kv : Value} (h : Nod w P d ks mv bv kv) (f : Below w.heap.size w w') : Nod w' P d ks mv bv kv := (h.tree.belo f).nod
theorem Nod.kform {w : World} {P : Nat → Nat → Prop} {d : Nd} {ks : List Tree} {mv bv kv : Value} (h : Nod w P d ks mv bv kv) : ∃ A c, kv = .slice A ks.length c ∧ ks.length ≤ 9223372036854775807 := by
 obtain ⟨cs, _, hk, _⟩ := h.kids
 exact hk.form
/-- eleven cells -/
abbrev At11 (w : World) (b o : Nat) (d : Nd) (mv bv kv : Value) : Prop := w.cell? ⟨b, o, none⟩ = some (.int .i64 d.kind) ∧ w.cell? ⟨b, o + 1, none⟩ = some (.int .i64 d.fn) ∧ w.cell? ⟨b, o + 2, none⟩ = some (.int .i64 d.win) ∧ w.cell? ⟨b, o + 3, none⟩ = some (.int .i64 d.off) ∧ w.cell? ⟨b, o + 4, none⟩ = some (.int .i64 d.k) ∧ w.cell? ⟨b, o + 5, none⟩ = some (.int .i64 d.num) ∧ w.cell? ⟨b, o + 6, none⟩ = some (.int .i64 d.den) ∧ w.cell? ⟨b, o + 7, none⟩ = some (.string d.name) ∧ w.cell? ⟨b, o + 8, none⟩ = some mv ∧ w.cell? ⟨b, o + 9, none⟩ = some bv ∧ w.cell? ⟨b, o + 10, none⟩ = some kv
theorem Nod.kid {w : World} {P : Nat → Nat → Prop} {d : Nd} {ks : List Tree} {mv bv : Value} {A : Option Addr} {n c : Nat} (h : Nod w P d ks mv bv (.slice A n c)) (i : Nat) (e : Nd) (es : List Tree) (hi : ks[i]? = some (.node e es)) :
  ∃ b off mv' bv' kv', A = some ⟨b, off, none⟩ ∧ b < w.heap.size ∧ (∃ z, P b z) ∧ At11 w b (off + i * 11) e mv' bv' kv' ∧ TreeAt w P (.node e es) (mv', bv', kv') := by
 obtain ⟨cs, hl, hk, hr⟩ := h.kids
 have hlt : i < ks.length := (List.getElem?_eq_some_iff.1 hi).1
 obtain ⟨s, hs⟩ : ∃ s, cs[i]? = some s := ⟨cs[i]'(by omega), List.getElem?_eq_getElem _⟩
 obtain ⟨mv', bv', kv'⟩ := s
 obtain ⟨_, A', c', hv, _, _, h2⟩ := hk
 cases hv
 obtain ⟨b, off, rfl, hb, hp, hx⟩ := h2 (by omega)
 have hz : (ks.zip cs)[i]? = some (.node e es, mv', bv', kv') := by rw [List.getElem?_zip_eq_some]; exact ⟨hi, hs⟩
 refine ⟨b, off, mv', bv', kv', rfl, hb, ⟨_, hp⟩, ?_, hr i _ _ hi hs⟩
 have g := fun j (hj : j < 11) => flat_get ndL 11 (fun _ => rfl) (ks.zip cs) i j _ hz hj
 refine ⟨?_, ?_, ?_, ?_, ?_, ?_, ?_, ?_, ?_, ?_, ?_⟩
 ·exact hx _ _ ((g 0 (by omega)).trans rfl)
 ·rw [Nat.add_assoc]; exact hx _ _ ((g 1 (by omega)).trans rfl)
 ·rw [Nat.add_assoc]; exact hx _ _ ((g 2 (by omega)).trans rfl)
 ·rw [Nat.add_assoc]; exact hx _ _ ((g 3 (by omega)).trans rfl)
 ·rw [Nat.add_assoc]; exact hx _ _ ((g 4 (by omega)).trans rfl)
 ·rw [Nat.add_assoc]; exact hx _ _ ((g 5 (by omega)).trans rfl)
 ·rw [Nat.add_assoc]; exact hx _ _ ((g 6 (by omega)).trans rfl)
 ·rw [Nat.add_assoc]; exact hx _ _ ((g 7 (by omega)).trans rfl)
 ·rw [Nat.add_assoc]; exact hx _ _ ((g 8 (by omega)).trans rfl)
 ·rw [Nat.add_assoc]; exact hx _ _ ((g 9 (by omega)).trans rfl)
 ·rw [Nat.add_assoc]; exact hx _ _ ((g 10 (by omega)).trans rfl)
theorem blk11 {W : World} {g : Nat} {t : TypeId} {d : Nd} {mv bv kv : Value} (h : Blk W g t (ndC d mv bv kv)) : At11 W g 0 d mv bv kv := by
 unfold Blk at h
 refine ⟨?_, ?_, ?_, ?_, ?_, ?_, ?_, ?_, ?_, ?_, ?_⟩ <;> simp [World.cell?, h]
/-- what a function over a tree holds: the node's own copy (the first block it allots), the tree -/
structure N1 (w W : World) (P : Nat → Nat → Prop) (d : Nd) (ks : List Tree) (mv bv kv : Value) : Prop where
 below : Below w.heap.size w W
 blk : Blk W w.heap.size 29 (ndC d mv bv kv)
 nod : Nod W P d ks mv bv kv
theorem N1.next {w W W' : World} {P : Nat → Nat → Prop} {d : Nd} {ks : List Tree} {mv bv kv : Value} (h : N1 w W P d ks mv bv kv) (hb : Below W.heap.size W W') : N1 w W' P d ks mv bv kv :=
 ⟨bthen h.below hb (Nat.le_refl _), h.blk.below hb, h.nod.below hb⟩
theorem N1.start {w : World} {P : Nat → Nat → Prop} {d : Nd} {ks : List Tree} {mv bv kv : Value} (h : TreeAt w P (.node d ks) (mv, bv, kv)) : N1 w (w.alloc (.cells (ndC d mv bv kv) 29)) P d ks mv bv kv :=
 ⟨bel1 _ _, Blk.new _ _ _, (h.belo (bel1 _ _)).nod⟩
theorem N1.c {w W : World} {P : Nat → Nat → Prop} {d : Nd} {ks : List Tree} {mv bv kv : Value} (h : N1 w W P d ks mv bv kv) : At11 W w.heap.size 0 d mv bv kv := blk11 h.blk
end
section
open Go.RowKit FracM
def tokL (t : Tok) : List Value := (tokC t).toList
/-- a token's numbers and text are small -/
structure TokOk (t : Tok) : Prop where
 k : I64 t.kind
 n : 0 ≤ t.n ∧ t.n ≤ 1073741824
 s : t.text.length ≤ 2000
 o : t.off ≤ 2000
/-- the parser in block g: the tokens that are left, the end -/
structure PS (w : World) (g : Nat) (en : Int) (ts : List Tok) : Prop where
 mem : ∃ v, Blk w g 107 #[v, .int .i64 en] ∧ SeqP w (fun b _ => b < g) 4 v ts.length (ts.flatMap tokL)
 ok : ∀ t ∈ ts, TokOk t
 en0 : 0 ≤ en ∧ en ≤ 2000
theorem PS.lt {w : World} {g : Nat} {en : Int} {ts : List Tok} (h : PS w g en ts) : g < w.heap.size := by obtain ⟨v, h1, _⟩ := h.mem; exact h1.lt
theorem PS.below {w w' : World} {g : Nat} {en : Int} {ts : List Tok} (h : PS w g en ts) (hb : Below w.heap.size w w') : PS w' g en ts := by
 obtain ⟨v, h1, h2⟩ := h.mem
 exact ⟨⟨v, h1.below hb, h2.keep (Agree.of_below hb)⟩, h.ok, h.en0⟩
theorem PS.only {w w' : World} {g h : Nat} {en : Int} {ts : List Tok} (hp : PS w g en ts) (ho : Only h w w') (hb : g < h) : PS w' g en ts := by
 obtain ⟨v, h1, h2⟩ := hp.mem
 exact ⟨⟨v, ho.blk h1 (by omega), h2.keep (Agree.of_only ho (fun _ _ hx => by omega))⟩, hp.ok, hp.en0⟩
theorem PS.alloc {w : World} {g : Nat} {en : Int} {ts : List Tok} (h : PS w g en ts) (o : Obj) : PS (w.alloc o) g en ts := h.below (bel1 _ _)
theorem PS.drewN {w : World} {g : Nat} {en : Int} {ts : List Tok} (h : PS w g en ts) (n : Nat) : PS (w.drewN n) g en ts := h.below (below_drewN _ _)
theorem PS.drew {w : World} {g : Nat} {en : Int} {ts : List Tok} (h : PS w g en ts) : PS w.drew g en ts := h.below (below_drewN _ 1)
/-- what is known where a token stands -/
theorem PS.cons {w : World} {g : Nat} {en : Int} {t : Tok} {r : List Tok} (h : PS w g en (t :: r)) :
  ∃ b off c, Blk w g 107 #[.slice (some ⟨b, off, none⟩) (r.length + 1) c, .int .i64 en] ∧ b < w.heap.size ∧ b ≠ g ∧ r.length + 1 ≤ c ∧ c ≤ maxLen ∧
   w.cell? ⟨b, off, none⟩ = some (.int .i64 t.kind) ∧ w.cell? ⟨b, off + 1, none⟩ = some (.string (bsL t.text)) ∧ w.cell? ⟨b, off + 2, none⟩ = some (.int .i64 t.n) ∧ w.cell? ⟨b, off + 3, none⟩ = some (.int .i64 (t.off : Int)) ∧
   SeqP w (fun b _ => b < g) 4 (.slice (some ⟨b, off + 4, none⟩) r.length (c - 1)) r.length (r.flatMap tokL) := by
 obtain ⟨v, h1, h2, A, c, rfl, h3, h4, h5⟩ := h.mem
 obtain ⟨b, off, rfl, hb, hp, hx⟩ := h5 (by simp)
 simp only [List.length_cons] at h1 h2 h3 hp
 have e : ∀ j, ((t :: r).flatMap tokL)[j]? = if j < 4 then (tokL t)[j]? else (r.flatMap tokL)[j - 4]? := fun j => by
  rw [List.flatMap_cons, List.getElem?_append]; rfl
 refine ⟨b, off, c, h1, hb, Nat.ne_of_lt hp, h3, h4, ?_, ?_, ?_, ?_, ?_⟩
 ·exact hx 0 _ (e 0)
 ·exact hx 1 _ (e 1)
 ·exact hx 2 _ (e 2)
 ·exact hx 3 _ (e 3)
 ·refine ⟨?_, _, _, rfl, by omega, by omega, fun h0 => ⟨b, off + 4, rfl, hb, hp, fun j u hu => ?_⟩⟩
  ·rw [List.flatMap_cons, List.length_append] at h2; have : (tokL t).length = 4 := rfl; omega
  ·rw [Nat.add_assoc]
   refine hx (4 + j) u ?_
   rw [e, if_neg (by omega), Nat.add_sub_cancel_left]; exact hu
theorem PS.put {w : World} {g : Nat} {en : Int} {t : Tok} {r : List Tok} (h : PS w g en (t :: r)) (v : Value) (hv : SeqP w (fun b _ => b < g) 4 v r.length (r.flatMap tokL)) : PS (w.setCell ⟨g, 0, none⟩ v) g en r := by
 obtain ⟨u, h1, h2⟩ := h.mem
 refine ⟨⟨v, by have := h1.set 0 v; simpa using this, hv.keep (Agree.of_only (Only.setCell 0 v) (fun _ _ hb => Nat.ne_of_lt hb))⟩, fun x hx => h.ok x (List.mem_cons_of_mem _ hx), h.en0⟩
theorem PS.nil {w : World} {g : Nat} {en : Int} (h : PS w g en []) : ∃ A c, Blk w g 107 #[.slice A 0 c, .int .i64 en] ∧ c ≤ maxLen := by
 obtain ⟨v, h1, h2, A, c, rfl, h3, h4, h5⟩ := h.mem
 exact ⟨A, c, h1, h4⟩
abbrev failE (f : Int × Int) : Ending := .panicked [{ v := .iface 103 (.agg #[.int .i64 f.1, .int .i64 f.2]), recovered := false }]
/-- how a function of the parser ends -/
def RetX {α : Type} (g : Nat) (en : Int) (w : World) (r : Res α) (V : α → Ending → World → Prop) (e : Ending) (w' : World) : Prop :=
 Only g w w' ∧ match r with
 | .ok (a, ts) => PS w' g en ts ∧ V a e w'
 | .error f => e = failE f
end
section
open Go.RowKit FracM
def NotB (g : Nat) : Nat → Nat → Prop := fun b _ => b < g
/-- the generator in block g: its numbers, the index of the next one, its names, its greatest window -/
structure GenAt (w : World) (g : Nat) (i : Int) (lv nv : Value) (l : List Int) (ns : List ByteArray) (most : Int) : Prop where
 blk : Blk w g 74 #[lv, .int .i64 i, nv, .int .i64 most]
 ints : SeqP w (NotB g) 1 lv l.length (l.map (Value.int .i64))
 fit : ∀ x ∈ l, I64 x
 strs : SeqP w (NotB g) 1 nv ns.length (ns.map Value.string)
theorem GenAt.only {w w' : World} {g : Nat} {i i' : Int} {lv nv : Value} {l : List Int} {ns : List ByteArray} {most : Int} (h : GenAt w g i lv nv l ns most) (f : Only g w w') (hb : Blk w' g 74 #[lv, .int .i64 i', nv, .int .i64 most]) : GenAt w' g i' lv nv l ns most :=
 ⟨hb, h.ints.keep (Agree.of_only f fun _ _ h => Nat.ne_of_lt h), h.fit, h.strs.keep (Agree.of_only f fun _ _ h => Nat.ne_of_lt h)⟩
theorem GenAt.below {w w' : World} {g : Nat} {i : Int} {lv nv : Value} {l : List Int} {ns : List ByteArray} {most : Int} (h : GenAt w g i lv nv l ns most) (f : Below w.heap.size w w') : GenAt w' g i lv nv l ns most :=
 h.only (Only.of_below f) (h.blk.below f)
/-- only blocks above g turn -/
theorem GenAt.above {w w' : World} {g : Nat} {i : Int} {lv nv : Value} {l : List Int} {ns : List ByteArray} {most : Int} (h : GenAt w g i lv nv l ns most) (f : Below (g + 1) w w') : GenAt w' g i lv nv l ns most :=
 ⟨(f.block g (Nat.lt_succ_self g)).trans h.blk, h.ints.keep (Agree.of_lt f fun _ _ h => Nat.lt_succ_of_lt h), h.fit, h.strs.keep (Agree.of_lt f fun _ _ h => Nat.lt_succ_of_lt h)⟩
theorem GenAt.drew {w : World} {g : Nat} {i : Int} {lv nv : Value} {l : List Int} {ns : List ByteArray} {most : Int} (h : GenAt w g i lv nv l ns most) : GenAt w.drew g i lv nv l ns most := h.below (below_drewN w 1)
theorem GenAt.allocd {w : World} {g : Nat} {i : Int} {lv nv : Value} {l : List Int} {ns : List ByteArray} {most : Int} (h : GenAt w g i lv nv l ns most) (o : Obj) : GenAt (w.alloc o).drew g i lv nv l ns most := (h.below (bel1 w o)).drew
theorem GenAt.alloc {w : World} {g : Nat} {i : Int} {lv nv : Value} {l : List Int} {ns : List ByteArray} {most : Int} (h : GenAt w g i lv nv l ns most) (o : Obj) : GenAt (w.alloc o) g i lv nv l ns most := h.below (bel1 w o)
theorem GenAt.c {w : World} {g : Nat} {i : Int} {lv nv : Value} {l : List Int} {ns : List ByteArray} {most : Int} (h : GenAt w g i lv nv l ns most) : w.cell? ⟨g, 0, none⟩ = some lv ∧ w.cell? ⟨g, 1, none⟩ = some (.int .i64 i) ∧ w.cell? ⟨g, 2, none⟩ = some nv ∧ w.cell? ⟨g, 3, none⟩ = some (.int .i64 most) := by
 have hb := h.blk
 unfold Blk at hb; simp [World.cell?, hb]
structure OnlyS (g : Nat) (w w' : World) : Prop where
 only : Only g w w'
 size : w'.heap.size = w.heap.size
def RetN (g : Nat) (lv nv : Value) (l : List Int) (ns : List ByteArray) (most i m : Int) (w : World) (e : Ending) (w' : World) : Prop :=
 e = .returned (.int .i64 (pickZ l i m)) ∧ GenAt w' g (i + 1) lv nv l ns most ∧ OnlyS g w w'
theorem pick_same (A : Option Addr) (n c base : Nat) (l : List Int) (i most : Int) (w : World) (h : Ints w base (.slice A n c) l) (h1 : 1 ≤ most) (h2 : most ≤ 9223372036854775807) :
  Calls Tryd.prog 88 #[.slice A n c, .int .i64 i, .int .i64 most] w fun e w' => e = .returned (.int .i64 (pickZ l i most)) ∧ w' = w := (pick_any A n c base l i most w h h1 h2).mono fun _ _ ⟨a, b⟩ => ⟨a, b.symm⟩
set_option maxHeartbeats 1000000 in
theorem next_any (g : Nat) (lv nv : Value) (l : List Int) (ns : List ByteArray) (most i m : Int) (w : World) (h : GenAt w g i lv nv l ns most) (hi : 0 ≤ i) (hi2 : i ≤ 1000000) (h1 : 1 ≤ m) (h2 : m ≤ 9223372036854775807) :
  Calls Tryd.prog 71 #[.pointer (some ⟨g, 0, none⟩), .int .i64 m] w (RetN g lv nv l ns most i m w) := by
 obtain ⟨c0, c1, c2, c3⟩ := h.c
 have cf := h.blk.frozen
 have HG := Box.mk h
 have hs : OnlyS g w (w.setCell ⟨g, 1, none⟩ (.int .i64 (i + 1))) := ⟨Only.setCell 1 _, by simp [World.setCell]⟩
 have hb : Blk (w.setCell ⟨g, 1, none⟩ (.int .i64 (i + 1))) g 74 #[lv, .int .i64 (i + 1), nv, .int .i64 most] := by simpa using h.blk.set 1 (.int .i64 (i + 1))
 have HG2 := Box.mk (h.only hs.only hb)
 obtain ⟨A, c, hlv, -⟩ := HG2.out.ints.form
 have HI : Box (Ints (w.setCell ⟨g, 1, none⟩ (.int .i64 (i + 1))) (w.setCell ⟨g, 1, none⟩ (.int .i64 (i + 1))).heap.size (.slice A l.length c) l) := ⟨by
  have := HG2.out.ints; rw [hlv] at this; exact ⟨this.seq, HG2.out.fit⟩⟩
 have HS := Box.mk hs
 clear h hs hb
 subst hlv
 go_enter Tryd.func71, Tryd.ntmps71
 go_upto_region 2 with (fail)
 obtain ⟨d0, d1, d2, d3⟩ := HG2.out.c
 generalize w.setCell ⟨g, 1, none⟩ (.int .i64 (i + 1)) = W at *
 clear c0 c1 c2 c3
 have t1 : IntKind.i64.wrap (i + 1 - 1) = i := by rw [show i + 1 - 1 = i by omega]; exact W64_in (by omega) (by omega)
 go_quiet ((go_at_call 88; exact Calls.quiet_of_same (pick_same _ _ _ _ l _ _ _ HI.out h1 h2)))
 go_wp2
 go_ret
 exact ⟨rfl, HG2.out.below (below_drewN _ _), ⟨HS.out.only.trans (Only.of_below (below_drewN _ _)), HS.out.size⟩⟩
end
section
open Go.RowKit
end
section
open Go.RowKit
end
end Go.Proofs.YtipafbppaaflcaaDoor
