/- Contracts, packed: Yj Qb Yk. -/
import Derived.Test.YtcifgobinleldaaGreatDoorPt6
import Derived.Test.YtcifgobinleldaaGreatDoorPt12
import Derived.Test.YtcifgobinleldaaGreatDoorPt13
set_option linter.unusedVariables false
set_option linter.unusedSimpArgs false
namespace Go.Proofs.YtcifgobinleldaaGreatDoor
section
open Go.RowKit

theorem eq_u (W : World) : (Op.equalIn 10000 61 oneU oneU).run Tryz.prog W = .ok true W := by kernel_rfl
set_option maxHeartbeats 1000000 in
set_option maxRecDepth 100000 in
theorem lives_true (w : World) (hw : WordsW w) : Calls Tryz.prog 34 #[] w (RetB (.bool true) w) := by
  have HW := Box.mk hw; clear hw
  have q := eq_u
  go_enter Tryz.func34, Tryz.ntmps34
  go_wp2_with fail
  refine (of_one (w.heap.size + 1) _ (HW.out.below (bel2 _ _ _)) (Blk.newAt _ _ (by simp))).mono ?_
  rintro e w1 ⟨rfl, hb⟩
  have HB : Hid (Below w.heap.size w w1 ∧ Blk w1 w.heap.size 33 reqC) := ⟨bthen (bel2 _ _ _) hb (Nat.le_refl _), ((Blk.new _ _ _).alloc _).below hb⟩
  clear hb
  go_upto_region 3 with (fail)
  have HB2 : Hid (Below w.heap.size w (w1.alloc (.cells #[.int .i64 1, .int .i64 0, .int .i64 (-1)] 61)) ∧ Blk (w1.alloc (.cells #[.int .i64 1, .int .i64 0, .int .i64 (-1)] 61)) w.heap.size 33 reqC ∧ Blk (w1.alloc (.cells #[.int .i64 1, .int .i64 0, .int .i64 (-1)] 61)) w1.heap.size 61 #[.int .i64 1, .int .i64 0, .int .i64 (-1)]) := ⟨HB.out.1.alloc HB.out.1.size _, HB.out.2.alloc _, Blk.new _ _ _⟩
  clear HB
  generalize w1.heap.size = N at *
  generalize w1.alloc (.cells #[.int .i64 1, .int .i64 0, .int .i64 (-1)] 61) = W1 at *
  obtain ⟨c0, c1, c2, c3, c4, c5, c6, c7, c8, c9, c10⟩ := req_at HB2.out.2.1
  go_wp2_with fail
  refine (of_nil _ (HW.out.below HB2.out.1)).mono ?_
  rintro e w2 ⟨rfl, hb⟩
  clear c0 c1 c2 c3 c4 c5 c6 c7 c8 c9 c10
  have HB3 : Hid (Below w.heap.size w w2 ∧ Blk w2 N 61 #[.int .i64 1, .int .i64 0, .int .i64 (-1)]) := ⟨bthen HB2.out.1 hb (Nat.le_refl _), HB2.out.2.2.below hb⟩
  clear hb HB2
  go_upto_region 4 with (fail)
  have HB4 : Hid (Below w.heap.size w (w2.alloc (.cells #[.int .i64 0, .int .i64 0, .int .i64 0] 61)) ∧ Blk (w2.alloc (.cells #[.int .i64 0, .int .i64 0, .int .i64 0] 61)) N 61 #[.int .i64 1, .int .i64 0, .int .i64 (-1)]) := ⟨HB3.out.1.alloc HB3.out.1.size _, HB3.out.2.alloc _⟩
  clear HB3
  generalize w2.alloc (.cells #[.int .i64 0, .int .i64 0, .int .i64 0] 61) = W2 at *
  obtain ⟨n0, n1, n2⟩ := HB4.out.2.c3
  go_wp2_with fail
  refine (text_one _ (HW.out.below HB4.out.1)).mono ?_
  rintro e w3 ⟨rfl, hb⟩
  have HB5 := Lib.hid (bthen HB4.out.1 hb (Nat.le_refl _))
  clear hb n0 n1 n2 HB4
  go_wp2_with fail
  refine (text_none _ (HW.out.below HB5.out)).mono ?_
  rintro e w4 ⟨rfl, hb⟩
  have HB6 := Lib.hid (bthen HB5.out hb (Nat.le_refl _))
  clear hb HB5
  go_wp2_with fail
  go_ret
  exact ⟨rfl, HB6.out⟩
end
section
open Go.RowKit FracM

/-- of the old cells those below an end in P are as they were -/
structure Agree (P : Nat → Nat → Prop) (w w' : World) : Prop where
  size : w.heap.size ≤ w'.heap.size
  cell : ∀ b e o, P b e → b < w.heap.size → o < e → w'.cell? ⟨b, o, none⟩ = w.cell? ⟨b, o, none⟩
theorem Agree.of_below {P : Nat → Nat → Prop} {w w' : World} (h : Below w.heap.size w w') : Agree P w w' := ⟨h.size, fun b _ o _ hb _ => World.cell?_of_block (a := ⟨b, o, none⟩) (h.block b hb)⟩
theorem Agree.of_only {P : Nat → Nat → Prop} {g : Nat} {w w' : World} (h : Only g w w') (hP : ∀ b e, P b e → b ≠ g) : Agree P w w' := ⟨h.size, fun b e o hp hb _ => World.cell?_of_block (a := ⟨b, o, none⟩) (h.block b hb (hP b e hp))⟩
theorem Agree.of_lt {P : Nat → Nat → Prop} {B : Nat} {w w' : World} (h : Below B w w') (hP : ∀ b e, P b e → b < B) : Agree P w w' := ⟨h.size, fun b e o hp hb _ => World.cell?_of_block (a := ⟨b, o, none⟩) (h.block b (hP b e hp))⟩
theorem Agree.trans {P : Nat → Nat → Prop} {a b c : World} (h : Agree P a b) (k : Agree P b c) : Agree P a c :=
  ⟨Nat.le_trans h.size k.size, fun i e o hp hi ho => (k.cell i e o hp (Nat.lt_of_lt_of_le hi h.size) ho).trans (h.cell i e o hp hi ho)⟩

/-- the slice v has n elements of 'size' cells, the cells xs, in a block that P names with the end of these cells -/
def SeqP (w : World) (P : Nat → Nat → Prop) (size : Nat) (v : Value) (n : Nat) (xs : List Value) : Prop :=
  xs.length = n * size ∧ ∃ A c, v = .slice A n c ∧ n ≤ c ∧ c ≤ maxLen ∧
    (0 < n → ∃ b off, A = some ⟨b, off, none⟩ ∧ b < w.heap.size ∧ P b (off + n * size) ∧ ∀ j u, xs[j]? = some u → w.cell? ⟨b, off + j, none⟩ = some u)
theorem SeqP.keep {w w' : World} {P : Nat → Nat → Prop} {size n : Nat} {v : Value} {xs : List Value} (h : SeqP w P size v n xs) (f : Agree P w w') : SeqP w' P size v n xs := by
  obtain ⟨h1, A, c, hv, hn, hc, h2⟩ := h
  refine ⟨h1, A, c, hv, hn, hc, fun h0 => ?_⟩
  obtain ⟨b, off, hA, hb, hp, hx⟩ := h2 h0
  refine ⟨b, off, hA, Nat.lt_of_lt_of_le hb f.size, hp, fun j u hu => (f.cell b _ (off + j) hp hb ?_).trans (hx j u hu)⟩
  have := (List.getElem?_eq_some_iff.1 hu).1
  omega
theorem SeqP.mono {w : World} {P Q : Nat → Nat → Prop} {size n : Nat} {v : Value} {xs : List Value} (h : SeqP w P size v n xs) (hq : ∀ b e, b < w.heap.size → P b e → Q b e) : SeqP w Q size v n xs := by
  obtain ⟨h1, A, c, hv, hn, hc, h2⟩ := h
  refine ⟨h1, A, c, hv, hn, hc, fun h0 => ?_⟩
  obtain ⟨b, off, hA, hb, hp, hx⟩ := h2 h0
  exact ⟨b, off, hA, hb, hq b _ hb hp, hx⟩
theorem SeqP.seq {w : World} {P : Nat → Nat → Prop} {t size n : Nat} {v : Value} {xs : List Value} (h : SeqP w P size v n xs) : Seq w w.heap.size t size v n xs := by
  obtain ⟨h1, A, c, hv, hn, hc, h2⟩ := h
  refine ⟨h1, A, c, hv, hn, hc, fun h0 => ?_⟩
  obtain ⟨b, off, hA, hb, hp, hx⟩ := h2 h0
  exact ⟨b, off, hA, ⟨hb, .inl hb⟩, hx⟩
theorem SeqP.of_seq {w : World} {P : Nat → Nat → Prop} {base t size n : Nat} {v : Value} {xs : List Value} (h : Seq w base t size v n xs) (hq : ∀ b off n' c, v = .slice (some ⟨b, off, none⟩) n' c → P b (off + n' * size)) : SeqP w P size v n xs := by
  obtain ⟨h1, A, c, hv, hn, hc, h2⟩ := h
  refine ⟨h1, A, c, hv, hn, hc, fun h0 => ?_⟩
  obtain ⟨b, off, hA, hf, hx⟩ := h2 h0
  exact ⟨b, off, hA, hf.1, hq b off n c (by rw [hv, hA]), hx⟩
theorem SeqP.nil (w : World) (P : Nat → Nat → Prop) (size : Nat) : SeqP w P size (.slice none 0 0) 0 [] :=
  ⟨by simp, none, 0, rfl, Nat.le_refl _, by unfold maxLen; omega, fun h => absurd h (by omega)⟩
theorem SeqP.form {w : World} {P : Nat → Nat → Prop} {size n : Nat} {v : Value} {xs : List Value} (h : SeqP w P size v n xs) : ∃ A c, v = .slice A n c ∧ n ≤ 9223372036854775807 := by
  obtain ⟨_, A, c, hv, h1, h2, _⟩ := h
  unfold maxLen at h2
  exact ⟨A, c, hv, by omega⟩

abbrev ndC (d : Nd) (mv bv kv : Value) : Array Value := #[.int .i64 d.kind, .int .i64 d.fn, .int .i64 d.win, .int .i64 d.off, .int .i64 d.k, .int .i64 d.num, .int .i64 d.den, .string d.name, mv, bv, kv]
abbrev Sl := Value × Value × Value
def ndL (x : Tree × Sl) : List Value := (ndC x.1.d x.2.1 x.2.2.1 x.2.2.2).toList
/-- numbers and strings fit -/
structure NdOk (d : Nd) : Prop where
  ints : I64 d.kind ∧ I64 d.fn ∧ I64 d.win ∧ I64 d.off ∧ I64 d.k ∧ I64 d.num ∧ I64 d.den
  name : d.name.size ≤ maxLen
  ms : ∀ m ∈ d.ms, m.1.size ≤ maxLen ∧ m.2.2.size ≤ maxLen
  bys : ∀ s ∈ d.bys, s.size ≤ maxLen

inductive TreeAt (w : World) (P : Nat → Nat → Prop) : Tree → Sl → Prop
  | mk (d : Nd) (ks : List Tree) (mv bv kv : Value) (cs : List Sl) (hd : NdOk d)
      (hm : SeqP w P 3 mv d.ms.length (d.ms.flatMap matCells)) (hb : SeqP w P 1 bv d.bys.length (d.bys.map Value.string))
      (hl : cs.length = ks.length) (hk : SeqP w P 11 kv ks.length ((ks.zip cs).flatMap ndL))
      (hr : ∀ (i : Nat) (t : Tree) (c : Sl), ks[i]? = some t → cs[i]? = some c → TreeAt w P t c) : TreeAt w P (.node d ks) (mv, bv, kv)

theorem TreeAt.keep {w w' : World} {P : Nat → Nat → Prop} {t : Tree} {s : Sl} (h : TreeAt w P t s) (f : Agree P w w') : TreeAt w' P t s := by
  induction h with
  | mk d ks mv bv kv cs hd hm hb hl hk hr ih => exact .mk d ks mv bv kv cs hd (hm.keep f) (hb.keep f) hl (hk.keep f) ih
theorem TreeAt.mono {w : World} {P Q : Nat → Nat → Prop} {t : Tree} {s : Sl} (h : TreeAt w P t s) (hq : ∀ b e, b < w.heap.size → P b e → Q b e) : TreeAt w Q t s := by
  induction h with
  | mk d ks mv bv kv cs hd hm hb hl hk hr ih => exact .mk d ks mv bv kv cs hd (hm.mono hq) (hb.mono hq) hl (hk.mono hq) ih
theorem TreeAt.belo {w w' : World} {P : Nat → Nat → Prop} {t : Tree} {s : Sl} (h : TreeAt w P t s) (f : Below w.heap.size w w') : TreeAt w' P t s := h.keep (Agree.of_below f)

/-- a node in memory, opened -/
structure Nod (w : World) (P : Nat → Nat → Prop) (d : Nd) (ks : List Tree) (mv bv kv : Value) : Prop where
  ok : NdOk d
  ms : SeqP w P 3 mv d.ms.length (d.ms.flatMap matCells)
  bys : SeqP w P 1 bv d.bys.length (d.bys.map Value.string)
  kids : ∃ cs : List Sl, cs.length = ks.length ∧ SeqP w P 11 kv ks.length ((ks.zip cs).flatMap ndL) ∧ ∀ (i : Nat) (t : Tree) (c : Sl), ks[i]? = some t → cs[i]? = some c → TreeAt w P t c
theorem TreeAt.nod {w : World} {P : Nat → Nat → Prop} {d : Nd} {ks : List Tree} {mv bv kv : Value} (h : TreeAt w P (.node d ks) (mv, bv, kv)) : Nod w P d ks mv bv kv := by
  cases h with
  | mk _ _ _ _ _ cs hd hm hb hl hk hr => exact ⟨hd, hm, hb, cs, hl, hk, hr⟩
theorem Nod.tree {w : World} {P : Nat → Nat → Prop} {d : Nd} {ks : List Tree} {mv bv kv : Value} (h : Nod w P d ks mv bv kv) : TreeAt w P (.node d ks) (mv, bv, kv) := by
  obtain ⟨hd, hm, hb, cs, hl, hk, hr⟩ := h
  exact .mk d ks mv bv kv cs hd hm hb hl hk hr
theorem Nod.keep {w w' : World} {P : Nat → Nat → Prop} {d : Nd} {ks : List Tree} {mv bv kv : Value} (h : Nod w P d ks mv bv kv) (f : Agree P w w') : Nod w' P d ks mv bv kv := (h.tree.keep f).nod
theorem Nod.below {w w' : World} {P : Nat → Nat → Prop} {d : Nd} {ks : List Tree} {mv bv kv : Value} (h : Nod w P d ks mv bv kv) (f : Below w.heap.size w w') : Nod w' P d ks mv bv kv := (h.tree.belo f).nod
theorem Nod.kform {w : World} {P : Nat → Nat → Prop} {d : Nd} {ks : List Tree} {mv bv kv : Value} (h : Nod w P d ks mv bv kv) : ∃ A c, kv = .slice A ks.length c ∧ ks.length ≤ 9223372036854775807 := by
  obtain ⟨cs, _, hk, _⟩ := h.kids
  exact hk.form
/-- eleven cells -/
abbrev At11 (w : World) (b o : Nat) (d : Nd) (mv bv kv : Value) : Prop := w.cell? ⟨b, o, none⟩ = some (.int .i64 d.kind) ∧ w.cell? ⟨b, o + 1, none⟩ = some (.int .i64 d.fn) ∧ w.cell? ⟨b, o + 2, none⟩ = some (.int .i64 d.win) ∧ w.cell? ⟨b, o + 3, none⟩ = some (.int .i64 d.off) ∧ w.cell? ⟨b, o + 4, none⟩ = some (.int .i64 d.k) ∧ w.cell? ⟨b, o + 5, none⟩ = some (.int .i64 d.num) ∧ w.cell? ⟨b, o + 6, none⟩ = some (.int .i64 d.den) ∧ w.cell? ⟨b, o + 7, none⟩ = some (.string d.name) ∧ w.cell? ⟨b, o + 8, none⟩ = some mv ∧ w.cell? ⟨b, o + 9, none⟩ = some bv ∧ w.cell? ⟨b, o + 10, none⟩ = some kv
theorem Nod.kid {w : World} {P : Nat → Nat → Prop} {d : Nd} {ks : List Tree} {mv bv : Value} {A : Option Addr} {n c : Nat} (h : Nod w P d ks mv bv (.slice A n c)) (i : Nat) (e : Nd) (es : List Tree) (hi : ks[i]? = some (.node e es)) :
    ∃ b off mv' bv' kv', A = some ⟨b, off, none⟩ ∧ b < w.heap.size ∧ (∃ z, P b z) ∧ At11 w b (off + i * 11) e mv' bv' kv' ∧ TreeAt w P (.node e es) (mv', bv', kv') := by
  obtain ⟨cs, hl, hk, hr⟩ := h.kids
  have hlt : i < ks.length := (List.getElem?_eq_some_iff.1 hi).1
  obtain ⟨s, hs⟩ : ∃ s, cs[i]? = some s := ⟨cs[i]'(by omega), List.getElem?_eq_getElem _⟩
  obtain ⟨mv', bv', kv'⟩ := s
  obtain ⟨_, A', c', hv, _, _, h2⟩ := hk
  cases hv
  obtain ⟨b, off, rfl, hb, hp, hx⟩ := h2 (by omega)
  have hz : (ks.zip cs)[i]? = some (.node e es, mv', bv', kv') := by rw [List.getElem?_zip_eq_some]; exact ⟨hi, hs⟩
  refine ⟨b, off, mv', bv', kv', rfl, hb, ⟨_, hp⟩, ?_, hr i _ _ hi hs⟩
  have g := fun j (hj : j < 11) => flat_get ndL 11 (fun _ => rfl) (ks.zip cs) i j _ hz hj
  refine ⟨?_, ?_, ?_, ?_, ?_, ?_, ?_, ?_, ?_, ?_, ?_⟩
  · exact hx _ _ ((g 0 (by omega)).trans rfl)
  · rw [Nat.add_assoc]; exact hx _ _ ((g 1 (by omega)).trans rfl)
  · rw [Nat.add_assoc]; exact hx _ _ ((g 2 (by omega)).trans rfl)
  · rw [Nat.add_assoc]; exact hx _ _ ((g 3 (by omega)).trans rfl)
  · rw [Nat.add_assoc]; exact hx _ _ ((g 4 (by omega)).trans rfl)
  · rw [Nat.add_assoc]; exact hx _ _ ((g 5 (by omega)).trans rfl)
  · rw [Nat.add_assoc]; exact hx _ _ ((g 6 (by omega)).trans rfl)
  · rw [Nat.add_assoc]; exact hx _ _ ((g 7 (by omega)).trans rfl)
  · rw [Nat.add_assoc]; exact hx _ _ ((g 8 (by omega)).trans rfl)
  · rw [Nat.add_assoc]; exact hx _ _ ((g 9 (by omega)).trans rfl)
  · rw [Nat.add_assoc]; exact hx _ _ ((g 10 (by omega)).trans rfl)
theorem blk11 {W : World} {g : Nat} {t : TypeId} {d : Nd} {mv bv kv : Value} (h : Blk W g t (ndC d mv bv kv)) : At11 W g 0 d mv bv kv := by
  unfold Blk at h
  refine ⟨?_, ?_, ?_, ?_, ?_, ?_, ?_, ?_, ?_, ?_, ?_⟩ <;> simp [World.cell?, h]
/-- what a function over a tree holds: the node's own copy (the first block it allots), the tree -/
structure N1 (w W : World) (P : Nat → Nat → Prop) (d : Nd) (ks : List Tree) (mv bv kv : Value) : Prop where
  below : Below w.heap.size w W
  blk : Blk W w.heap.size 33 (ndC d mv bv kv)
  nod : Nod W P d ks mv bv kv
theorem N1.next {w W W' : World} {P : Nat → Nat → Prop} {d : Nd} {ks : List Tree} {mv bv kv : Value} (h : N1 w W P d ks mv bv kv) (hb : Below W.heap.size W W') : N1 w W' P d ks mv bv kv :=
  ⟨bthen h.below hb (Nat.le_refl _), h.blk.below hb, h.nod.below hb⟩
theorem N1.start {w : World} {P : Nat → Nat → Prop} {d : Nd} {ks : List Tree} {mv bv kv : Value} (h : TreeAt w P (.node d ks) (mv, bv, kv)) : N1 w (w.alloc (.cells (ndC d mv bv kv) 33)) P d ks mv bv kv :=
  ⟨bel1 _ _, Blk.new _ _ _, (h.belo (bel1 _ _)).nod⟩
theorem N1.c {w W : World} {P : Nat → Nat → Prop} {d : Nd} {ks : List Tree} {mv bv kv : Value} (h : N1 w W P d ks mv bv kv) : At11 W w.heap.size 0 d mv bv kv := blk11 h.blk
end
section
open Go.RowKit

abbrev uv (a b c : Int) : Value := .agg #[.int .i64 a, .int .i64 b, .int .i64 c]
structure M3 (w W : World) (x0 x1 x2 b0 b1 b2 : Int) : Prop where
  below : Below w.heap.size w W
  A : Blk W w.heap.size 61 #[.int .i64 x0, .int .i64 x1, .int .i64 x2]
  B : Blk W (w.heap.size + 1) 61 #[.int .i64 b0, .int .i64 b1, .int .i64 b2]
  R : Blk W (w.heap.size + 1 + 1) 61 #[.int .i64 0, .int .i64 0, .int .i64 0]
theorem M3.start (w : World) (x0 x1 x2 b0 b1 b2 : Int) : M3 w (((w.alloc (.cells #[.int .i64 x0, .int .i64 x1, .int .i64 x2] 61)).alloc (.cells #[.int .i64 b0, .int .i64 b1, .int .i64 b2] 61)).alloc (.cells #[.int .i64 0, .int .i64 0, .int .i64 0] 61)) x0 x1 x2 b0 b1 b2 :=
  ⟨bel3 _ _ _ _, ((Blk.new _ _ _).alloc _).alloc _, (Blk.newAt _ _ (by simp)).alloc _, Blk.newAt _ _ (by simp)⟩
theorem M3.set {w W : World} {x0 x1 x2 b0 b1 b2 : Int} (h : M3 w W x0 x1 x2 b0 b1 b2) (i : Nat) (v y0 y1 y2 : Int) (hy : (#[.int .i64 x0, .int .i64 x1, .int .i64 x2] : Array Value).setIfInBounds i (.int .i64 v) = #[.int .i64 y0, .int .i64 y1, .int .i64 y2]) : M3 w ((W.setCell ⟨w.heap.size, i, none⟩ (.int .i64 v)).drewN 1) y0 y1 y2 b0 b1 b2 :=
  ⟨bdrew (h.below.setCell (p := ⟨w.heap.size, i, none⟩) (Nat.le_refl _) _) 1, Blk.drewN (hy ▸ h.A.set i (.int .i64 v)) 1, Blk.drewN (h.B.far (p := ⟨w.heap.size, i, none⟩) (by simp only; omega) _) 1, Blk.drewN (h.R.far (p := ⟨w.heap.size, i, none⟩) (by simp only; omega) _) 1⟩
set_option maxHeartbeats 2000000 in
set_option maxRecDepth 100000 in
theorem uMul {a0 a1 a2 b0 b1 b2 m0 m1 m2 : Int} (w : World) (h0 : W64 (a0 + b0) = m0) (h1 : W64 (a1 + b1) = m1) (h2 : W64 (a2 + b2) = m2) : Calls Tryz.prog 171 #[uv a0 a1 a2, uv b0 b1 b2] w (RetB (uv m0 m1 m2) w) := by
  unfold W64 at h0 h1 h2
  go_enter Tryz.func171, Tryz.ntmps171
  have HB := Lib.hid (M3.start w a0 a1 a2 b0 b1 b2)
  go_upto_region 1 with (fail)
  generalize (((w.alloc (.cells #[.int .i64 a0, .int .i64 a1, .int .i64 a2] 61)).alloc (.cells #[.int .i64 b0, .int .i64 b1, .int .i64 b2] 61)).alloc (.cells #[.int .i64 0, .int .i64 0, .int .i64 0] 61)) = W at HB ⊢
  go_wp2_with fail
  go_loopw [6] (fun v wr => (v = .int .i64 0 ∧ M3 w wr a0 a1 a2 b0 b1 b2) ∨ (v = .int .i64 1 ∧ M3 w wr m0 a1 a2 b0 b1 b2) ∨ (v = .int .i64 2 ∧ M3 w wr m0 m1 a2 b0 b1 b2) ∨ (v = .int .i64 3 ∧ M3 w wr m0 m1 m2 b0 b1 b2)) (fun v _ => (3 - intOf v).toNat)
  case atStart => exact .inl ⟨rfl, HB.out⟩
  case round =>
    clear HB
    rcases hrel with ⟨rfl, hM⟩ | ⟨rfl, hM⟩ | ⟨rfl, hM⟩ | ⟨rfl, hM⟩
    · have HB := Lib.hid hM; clear hM
      obtain ⟨p0, p1, p2⟩ := HB.out.A.c3
      obtain ⟨q0, q1, q2⟩ := HB.out.B.c3
      have pf := HB.out.A.frozen
      go_wp2_with fail
      go_region
      all_goals
        go_wp2_with fail
        go_roundw
        case rel => exact (.inr (.inl ⟨rfl, HB.out.set 0 m0 m0 a1 a2 rfl⟩))
        case measure => decide
    · have HB := Lib.hid hM; clear hM
      obtain ⟨p0, p1, p2⟩ := HB.out.A.c3
      obtain ⟨q0, q1, q2⟩ := HB.out.B.c3
      have pf := HB.out.A.frozen
      go_wp2_with fail
      go_region
      all_goals
        go_wp2_with fail
        go_roundw
        case rel => exact (.inr (.inr (.inl ⟨rfl, HB.out.set 1 m1 m0 m1 a2 rfl⟩)))
        case measure => decide
    · have HB := Lib.hid hM; clear hM
      obtain ⟨p0, p1, p2⟩ := HB.out.A.c3
      obtain ⟨q0, q1, q2⟩ := HB.out.B.c3
      have pf := HB.out.A.frozen
      go_wp2_with fail
      go_region
      all_goals
        go_wp2_with fail
        go_roundw
        case rel => exact (.inr (.inr (.inr ⟨rfl, HB.out.set 2 m2 m0 m1 m2 rfl⟩)))
        case measure => decide
    · have HB := Lib.hid hM; clear hM
      obtain ⟨p0, p1, p2⟩ := HB.out.A.c3
      obtain ⟨r0, r1, r2⟩ := HB.out.R.c3
      have rf := HB.out.R.frozen
      go_wp2_with fail
      exact bodyPost_ret (v := uv m0 m1 m2) (by simp [results, Tryz.results171, go_sem, r0, r1, r2, rf]) rfl ⟨rfl, bset3 HB.out.below (by omega) _ _ _⟩
set_option maxHeartbeats 2000000 in
set_option maxRecDepth 100000 in
theorem uDiv {a0 a1 a2 b0 b1 b2 m0 m1 m2 : Int} (w : World) (h0 : W64 (a0 - b0) = m0) (h1 : W64 (a1 - b1) = m1) (h2 : W64 (a2 - b2) = m2) : Calls Tryz.prog 172 #[uv a0 a1 a2, uv b0 b1 b2] w (RetB (uv m0 m1 m2) w) := by
  unfold W64 at h0 h1 h2
  go_enter Tryz.func172, Tryz.ntmps172
  have HB := Lib.hid (M3.start w a0 a1 a2 b0 b1 b2)
  go_upto_region 1 with (fail)
  generalize (((w.alloc (.cells #[.int .i64 a0, .int .i64 a1, .int .i64 a2] 61)).alloc (.cells #[.int .i64 b0, .int .i64 b1, .int .i64 b2] 61)).alloc (.cells #[.int .i64 0, .int .i64 0, .int .i64 0] 61)) = W at HB ⊢
  go_wp2_with fail
  go_loopw [6] (fun v wr => (v = .int .i64 0 ∧ M3 w wr a0 a1 a2 b0 b1 b2) ∨ (v = .int .i64 1 ∧ M3 w wr m0 a1 a2 b0 b1 b2) ∨ (v = .int .i64 2 ∧ M3 w wr m0 m1 a2 b0 b1 b2) ∨ (v = .int .i64 3 ∧ M3 w wr m0 m1 m2 b0 b1 b2)) (fun v _ => (3 - intOf v).toNat)
  case atStart => exact .inl ⟨rfl, HB.out⟩
  case round =>
    clear HB
    rcases hrel with ⟨rfl, hM⟩ | ⟨rfl, hM⟩ | ⟨rfl, hM⟩ | ⟨rfl, hM⟩
    · have HB := Lib.hid hM; clear hM
      obtain ⟨p0, p1, p2⟩ := HB.out.A.c3
      obtain ⟨q0, q1, q2⟩ := HB.out.B.c3
      have pf := HB.out.A.frozen
      go_wp2_with fail
      go_region
      all_goals
        go_wp2_with fail
        go_roundw
        case rel => exact (.inr (.inl ⟨rfl, HB.out.set 0 m0 m0 a1 a2 rfl⟩))
        case measure => decide
    · have HB := Lib.hid hM; clear hM
      obtain ⟨p0, p1, p2⟩ := HB.out.A.c3
      obtain ⟨q0, q1, q2⟩ := HB.out.B.c3
      have pf := HB.out.A.frozen
      go_wp2_with fail
      go_region
      all_goals
        go_wp2_with fail
        go_roundw
        case rel => exact (.inr (.inr (.inl ⟨rfl, HB.out.set 1 m1 m0 m1 a2 rfl⟩)))
        case measure => decide
    · have HB := Lib.hid hM; clear hM
      obtain ⟨p0, p1, p2⟩ := HB.out.A.c3
      obtain ⟨q0, q1, q2⟩ := HB.out.B.c3
      have pf := HB.out.A.frozen
      go_wp2_with fail
      go_region
      all_goals
        go_wp2_with fail
        go_roundw
        case rel => exact (.inr (.inr (.inr ⟨rfl, HB.out.set 2 m2 m0 m1 m2 rfl⟩)))
        case measure => decide
    · have HB := Lib.hid hM; clear hM
      obtain ⟨p0, p1, p2⟩ := HB.out.A.c3
      obtain ⟨r0, r1, r2⟩ := HB.out.R.c3
      have rf := HB.out.R.frozen
      go_wp2_with fail
      exact bodyPost_ret (v := uv m0 m1 m2) (by simp [results, Tryz.results172, go_sem, r0, r1, r2, rf]) rfl ⟨rfl, bset3 HB.out.below (by omega) _ _ _⟩
end
end Go.Proofs.YtcifgobinleldaaGreatDoor
