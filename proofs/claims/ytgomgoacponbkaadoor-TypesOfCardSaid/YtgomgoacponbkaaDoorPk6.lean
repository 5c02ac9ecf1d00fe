/- Contracts, packed: Yi Yj Qb Qt Qn. -/
import Derived.Test.YtgomgoacponbkaaDoorPk5
set_option linter.unusedVariables false
set_option linter.unusedSimpArgs false
namespace Go.Proofs.YtgomgoacponbkaaDoor
section
open Go.RowKit

structure O2 (w W : World) : Prop where
  below : Below w.heap.size w W
  Q : Blk W w.heap.size 38 reqC
  R : Blk W (w.heap.size + 1) 23 #[.int .i64 0, .int .i64 0, .int .i64 0]
theorem O2.next {w W W' : World} (h : O2 w W) (hb : Below W.heap.size W W') : O2 w W' := ⟨bthen h.below hb (Nat.le_refl _), h.Q.below hb, h.R.below hb⟩
theorem O2.only {w W W' : World} {g : Nat} (h : O2 w W) (ho : Only g W W') (hg : w.heap.size + 1 < g) : O2 w W' :=
  ⟨h.below.trans (ho.below (by omega) h.below.size), ho.blk h.Q (by omega), ho.blk h.R (by omega)⟩
theorem O2.start (w : World) : O2 w ((w.alloc (.cells reqC 38)).alloc (.cells #[.int .i64 0, .int .i64 0, .int .i64 0] 23)) :=
  ⟨bel2 _ _ _, (Blk.new _ _ _).alloc _, Blk.newAt _ _ (by simp)⟩
set_option maxHeartbeats 1000000 in
set_option maxRecDepth 100000 in
theorem of_nil (w : World) (hw : WordsW w) : Calls Tryd.prog 23 #[.slice none 0 0, reqV] w (RetB (.tuple #[zeroU, .int .i64 8]) w) := by
  have HW := Box.mk hw; clear hw
  have HB := Lib.hid (O2.start w)
  go_enter Tryd.func23, Tryd.ntmps23
  go_upto_region 1 with (fail)
  generalize ((w.alloc (.cells reqC 38)).alloc (.cells #[.int .i64 0, .int .i64 0, .int .i64 0] 23)) = W at HB ⊢
  obtain ⟨c0, c1, c2, c3, c4, c5, c6, c7, c8, c9, c10⟩ := req_at HB.out.Q
  go_wp2_with fail
  refine (pvalid_req _ (HW.out.below HB.out.below)).mono ?_
  rintro e w1 ⟨rfl, hb⟩
  clear c0 c1 c2 c3 c4 c5 c6 c7 c8 c9 c10
  have HB2 := Lib.hid (HB.out.next hb); clear HB hb
  go_upto_region 5 with (fail)
  have hG : w.heap.size + 1 < w1.heap.size := HB2.out.R.lt
  have HT : Hid (Blk (w1.alloc (.cells #[.slice none 0 0, .int .i64 0] 72)) w1.heap.size 72 #[.slice none 0 0, .int .i64 0]) := Blk.new _ _ _
  have HB := Lib.hid (HB2.out.next (bel1 w1 (.cells #[.slice none 0 0, .int .i64 0] 72))); clear HB2
  generalize w1.heap.size = G at *
  generalize w1.alloc (.cells #[.slice none 0 0, .int .i64 0] 72) = W1 at *
  obtain ⟨c0, c1, c2, c3, c4, c5, c6, c7, c8, c9, c10⟩ := req_at HB.out.Q
  go_wp2_with fail
  refine (unit_req G _ _ #[.slice none 0 0, .int .i64 8] 0 0 0 HT.out (fun W hW => selected_nil G W hW.T)).mono ?_
  rintro e w2 ⟨rfl, hT, ho⟩
  clear c0 c1 c2 c3 c4 c5 c6 c7 c8 c9 c10
  have HB2 := Lib.hid (HB.out.only ho hG)
  have HT2 := Lib.hid hT
  clear HB HT hT ho
  go_upto_region 6 with (fail)
  have HB := Lib.hid (HB2.out.next (bel1 w2 (.cells #[.int .i64 0, .int .i64 0, .int .i64 0] 23)))
  have HT := Lib.hid (HT2.out.alloc (.cells #[.int .i64 0, .int .i64 0, .int .i64 0] 23))
  clear HB2 HT2
  generalize w2.alloc (.cells #[.int .i64 0, .int .i64 0, .int .i64 0] 23) = W2 at *
  obtain ⟨t0, t1⟩ := HT.out.c2
  obtain ⟨r0, r1, r2⟩ := HB.out.R.c3
  have rf := HB.out.R.frozen
  have nG : ¬ G = w.heap.size + 1 := by omega
  have nG2 : ¬ w.heap.size + 1 = G := by omega
  go_wp2_with fail
  go_region
  all_goals
    go_wp2_with fail
    exact bodyPost_ret (v := .tuple #[zeroU, .int .i64 8]) (by simp [results, Tryd.results23, go_sem, r0, r1, r2, rf]) rfl ⟨rfl, by first | exact bset3 HB.out.below (by omega) _ _ _ | exact bdrew (bset3 HB.out.below (by omega) _ _ _) 1⟩
set_option maxHeartbeats 1000000 in
set_option maxRecDepth 100000 in
theorem of_one (B : Nat) (w : World) (hw : WordsW w) (hB : Blk w B 46 declC) : Calls Tryd.prog 23 #[.slice (some ⟨B, 0, none⟩) 1 1, reqV] w (RetB (.tuple #[oneU, .int .i64 0]) w) := by
  have HW := Box.mk hw; clear hw
  have HD := Box.mk hB
  have bz := hB.lt
  clear hB
  have HB := Lib.hid (O2.start w)
  go_enter Tryd.func23, Tryd.ntmps23
  go_upto_region 1 with (fail)
  generalize ((w.alloc (.cells reqC 38)).alloc (.cells #[.int .i64 0, .int .i64 0, .int .i64 0] 23)) = W at HB ⊢
  obtain ⟨c0, c1, c2, c3, c4, c5, c6, c7, c8, c9, c10⟩ := req_at HB.out.Q
  go_wp2_with fail
  refine (pvalid_req _ (HW.out.below HB.out.below)).mono ?_
  rintro e w1 ⟨rfl, hb⟩
  clear c0 c1 c2 c3 c4 c5 c6 c7 c8 c9 c10
  have HB2 := Lib.hid (HB.out.next hb); clear HB hb
  go_upto_region 5 with (fail)
  have hG : w.heap.size + 1 < w1.heap.size := HB2.out.R.lt
  have HT : Hid (Blk (w1.alloc (.cells #[.slice (some ⟨B, 0, none⟩) 1 1, .int .i64 0] 72)) w1.heap.size 72 #[.slice (some ⟨B, 0, none⟩) 1 1, .int .i64 0]) := Blk.new _ _ _
  have HB := Lib.hid (HB2.out.next (bel1 w1 (.cells #[.slice (some ⟨B, 0, none⟩) 1 1, .int .i64 0] 72))); clear HB2
  generalize w1.heap.size = G at *
  generalize w1.alloc (.cells #[.slice (some ⟨B, 0, none⟩) 1 1, .int .i64 0] 72) = W1 at *
  obtain ⟨c0, c1, c2, c3, c4, c5, c6, c7, c8, c9, c10⟩ := req_at HB.out.Q
  have HD1 : Box (Blk W1 B 46 declC) := ⟨(HB.out.below.block B bz).trans HD.out⟩
  have hBG : B ≠ G := by omega
  go_wp2_with fail
  refine (unit_req G _ _ #[.slice (some ⟨B, 0, none⟩) 1 1, .int .i64 0] 1 0 (-1) HT.out (fun W hW => selected_one G B W hW.T (hW.only.blk HD1.out hBG) hBG)).mono ?_
  rintro e w2 ⟨rfl, hT, ho⟩
  clear c0 c1 c2 c3 c4 c5 c6 c7 c8 c9 c10
  have HB2 := Lib.hid (HB.out.only ho hG)
  have HT2 := Lib.hid hT
  clear HB HT hT ho
  go_upto_region 6 with (fail)
  have HB := Lib.hid (HB2.out.next (bel1 w2 (.cells #[.int .i64 1, .int .i64 0, .int .i64 (-1)] 23)))
  have HT := Lib.hid (HT2.out.alloc (.cells #[.int .i64 1, .int .i64 0, .int .i64 (-1)] 23))
  have HN : Hid (Blk (w2.alloc (.cells #[.int .i64 1, .int .i64 0, .int .i64 (-1)] 23)) w2.heap.size 23 #[.int .i64 1, .int .i64 0, .int .i64 (-1)]) := Blk.new _ _ _
  clear HB2 HT2
  generalize w2.heap.size = N at *
  generalize w2.alloc (.cells #[.int .i64 1, .int .i64 0, .int .i64 (-1)] 23) = W2 at *
  obtain ⟨t0, t1⟩ := HT.out.c2
  obtain ⟨n0, n1, n2⟩ := HN.out.c3
  obtain ⟨r0, r1, r2⟩ := HB.out.R.c3
  have rf := HB.out.R.frozen
  go_wp2_with fail
  exact bodyPost_ret (v := .tuple #[oneU, .int .i64 0]) (by simp [results, Tryd.results23, go_sem, r0, r1, r2, rf]) rfl ⟨rfl, bset3 HB.out.below (by omega) _ _ _⟩
end
section
open Go.RowKit

theorem eq_u (W : World) : (Op.equalIn 10000 23 oneU oneU).run Tryd.prog W = .ok true W := by kernel_rfl
set_option maxHeartbeats 1000000 in
set_option maxRecDepth 100000 in
theorem lives_true (w : World) (hw : WordsW w) : Calls Tryd.prog 16 #[] w (RetB (.bool true) w) := by
  have HW := Box.mk hw; clear hw
  have q := eq_u
  go_enter Tryd.func16, Tryd.ntmps16
  go_wp2_with fail
  refine (of_one (w.heap.size + 1) _ (HW.out.below (bel2 _ _ _)) (Blk.newAt _ _ (by simp))).mono ?_
  rintro e w1 ⟨rfl, hb⟩
  have HB : Hid (Below w.heap.size w w1 ∧ Blk w1 w.heap.size 38 reqC) := ⟨bthen (bel2 _ _ _) hb (Nat.le_refl _), ((Blk.new _ _ _).alloc _).below hb⟩
  clear hb
  go_upto_region 3 with (fail)
  have HB2 : Hid (Below w.heap.size w (w1.alloc (.cells #[.int .i64 1, .int .i64 0, .int .i64 (-1)] 23)) ∧ Blk (w1.alloc (.cells #[.int .i64 1, .int .i64 0, .int .i64 (-1)] 23)) w.heap.size 38 reqC ∧ Blk (w1.alloc (.cells #[.int .i64 1, .int .i64 0, .int .i64 (-1)] 23)) w1.heap.size 23 #[.int .i64 1, .int .i64 0, .int .i64 (-1)]) := ⟨HB.out.1.alloc HB.out.1.size _, HB.out.2.alloc _, Blk.new _ _ _⟩
  clear HB
  generalize w1.heap.size = N at *
  generalize w1.alloc (.cells #[.int .i64 1, .int .i64 0, .int .i64 (-1)] 23) = W1 at *
  obtain ⟨c0, c1, c2, c3, c4, c5, c6, c7, c8, c9, c10⟩ := req_at HB2.out.2.1
  go_wp2_with fail
  refine (of_nil _ (HW.out.below HB2.out.1)).mono ?_
  rintro e w2 ⟨rfl, hb⟩
  clear c0 c1 c2 c3 c4 c5 c6 c7 c8 c9 c10
  have HB3 : Hid (Below w.heap.size w w2 ∧ Blk w2 N 23 #[.int .i64 1, .int .i64 0, .int .i64 (-1)]) := ⟨bthen HB2.out.1 hb (Nat.le_refl _), HB2.out.2.2.below hb⟩
  clear hb HB2
  go_upto_region 4 with (fail)
  have HB4 : Hid (Below w.heap.size w (w2.alloc (.cells #[.int .i64 0, .int .i64 0, .int .i64 0] 23)) ∧ Blk (w2.alloc (.cells #[.int .i64 0, .int .i64 0, .int .i64 0] 23)) N 23 #[.int .i64 1, .int .i64 0, .int .i64 (-1)]) := ⟨HB3.out.1.alloc HB3.out.1.size _, HB3.out.2.alloc _⟩
  clear HB3
  generalize w2.alloc (.cells #[.int .i64 0, .int .i64 0, .int .i64 0] 23) = W2 at *
  obtain ⟨n0, n1, n2⟩ := HB4.out.2.c3
  go_wp2_with fail
  refine (text_one _ (HW.out.below HB4.out.1)).mono ?_
  rintro e w3 ⟨rfl, hb⟩
  have HB5 := Lib.hid (bthen HB4.out.1 hb (Nat.le_refl _))
  clear hb n0 n1 n2 HB4
  go_wp2_with fail
  refine (text_none _ (HW.out.below HB5.out)).mono ?_
  rintro e w4 ⟨rfl, hb⟩
  have HB6 := Lib.hid (bthen HB5.out hb (Nat.le_refl _))
  clear hb HB5
  go_wp2_with fail
  go_ret
  exact ⟨rfl, HB6.out⟩
end
section
open Go.RowKit FracM

/-- of the old cells those below an end in P are as they were -/
structure Agree (P : Nat → Nat → Prop) (w w' : World) : Prop where
  size : w.heap.size ≤ w'.heap.size
  cell : ∀ b e o, P b e → b < w.heap.size → o < e → w'.cell? ⟨b, o, none⟩ = w.cell? ⟨b, o, none⟩
theorem Agree.of_below {P : Nat → Nat → Prop} {w w' : World} (h : Below w.heap.size w w') : Agree P w w' := ⟨h.size, fun b _ o _ hb _ => World.cell?_of_block (a := ⟨b, o, none⟩) (h.block b hb)⟩
theorem Agree.of_only {P : Nat → Nat → Prop} {g : Nat} {w w' : World} (h : Only g w w') (hP : ∀ b e, P b e → b ≠ g) : Agree P w w' := ⟨h.size, fun b e o hp hb _ => World.cell?_of_block (a := ⟨b, o, none⟩) (h.block b hb (hP b e hp))⟩
theorem Agree.of_lt {P : Nat → Nat → Prop} {B : Nat} {w w' : World} (h : Below B w w') (hP : ∀ b e, P b e → b < B) : Agree P w w' := ⟨h.size, fun b e o hp hb _ => World.cell?_of_block (a := ⟨b, o, none⟩) (h.block b (hP b e hp))⟩
theorem Agree.trans {P : Nat → Nat → Prop} {a b c : World} (h : Agree P a b) (k : Agree P b c) : Agree P a c :=
  ⟨Nat.le_trans h.size k.size, fun i e o hp hi ho => (k.cell i e o hp (Nat.lt_of_lt_of_le hi h.size) ho).trans (h.cell i e o hp hi ho)⟩

/-- the slice v has n elements of 'size' cells, the cells xs, in a block that P names with the end of these cells -/
def SeqP (w : World) (P : Nat → Nat → Prop) (size : Nat) (v : Value) (n : Nat) (xs : List Value) : Prop :=
  xs.length = n * size ∧ ∃ A c, v = .slice A n c ∧ n ≤ c ∧ c ≤ maxLen ∧
    (0 < n → ∃ b off, A = some ⟨b, off, none⟩ ∧ b < w.heap.size ∧ P b (off + n * size) ∧ ∀ j u, xs[j]? = some u → w.cell? ⟨b, off + j, none⟩ = some u)
theorem SeqP.keep {w w' : World} {P : Nat → Nat → Prop} {size n : Nat} {v : Value} {xs : List Value} (h : SeqP w P size v n xs) (f : Agree P w w') : SeqP w' P size v n xs := by
  obtain ⟨h1, A, c, hv, hn, hc, h2⟩ := h
  refine ⟨h1, A, c, hv, hn, hc, fun h0 => ?_⟩
  obtain ⟨b, off, hA, hb, hp, hx⟩ := h2 h0
  refine ⟨b, off, hA, Nat.lt_of_lt_of_le hb f.size, hp, fun j u hu => (f.cell b _ (off + j) hp hb ?_).trans (hx j u hu)⟩
  have := (List.getElem?_eq_some_iff.1 hu).1
  omega
theorem SeqP.mono {w : World} {P Q : Nat → Nat → Prop} {size n : Nat} {v : Value} {xs : List Value} (h : SeqP w P size v n xs) (hq : ∀ b e, b < w.heap.size → P b e → Q b e) : SeqP w Q size v n xs := by
  obtain ⟨h1, A, c, hv, hn, hc, h2⟩ := h
  refine ⟨h1, A, c, hv, hn, hc, fun h0 => ?_⟩
  obtain ⟨b, off, hA, hb, hp, hx⟩ := h2 h0
  exact ⟨b, off, hA, hb, hq b _ hb hp, hx⟩
theorem SeqP.seq {w : World} {P : Nat → Nat → Prop} {t size n : Nat} {v : Value} {xs : List Value} (h : SeqP w P size v n xs) : Seq w w.heap.size t size v n xs := by
  obtain ⟨h1, A, c, hv, hn, hc, h2⟩ := h
  refine ⟨h1, A, c, hv, hn, hc, fun h0 => ?_⟩
  obtain ⟨b, off, hA, hb, hp, hx⟩ := h2 h0
  exact ⟨b, off, hA, ⟨hb, .inl hb⟩, hx⟩
theorem SeqP.of_seq {w : World} {P : Nat → Nat → Prop} {base t size n : Nat} {v : Value} {xs : List Value} (h : Seq w base t size v n xs) (hq : ∀ b off n' c, v = .slice (some ⟨b, off, none⟩) n' c → P b (off + n' * size)) : SeqP w P size v n xs := by
  obtain ⟨h1, A, c, hv, hn, hc, h2⟩ := h
  refine ⟨h1, A, c, hv, hn, hc, fun h0 => ?_⟩
  obtain ⟨b, off, hA, hf, hx⟩ := h2 h0
  exact ⟨b, off, hA, hf.1, hq b off n c (by rw [hv, hA]), hx⟩
theorem SeqP.nil (w : World) (P : Nat → Nat → Prop) (size : Nat) : SeqP w P size (.slice none 0 0) 0 [] :=
  ⟨by simp, none, 0, rfl, Nat.le_refl _, by unfold maxLen; omega, fun h => absurd h (by omega)⟩
theorem SeqP.form {w : World} {P : Nat → Nat → Prop} {size n : Nat} {v : Value} {xs : List Value} (h : SeqP w P size v n xs) : ∃ A c, v = .slice A n c ∧ n ≤ 9223372036854775807 := by
  obtain ⟨_, A, c, hv, h1, h2, _⟩ := h
  unfold maxLen at h2
  exact ⟨A, c, hv, by omega⟩

abbrev ndC (d : Nd) (mv bv kv : Value) : Array Value := #[.int .i64 d.kind, .int .i64 d.fn, .int .i64 d.win, .int .i64 d.off, .int .i64 d.k, .int .i64 d.num, .int .i64 d.den, .string d.name, mv, bv, kv]
abbrev Sl := Value × Value × Value
def ndL (x : Tree × Sl) : List Value := (ndC x.1.d x.2.1 x.2.2.1 x.2.2.2).toList
/-- numbers and strings fit -/
structure NdOk (d : Nd) : Prop where
  ints : I64 d.kind ∧ I64 d.fn ∧ I64 d.win ∧ I64 d.off ∧ I64 d.k ∧ I64 d.num ∧ I64 d.den
  name : d.name.size ≤ maxLen
  ms : ∀ m ∈ d.ms, m.1.size ≤ maxLen ∧ m.2.2.size ≤ maxLen
  bys : ∀ s ∈ d.bys, s.size ≤ maxLen

inductive TreeAt (w : World) (P : Nat → Nat → Prop) : Tree → Sl → Prop
  | mk (d : Nd) (ks : List Tree) (mv bv kv : Value) (cs : List Sl) (hd : NdOk d)
      (hm : SeqP w P 3 mv d.ms.length (d.ms.flatMap matCells)) (hb : SeqP w P 1 bv d.bys.length (d.bys.map Value.string))
      (hl : cs.length = ks.length) (hk : SeqP w P 11 kv ks.length ((ks.zip cs).flatMap ndL))
      (hr : ∀ (i : Nat) (t : Tree) (c : Sl), ks[i]? = some t → cs[i]? = some c → TreeAt w P t c) : TreeAt w P (.node d ks) (mv, bv, kv)

theorem TreeAt.keep {w w' : World} {P : Nat → Nat → Prop} {t : Tree} {s : Sl} (h : TreeAt w P t s) (f : Agree P w w') : TreeAt w' P t s := by
  induction h with
  | mk d ks mv bv kv cs hd hm hb hl hk hr ih => exact .mk d ks mv bv kv cs hd (hm.keep f) (hb.keep f) hl (hk.keep f) ih
theorem TreeAt.mono {w : World} {P Q : Nat → Nat → Prop} {t : Tree} {s : Sl} (h : TreeAt w P t s) (hq : ∀ b e, b < w.heap.size → P b e → Q b e) : TreeAt w Q t s := by
  induction h with
  | mk d ks mv bv kv cs hd hm hb hl hk hr ih => exact .mk d ks mv bv kv cs hd (hm.mono hq) (hb.mono hq) hl (hk.mono hq) ih
theorem TreeAt.belo {w w' : World} {P : Nat → Nat → Prop} {t : Tree} {s : Sl} (h : TreeAt w P t s) (f : Below w.heap.size w w') : TreeAt w' P t s := h.keep (Agree.of_below f)

/-- a node in memory, opened -/
structure Nod (w : World) (P : Nat → Nat → Prop) (d : Nd) (ks : List Tree) (mv bv kv : Value) : Prop where
  ok : NdOk d
  ms : SeqP w P 3 mv d.ms.length (d.ms.flatMap matCells)
  bys : SeqP w P 1 bv d.bys.length (d.bys.map Value.string)
  kids : ∃ cs : List Sl, cs.length = ks.length ∧ SeqP w P 11 kv ks.length ((ks.zip cs).flatMap ndL) ∧ ∀ (i : Nat) (t : Tree) (c : Sl), ks[i]? = some t → cs[i]? = some c → TreeAt w P t c
theorem TreeAt.nod {w : World} {P : Nat → Nat → Prop} {d : Nd} {ks : List Tree} {mv bv kv : Value} (h : TreeAt w P (.node d ks) (mv, bv, kv)) : Nod w P d ks mv bv kv := by
  cases h with
  | mk _ _ _ _ _ cs hd hm hb hl hk hr => exact ⟨hd, hm, hb, cs, hl, hk, hr⟩
theorem Nod.tree {w : World} {P : Nat → Nat → Prop} {d : Nd} {ks : List Tree} {mv bv kv : Value} (h : Nod w P d ks mv bv kv) : TreeAt w P (.node d ks) (mv, bv, kv) := by
  obtain ⟨hd, hm, hb, cs, hl, hk, hr⟩ := h
  exact .mk d ks mv bv kv cs hd hm hb hl hk hr
theorem Nod.keep {w w' : World} {P : Nat → Nat → Prop} {d : Nd} {ks : List Tree} {mv bv kv : Value} (h : Nod w P d ks mv bv kv) (f : Agree P w w') : Nod w' P d ks mv bv kv := (h.tree.keep f).nod
theorem Nod.below {w w' : World} {P : Nat → Nat → Prop} {d : Nd} {ks : List Tree} {mv bv kv : Value} (h : Nod w P d ks mv bv kv) (f : Below w.heap.size w w') : Nod w' P d ks mv bv kv := (h.tree.belo f).nod
theorem Nod.kform {w : World} {P : Nat → Nat → Prop} {d : Nd} {ks : List Tree} {mv bv kv : Value} (h : Nod w P d ks mv bv kv) : ∃ A c, kv = .slice A ks.length c ∧ ks.length ≤ 9223372036854775807 := by
  obtain ⟨cs, _, hk, _⟩ := h.kids
  exact hk.form
/-- eleven cells -/
abbrev At11 (w : World) (b o : Nat) (d : Nd) (mv bv kv : Value) : Prop := w.cell? ⟨b, o, none⟩ = some (.int .i64 d.kind) ∧ w.cell? ⟨b, o + 1, none⟩ = some (.int .i64 d.fn) ∧ w.cell? ⟨b, o + 2, none⟩ = some (.int .i64 d.win) ∧ w.cell? ⟨b, o + 3, none⟩ = some (.int .i64 d.off) ∧ w.cell? ⟨b, o + 4, none⟩ = some (.int .i64 d.k) ∧ w.cell? ⟨b, o + 5, none⟩ = some (.int .i64 d.num) ∧ w.cell? ⟨b, o + 6, none⟩ = some (.int .i64 d.den) ∧ w.cell? ⟨b, o + 7, none⟩ = some (.string d.name) ∧ w.cell? ⟨b, o + 8, none⟩ = some mv ∧ w.cell? ⟨b, o + 9, none⟩ = some bv ∧ w.cell? ⟨b, o + 10, none⟩ = some kv
theorem Nod.kid {w : World} {P : Nat → Nat → Prop} {d : Nd} {ks : List Tree} {mv bv : Value} {A : Option Addr} {n c : Nat} (h : Nod w P d ks mv bv (.slice A n c)) (i : Nat) (e : Nd) (es : List Tree) (hi : ks[i]? = some (.node e es)) :
    ∃ b off mv' bv' kv', A = some ⟨b, off, none⟩ ∧ b < w.heap.size ∧ (∃ z, P b z) ∧ At11 w b (off + i * 11) e mv' bv' kv' ∧ TreeAt w P (.node e es) (mv', bv', kv') := by
  obtain ⟨cs, hl, hk, hr⟩ := h.kids
  have hlt : i < ks.length := (List.getElem?_eq_some_iff.1 hi).1
  obtain ⟨s, hs⟩ : ∃ s, cs[i]? = some s := ⟨cs[i]'(by omega), List.getElem?_eq_getElem _⟩
  obtain ⟨mv', bv', kv'⟩ := s
  obtain ⟨_, A', c', hv, _, _, h2⟩ := hk
  cases hv
  obtain ⟨b, off, rfl, hb, hp, hx⟩ := h2 (by omega)
  have hz : (ks.zip cs)[i]? = some (.node e es, mv', bv', kv') := by rw [List.getElem?_zip_eq_some]; exact ⟨hi, hs⟩
  refine ⟨b, off, mv', bv', kv', rfl, hb, ⟨_, hp⟩, ?_, hr i _ _ hi hs⟩
  have g := fun j (hj : j < 11) => flat_get ndL 11 (fun _ => rfl) (ks.zip cs) i j _ hz hj
  refine ⟨?_, ?_, ?_, ?_, ?_, ?_, ?_, ?_, ?_, ?_, ?_⟩
  · exact hx _ _ ((g 0 (by omega)).trans rfl)
  · rw [Nat.add_assoc]; exact hx _ _ ((g 1 (by omega)).trans rfl)
  · rw [Nat.add_assoc]; exact hx _ _ ((g 2 (by omega)).trans rfl)
  · rw [Nat.add_assoc]; exact hx _ _ ((g 3 (by omega)).trans rfl)
  · rw [Nat.add_assoc]; exact hx _ _ ((g 4 (by omega)).trans rfl)
  · rw [Nat.add_assoc]; exact hx _ _ ((g 5 (by omega)).trans rfl)
  · rw [Nat.add_assoc]; exact hx _ _ ((g 6 (by omega)).trans rfl)
  · rw [Nat.add_assoc]; exact hx _ _ ((g 7 (by omega)).trans rfl)
  · rw [Nat.add_assoc]; exact hx _ _ ((g 8 (by omega)).trans rfl)
  · rw [Nat.add_assoc]; exact hx _ _ ((g 9 (by omega)).trans rfl)
  · rw [Nat.add_assoc]; exact hx _ _ ((g 10 (by omega)).trans rfl)
theorem blk11 {W : World} {g : Nat} {t : TypeId} {d : Nd} {mv bv kv : Value} (h : Blk W g t (ndC d mv bv kv)) : At11 W g 0 d mv bv kv := by
  unfold Blk at h
  refine ⟨?_, ?_, ?_, ?_, ?_, ?_, ?_, ?_, ?_, ?_, ?_⟩ <;> simp [World.cell?, h]
/-- what a function over a tree holds: the node's own copy (the first block it allots), the tree -/
structure N1 (w W : World) (P : Nat → Nat → Prop) (d : Nd) (ks : List Tree) (mv bv kv : Value) : Prop where
  below : Below w.heap.size w W
  blk : Blk W w.heap.size 38 (ndC d mv bv kv)
  nod : Nod W P d ks mv bv kv
theorem N1.next {w W W' : World} {P : Nat → Nat → Prop} {d : Nd} {ks : List Tree} {mv bv kv : Value} (h : N1 w W P d ks mv bv kv) (hb : Below W.heap.size W W') : N1 w W' P d ks mv bv kv :=
  ⟨bthen h.below hb (Nat.le_refl _), h.blk.below hb, h.nod.below hb⟩
theorem N1.start {w : World} {P : Nat → Nat → Prop} {d : Nd} {ks : List Tree} {mv bv kv : Value} (h : TreeAt w P (.node d ks) (mv, bv, kv)) : N1 w (w.alloc (.cells (ndC d mv bv kv) 38)) P d ks mv bv kv :=
  ⟨bel1 _ _, Blk.new _ _ _, (h.belo (bel1 _ _)).nod⟩
theorem N1.c {w W : World} {P : Nat → Nat → Prop} {d : Nd} {ks : List Tree} {mv bv kv : Value} (h : N1 w W P d ks mv bv kv) : At11 W w.heap.size 0 d mv bv kv := blk11 h.blk
end
section
open Go.RowKit FracM

def numsL : List Int := [0, 1, 2, 7, 10, 1073741824]
inductive GoodN (ns : List ByteArray) (most : Int) : Nd → Nat → Prop
  | num (x : Int) (h : x ∈ numsL) : GoodN ns most ⟨0, 0, 0, 0, 0, x, 1, ⟨#[]⟩, [], []⟩ 0
  | sel (fn win off k : Int) (nm : ByteArray) (ms : List Mat) (h1 : 0 ≤ fn) (h2 : fn < 8) (hn : nm ∈ ns) (ho : 0 ≤ off) (ho2 : off ≤ most)
      (hw : (fn = 0 ∧ win = 0) ∨ (fn ≠ 0 ∧ 1 ≤ win ∧ win ≤ most)) (hk : (fn ≠ 7 ∧ k = 0) ∨ (fn = 7 ∧ 1 ≤ k ∧ k ≤ win)) (hl : ms.length ≤ 3) (hm : ∀ m ∈ ms, GoodMat m) :
      GoodN ns most ⟨1, fn, win, off, k, 0, 0, nm, ms, []⟩ 0
  | grp (fn k : Int) (bys : List ByteArray) (h1 : 0 ≤ fn) (h2 : fn < 5) (hk : (fn ≠ 4 ∧ k = 0) ∨ (fn = 4 ∧ 1 ≤ k ∧ k ≤ 3)) (hb : bys.Sublist namesL) : GoodN ns most ⟨2, fn, 0, 0, k, 0, 0, ⟨#[]⟩, [], bys⟩ 1
  | bin (fn : Int) (h1 : 0 ≤ fn) (h2 : fn < 4) : GoodN ns most ⟨3, fn, 0, 0, 0, 0, 0, ⟨#[]⟩, [], []⟩ 2
inductive GoodT (ns : List ByteArray) (most : Int) : Tree → Prop
  | mk (d : Nd) (ks : List Tree) (h : GoodN ns most d ks.length) (hk : ∀ t ∈ ks, GoodT ns most t) : GoodT ns most (.node d ks)

theorem bys_ok (p : Option ByteArray) (l : List ByteArray) (h1 : ∀ x ∈ l, nameB x = true) (h2 : l.Pairwise fun a b => leS b a = false) (h3 : ∀ y, p = some y → ∀ x ∈ l, leS x y = false) : bysFrom p l = true := by
  induction l generalizing p with
  | nil => rfl
  | cons x xs ih =>
    rw [List.pairwise_cons] at h2
    have e : bysFrom (some x) xs = true := ih (some x) (fun z hz => h1 z (by simp [hz])) h2.2 (fun y hy z hz => by cases hy; exact h2.1 z hz)
    cases p with
    | none => rw [bysFrom.eq_def]; simp [h1 x (by simp), e]
    | some y => rw [bysFrom.eq_def]; simp [h1 x (by simp), e, h3 y rfl x (by simp)]
theorem namesL_sorted : namesL.Pairwise fun a b => leS b a = false := by decide +kernel
theorem bys_sub {l : List ByteArray} (h : l.Sublist namesL) : bysB l = true :=
  bys_ok none l (fun x hx => (namesL_ok x (h.subset hx)).1) (namesL_sorted.sublist h) (fun y hy => by cases hy)
def NamesOk (ns : List ByteArray) : Prop := ∀ x ∈ ns, nameB x = true ∧ inGroups x = false ∧ x.size ≤ 16
theorem num_valid : ∀ x ∈ numsL, validB x 1 = true := by
  intro x hx
  rw [valid_iff]
  simp [numsL] at hx
  unfold M
  rcases hx with rfl | rfl | rfl | rfl | rfl | rfl <;> exact ⟨by omega, by omega, by omega, by simp⟩
theorem good_chk1 {ns : List ByteArray} {most : Int} {d : Nd} {n : Nat} (h : GoodN ns most d n) (hn : NamesOk ns) (hm : most ≤ 4096) : chk1 d n = 0 := by
  cases h with
  | num x hx =>
    have hv := num_valid x hx
    unfold chk1
    rw [if_neg (by simp [shapedB, noSelB, hv, ByteArray.toList_eq]), if_neg (by simp [namedB, bysB, bysFrom]), if_neg (by simp), if_neg (by simp [rangedB])]
  | sel fn win off k nm ms h1 h2 hnm ho ho2 hw hk hl hms =>
    obtain ⟨n1, n2, _⟩ := hn nm hnm
    have hb : bysB [] = true := rfl
    have hv : ms.all vmatB = true := by rw [List.all_eq_true]; exact fun m hm => (hms m hm).valid
    unfold chk1
    rw [if_neg (by simp [shapedB, noNumB]; omega), if_neg (by simp [namedB, n1, n2, hb]; exact fun a b c hm => (hms _ hm).valid), if_neg (by simp; omega)]
    rw [if_neg]
    simp only [rangedB]
    rcases hw with ⟨w1, w2⟩ | ⟨w1, w2, w3⟩
    · have : k = 0 := by omega
      simp [w1, w2, this, ho]; omega
    · rcases hk with ⟨k1, k2⟩ | ⟨k1, k2, k3⟩
      · simp [w1, k1, k2, ho]; omega
      · simp [w1, k1, ho]; omega
  | grp fn k bys h1 h2 hk hb =>
    have hv := bys_sub hb
    have hl : bys.length ≤ 6 := by simpa [namesL] using hb.length_le
    unfold chk1
    rw [if_neg (by simp [shapedB, noNumB, noSelB, ByteArray.toList_eq]; omega), if_neg (by simp [namedB, hv]), if_neg (by simp; omega)]
    rw [if_neg]
    simp only [rangedB]
    rcases hk with ⟨k1, k2⟩ | ⟨k1, k2, k3⟩
    · simp [k1, k2]
    · simp [k1]; omega
  | bin fn h1 h2 =>
    unfold chk1
    rw [if_neg (by simp [shapedB, noNumB, noSelB, ByteArray.toList_eq]; omega), if_neg (by simp [namedB, bysB, bysFrom]), if_neg (by simp), if_neg (by simp [rangedB])]
theorem chkL_zero {ts : List Tree} (h : ∀ t ∈ ts, chk t = 0) : chkL ts = 0 := by
  induction ts with
  | nil => rfl
  | cons t ts ih => rw [chkL, if_pos (h t (by simp)), ih (fun x hx => h x (by simp [hx]))]
theorem good_chk {ns : List ByteArray} {most : Int} (hn : NamesOk ns) (hm : most ≤ 4096) {t : Tree} (h : GoodT ns most t) : chk t = 0 := by
  induction h with
  | mk d ks h hk ih => rw [chk, if_pos (good_chk1 h hn hm), chkL_zero ih]
theorem good_valid {ns : List ByteArray} {most : Int} (hn : NamesOk ns) (hm : most ≤ 4096) {t : Tree} (h : GoodT ns most t) (h1 : dep t ≤ 12) (h2 : nds t ≤ 200) : validE t = 0 := by
  unfold validE fitB
  rw [decide_eq_true h2, decide_eq_true h1]
  simpa using good_chk hn hm h
/-- numbers and strings fit -/
theorem good_ok1 {ns : List ByteArray} {most : Int} {d : Nd} {n : Nat} (h : GoodN ns most d n) (hn : NamesOk ns) (hm : most ≤ 4096) : -9223372036854775808 ≤ d.k ∧ d.k ≤ 4096 ∧ (∀ m ∈ d.ms, m.1.size ≤ maxLen ∧ m.2.2.size ≤ maxLen) ∧ (∀ s ∈ d.bys, s.size ≤ maxLen) := by
  cases h with
  | num x hx => exact ⟨by simp, by simp, by simp, by simp⟩
  | sel fn win off k nm ms h1 h2 hnm ho ho2 hw hk hl hms => exact ⟨by simp only; omega, by simp only; omega, fun m hm => (good_ok (by omega) hms).2 m hm, by simp⟩
  | grp fn k bys h1 h2 hk hb => exact ⟨by simp only; omega, by simp only; omega, by simp, fun s hs => by have := (namesL_ok s (hb.subset hs)).2; unfold maxLen; omega⟩
  | bin fn h1 h2 => exact ⟨by simp, by simp, by simp, by simp⟩
def ns3 : List ByteArray := [⟨#[99, 112, 117]⟩, ⟨#[109, 101, 109]⟩, ⟨#[97]⟩]
def ns1 : List ByteArray := [⟨#[99, 112, 117]⟩]
theorem ns3_ok : NamesOk ns3 := by unfold NamesOk; decide +kernel
theorem ns1_ok : NamesOk ns1 := by unfold NamesOk; decide +kernel
end
section
open Go.RowKit FracM

def NotB (g : Nat) : Nat → Nat → Prop := fun b _ => b < g
/-- the generator in block g: its numbers, the index of the next one, its names, its greatest window -/
structure GenAt (w : World) (g : Nat) (i : Int) (lv nv : Value) (l : List Int) (ns : List ByteArray) (most : Int) : Prop where
  blk : Blk w g 81 #[lv, .int .i64 i, nv, .int .i64 most]
  ints : SeqP w (NotB g) 1 lv l.length (l.map (Value.int .i64))
  fit : ∀ x ∈ l, I64 x
  strs : SeqP w (NotB g) 1 nv ns.length (ns.map Value.string)
theorem GenAt.only {w w' : World} {g : Nat} {i i' : Int} {lv nv : Value} {l : List Int} {ns : List ByteArray} {most : Int} (h : GenAt w g i lv nv l ns most) (f : Only g w w') (hb : Blk w' g 81 #[lv, .int .i64 i', nv, .int .i64 most]) : GenAt w' g i' lv nv l ns most :=
  ⟨hb, h.ints.keep (Agree.of_only f fun _ _ h => Nat.ne_of_lt h), h.fit, h.strs.keep (Agree.of_only f fun _ _ h => Nat.ne_of_lt h)⟩
theorem GenAt.below {w w' : World} {g : Nat} {i : Int} {lv nv : Value} {l : List Int} {ns : List ByteArray} {most : Int} (h : GenAt w g i lv nv l ns most) (f : Below w.heap.size w w') : GenAt w' g i lv nv l ns most :=
  h.only (Only.of_below f) (h.blk.below f)
/-- only blocks above g turn -/
theorem GenAt.above {w w' : World} {g : Nat} {i : Int} {lv nv : Value} {l : List Int} {ns : List ByteArray} {most : Int} (h : GenAt w g i lv nv l ns most) (f : Below (g + 1) w w') : GenAt w' g i lv nv l ns most :=
  ⟨(f.block g (Nat.lt_succ_self g)).trans h.blk, h.ints.keep (Agree.of_lt f fun _ _ h => Nat.lt_succ_of_lt h), h.fit, h.strs.keep (Agree.of_lt f fun _ _ h => Nat.lt_succ_of_lt h)⟩
theorem GenAt.drew {w : World} {g : Nat} {i : Int} {lv nv : Value} {l : List Int} {ns : List ByteArray} {most : Int} (h : GenAt w g i lv nv l ns most) : GenAt w.drew g i lv nv l ns most := h.below (below_drewN w 1)
theorem GenAt.allocd {w : World} {g : Nat} {i : Int} {lv nv : Value} {l : List Int} {ns : List ByteArray} {most : Int} (h : GenAt w g i lv nv l ns most) (o : Obj) : GenAt (w.alloc o).drew g i lv nv l ns most := (h.below (bel1 w o)).drew
theorem GenAt.alloc {w : World} {g : Nat} {i : Int} {lv nv : Value} {l : List Int} {ns : List ByteArray} {most : Int} (h : GenAt w g i lv nv l ns most) (o : Obj) : GenAt (w.alloc o) g i lv nv l ns most := h.below (bel1 w o)
theorem GenAt.c {w : World} {g : Nat} {i : Int} {lv nv : Value} {l : List Int} {ns : List ByteArray} {most : Int} (h : GenAt w g i lv nv l ns most) : w.cell? ⟨g, 0, none⟩ = some lv ∧ w.cell? ⟨g, 1, none⟩ = some (.int .i64 i) ∧ w.cell? ⟨g, 2, none⟩ = some nv ∧ w.cell? ⟨g, 3, none⟩ = some (.int .i64 most) := by
  have hb := h.blk
  unfold Blk at hb; simp [World.cell?, hb]
structure OnlyS (g : Nat) (w w' : World) : Prop where
  only : Only g w w'
  size : w'.heap.size = w.heap.size
theorem OnlyS.trans {g : Nat} {a b c : World} (h : OnlyS g a b) (k : OnlyS g b c) : OnlyS g a c := ⟨h.only.trans k.only, k.size.trans h.size⟩
def RetN (g : Nat) (lv nv : Value) (l : List Int) (ns : List ByteArray) (most i m : Int) (w : World) (e : Ending) (w' : World) : Prop :=
  e = .returned (.int .i64 (pickZ l i m)) ∧ GenAt w' g (i + 1) lv nv l ns most ∧ OnlyS g w w'
theorem pick_same (A : Option Addr) (n c base : Nat) (l : List Int) (i most : Int) (w : World) (h : Ints w base (.slice A n c) l) (h1 : 1 ≤ most) (h2 : most ≤ 9223372036854775807) :
    Calls Tryd.prog 31 #[.slice A n c, .int .i64 i, .int .i64 most] w fun e w' => e = .returned (.int .i64 (pickZ l i most)) ∧ w' = w := (pick_any A n c base l i most w h h1 h2).mono fun _ _ ⟨a, b⟩ => ⟨a, b.symm⟩
set_option maxHeartbeats 1000000 in
theorem next_any (g : Nat) (lv nv : Value) (l : List Int) (ns : List ByteArray) (most i m : Int) (w : World) (h : GenAt w g i lv nv l ns most) (hi : 0 ≤ i) (hi2 : i ≤ 1000000) (h1 : 1 ≤ m) (h2 : m ≤ 9223372036854775807) :
    Calls Tryd.prog 58 #[.pointer (some ⟨g, 0, none⟩), .int .i64 m] w (RetN g lv nv l ns most i m w) := by
  obtain ⟨c0, c1, c2, c3⟩ := h.c
  have cf := h.blk.frozen
  have HG := Box.mk h
  have hs : OnlyS g w (w.setCell ⟨g, 1, none⟩ (.int .i64 (i + 1))) := ⟨Only.setCell 1 _, by simp [World.setCell]⟩
  have hb : Blk (w.setCell ⟨g, 1, none⟩ (.int .i64 (i + 1))) g 81 #[lv, .int .i64 (i + 1), nv, .int .i64 most] := by simpa using h.blk.set 1 (.int .i64 (i + 1))
  have HG2 := Box.mk (h.only hs.only hb)
  obtain ⟨A, c, hlv, -⟩ := HG2.out.ints.form
  have HI : Box (Ints (w.setCell ⟨g, 1, none⟩ (.int .i64 (i + 1))) (w.setCell ⟨g, 1, none⟩ (.int .i64 (i + 1))).heap.size (.slice A l.length c) l) := ⟨by
    have := HG2.out.ints; rw [hlv] at this; exact ⟨this.seq, HG2.out.fit⟩⟩
  have HS := Box.mk hs
  clear h hs hb
  subst hlv
  go_enter Tryd.func58, Tryd.ntmps58
  go_upto_region 2 with (fail)
  obtain ⟨d0, d1, d2, d3⟩ := HG2.out.c
  generalize w.setCell ⟨g, 1, none⟩ (.int .i64 (i + 1)) = W at *
  clear c0 c1 c2 c3
  have t1 : IntKind.i64.wrap (i + 1 - 1) = i := by rw [show i + 1 - 1 = i by omega]; exact W64_in (by omega) (by omega)
  go_quiet ((go_at_call 31; exact Calls.quiet_of_same (pick_same _ _ _ _ l _ _ _ HI.out h1 h2)))
  go_wp2
  go_ret
  exact ⟨rfl, HG2.out.below (below_drewN _ _), ⟨HS.out.only.trans (Only.of_below (below_drewN _ _)), HS.out.size⟩⟩
end
end Go.Proofs.YtgomgoacponbkaaDoor
