/- Contracts, packed: Js Ju. -/
import Derived.Test.YthoibeajhdhdhaaDoorPr48
import Derived.Test.YthoibeajhdhdhaaDoorPr49
import Derived.Test.YthoibeajhdhdhaaDoorPr50
import Derived.Test.YthoibeajhdhdhaaDoorPr51
import Derived.Test.YthoibeajhdhdhaaDoorPr52
set_option linter.unusedVariables false
set_option linter.unusedSimpArgs false
namespace Go.Proofs.YthoibeajhdhdhaaDoor
section
open Go.RowKit FracM

/-- a variable that holds a tree -/
structure TBp (W : World) (g : Nat) (t : Tree) (s : Sl) : Prop where
  box : Blk W g 29 (ndC t.d s.1 s.2.1 s.2.2)
  tr : TreeAt W AnyP t s
theorem TBp.next {W W' : World} {g : Nat} {t : Tree} {s : Sl} (h : TBp W g t s) (hb : Below W.heap.size W W') : TBp W' g t s := ⟨h.box.below hb, (h.tr.low.keep (Agree.of_below hb)).mono fun _ _ _ _ => trivial⟩
theorem TBp.new {W : World} {t : Tree} {s : Sl} (h : TreeAt W AnyP t s) : TBp (W.alloc (.cells (ndC t.d s.1 s.2.1 s.2.2) 29)) W.heap.size t s := ⟨Blk.new _ _ _, (h.low.keep (Agree.of_below (bel1 _ _))).mono fun _ _ _ _ => trivial⟩
abbrev opsC : Array Value := #[.string ⟨#[43]⟩, .string ⟨#[45]⟩, .string ⟨#[42]⟩, .string ⟨#[47]⟩]
abbrev pxC (x : UInt8) : Array Value := #[.int .i64 1, .int .i64 0, .int .i64 0, .int .i64 0, .int .i64 0, .int .i64 0, .int .i64 0, .string ⟨#[x]⟩, .slice none 0 0, .slice none 0 0, .slice none 0 0]
structure PA (ty : Nat) (W : World) (gl ga gb gc : Nat) : Prop where
  l : Blk W gl ty opsC
  a : Blk W ga 29 (pxC 97)
  b : Blk W gb 29 (pxC 98)
  c : Blk W gc 29 (pxC 99)
theorem PA.next {ty : Nat} {W W' : World} {gl ga gb gc : Nat} (h : PA ty W gl ga gb gc) (hb : Below W.heap.size W W') : PA ty W' gl ga gb gc := ⟨h.l.below hb, h.a.below hb, h.b.below hb, h.c.below hb⟩
def wPA (w : World) (ty : Nat) : World := (((w.alloc (.cells opsC ty)).alloc (.cells (pxC 97) 29)).alloc (.cells (pxC 98) 29)).alloc (.cells (pxC 99) 29)
theorem PA.new (w : World) (ty : Nat) : PA ty (wPA w ty) w.heap.size (w.heap.size + 1) (w.heap.size + 1 + 1) (w.heap.size + 1 + 1 + 1) ∧ Below w.heap.size w (wPA w ty) ∧ (wPA w ty).heap.size = w.heap.size + 4 := by
  unfold wPA
  have h1 : Blk (w.alloc (.cells opsC ty)) w.heap.size ty opsC := Blk.new _ _ _
  have z1 : (w.alloc (.cells opsC ty)).heap.size = w.heap.size + 1 := by simp
  have b1 := bel1 w (.cells opsC ty)
  generalize w.alloc (.cells opsC ty) = w1 at *
  have h2 : Blk (w1.alloc (.cells (pxC 97) 29)) w1.heap.size 29 (pxC 97) := Blk.new _ _ _
  have z2 : (w1.alloc (.cells (pxC 97) 29)).heap.size = w1.heap.size + 1 := by simp
  have b2 := bel1 w1 (.cells (pxC 97) 29)
  generalize w1.alloc (.cells (pxC 97) 29) = w2 at *
  have h3 : Blk (w2.alloc (.cells (pxC 98) 29)) w2.heap.size 29 (pxC 98) := Blk.new _ _ _
  have z3 : (w2.alloc (.cells (pxC 98) 29)).heap.size = w2.heap.size + 1 := by simp
  have b3 := bel1 w2 (.cells (pxC 98) 29)
  generalize w2.alloc (.cells (pxC 98) 29) = w3 at *
  have h4 : Blk (w3.alloc (.cells (pxC 99) 29)) w3.heap.size 29 (pxC 99) := Blk.new _ _ _
  have z4 : (w3.alloc (.cells (pxC 99) 29)).heap.size = w3.heap.size + 1 := by simp
  have b4 := bel1 w3 (.cells (pxC 99) 29)
  generalize w3.alloc (.cells (pxC 99) 29) = w4 at *
  rw [show w.heap.size + 1 + 1 + 1 = w3.heap.size by omega, show w.heap.size + 1 + 1 = w2.heap.size by omega, show w.heap.size + 1 = w1.heap.size by omega]
  exact ⟨⟨((h1.below b2).below b3).below b4, (h2.below b3).below b4, h3.below b4, h4⟩, bthen (bthen (bthen b1 b2 (by omega)) b3 (by omega)) b4 (by omega), by omega⟩
abbrev k2 (g : Nat) : Value := .slice (some ⟨g, 0, none⟩) 2 2
/-- the law's state: the operators' slice and the trees' variables -/
structure Ss (ty : Nat) (w W : World) (g0 : Nat) (l : List (Nat × Tree × Sl)) : Prop where
  below : Below w.heap.size w W
  ops : Blk W g0 ty opsC
  tb : ∀ x ∈ l, TBp W x.1 x.2.1 x.2.2
theorem Ss.next {ty : Nat} {w W W' : World} {g0 : Nat} {l : List (Nat × Tree × Sl)} (h : Ss ty w W g0 l) (hb : Below W.heap.size W W') : Ss ty w W' g0 l := ⟨bthen h.below hb (Nat.le_refl _), h.ops.below hb, fun x hx => (h.tb x hx).next hb⟩
theorem Ss.drew {ty : Nat} {w W : World} {g0 : Nat} {l : List (Nat × Tree × Sl)} (h : Ss ty w W g0 l) : Ss ty w W.drew g0 l := h.next (below_drewN W 1)
theorem Ss.cons {ty : Nat} {w W W1 : World} {g0 : Nat} {l : List (Nat × Tree × Sl)} {P : Nat → Nat → Prop} {T : Tree} {mv bv kv : Value} (h : Ss ty w W g0 l) (hT : TreeAt W1 P T (mv, bv, kv)) (hb : Below W.heap.size W W1) : Ss ty w (W1.alloc (.cells (ndC T.d mv bv kv) 29)) g0 ((W1.heap.size, T, (mv, bv, kv)) :: l) := by
  have h2 := (h.next hb).next (bel1 W1 (.cells (ndC T.d mv bv kv) 29))
  have hn : TBp (W1.alloc (.cells (ndC T.d mv bv kv) 29)) W1.heap.size T (mv, bv, kv) := TBp.new (s := (mv, bv, kv)) (hT.mono fun _ _ _ _ => trivial)
  refine ⟨h2.below, h2.ops, fun x hx => ?_⟩
  rcases List.mem_cons.1 hx with rfl | hx
  · exact hn
  · exact h2.tb x hx
theorem Ss.put {ty : Nat} {w W0 W1 : World} {g0 : Nat} {l : List (Nat × Tree × Sl)} {P : Nat → Nat → Prop} {T : Tree} {d : Nd} {ks : List Tree} {mv bv kv a0 a1 a2 a3 a4 a5 a6 a7 a8 a9 a10 : Value} (h : Ss ty w W0 g0 l) (hb : Below W0.heap.size W0 W1) (hz : Blk W1 W0.heap.size 29 #[a0, a1, a2, a3, a4, a5, a6, a7, a8, a9, a10]) (hTe : T = .node d ks) (hT : TreeAt W1 P (.node d ks) (mv, bv, kv)) (hP : ∀ b (e : Nat), P b e → b ≠ W0.heap.size) :
    Ss ty w (put11 W1 W0.heap.size (.int .i64 d.kind) (.int .i64 d.fn) (.int .i64 d.win) (.int .i64 d.off) (.int .i64 d.k) (.int .i64 d.num) (.int .i64 d.den) (.string d.name) mv bv kv) g0 ((W0.heap.size, T, (mv, bv, kv)) :: l) := by
  subst hTe
  have ho : Only W0.heap.size W1 (put11 W1 W0.heap.size (.int .i64 d.kind) (.int .i64 d.fn) (.int .i64 d.win) (.int .i64 d.off) (.int .i64 d.k) (.int .i64 d.num) (.int .i64 d.den) (.string d.name) mv bv kv) := put11_only ..
  have hbl : Blk (put11 W1 W0.heap.size (.int .i64 d.kind) (.int .i64 d.fn) (.int .i64 d.win) (.int .i64 d.off) (.int .i64 d.k) (.int .i64 d.num) (.int .i64 d.den) (.string d.name) mv bv kv) W0.heap.size 29 (ndC d mv bv kv) := put11_blk hz
  generalize put11 W1 W0.heap.size (.int .i64 d.kind) (.int .i64 d.fn) (.int .i64 d.win) (.int .i64 d.off) (.int .i64 d.k) (.int .i64 d.num) (.int .i64 d.den) (.string d.name) mv bv kv = W' at *
  have h2 := h.next (hb.trans (ho.below (Nat.le_refl _) hb.size))
  refine ⟨h2.below, h2.ops, fun x hx => ?_⟩
  rcases List.mem_cons.1 hx with rfl | hx
  · exact ⟨hbl, (hT.keep (Agree.of_only ho hP)).mono fun _ _ _ _ => trivial⟩
  · exact h2.tb x hx
end
section
open Go.RowKit FracM

theorem Ints.toPr {w : World} {v : Value} {l : List Int} (h : Ints w w.heap.size v l) : IntsP w v l := by
  obtain ⟨⟨h1, A, c, hv, hn, hc, hx⟩, hz⟩ := h
  refine ⟨⟨h1, A, c, hv, hn, hc, fun h0 => ?_⟩, hz⟩
  obtain ⟨b, off, hA, hf, hcl⟩ := hx h0
  exact ⟨b, off, hA, hf.1, hf.1, hcl⟩
theorem lst_bsL (l : List UInt8) : lst (bsL l) = l := by unfold bsL; simp [lst]
/-- what is known of a tree that the generator made -/
theorem round_facts {t : Tree} (h : GoodT ns6 4096 t) (h1 : dep t ≤ 4) (h2 : nds t ≤ 15) : ∃ z : ByteArray,
    Box (∀ W' s', TreeAt W' AnyP t s' → LibP W' → Calls Tryd.prog 7 #[.agg (ndC t.d s'.1 s'.2.1 s'.2.2)] W' (RetB (.tuple #[.string z, .int .i64 0]) W')) ∧
    Box (∀ W', WordsV W' → Calls Tryd.prog 8 #[.string z] W' fun e w' => ∃ mv bv kv, e = .returned (.tuple #[.agg (ndC t.d mv bv kv), .int .i64 0, .int .i64 0]) ∧ TreeAt w' (fun b _ => W'.heap.size ≤ b) t (mv, bv, kv) ∧ Below W'.heap.size W' w') ∧
    Box (∀ W' s', TreeAt W' AnyP t s' → WordsG W' → Calls Tryd.prog 10 #[.agg (ndC t.d s'.1 s'.2.1 s'.2.2)] W' (RetB (.int .i64 0) W')) ∧
    Box (∀ W' s' r', TreeAt W' AnyP t s' → TreeAt W' AnyP t r' → Calls Tryd.prog 9 #[.agg (ndC t.d s'.1 s'.2.1 s'.2.2), .agg (ndC t.d r'.1 r'.2.1 r'.2.2)] W' (RetB (.bool true) W')) := by
  obtain ⟨g1, g2, g3⟩ := good_round ns6_ok (by omega) h (by omega) (by omega)
  have gv := good_valid ns6_ok (by omega) h (by omega) (by omega)
  refine ⟨bsL (showT t), ⟨fun W' s' hT hl => print_at t (showT t) 0 AnyP W' s' hT hl g1⟩, ⟨fun W' hw => parse_at _ t 0 0 W' ?_ hw (by rw [lst_bsL]; exact g2)⟩, ⟨fun W' s' hT hg => ?_⟩, ⟨fun W' s' r' h1 h2 => ?_⟩⟩
  · rw [← data_size, show (bsL (showT t)).data.toList = showT t from lst_bsL _]; unfold maxLen; omega
  · have h := pvalid_any t AnyP W' s' hT hg
    rw [gv] at h
    exact h
  · have h := pequal_any t t AnyP AnyP W' s' r' h1 h2
    rw [eqT_refl] at h
    exact h
structure S2 (w W : World) (l : List (Nat × Tree × Sl)) : Prop where
  below : Below w.heap.size w W
  tb : ∀ x ∈ l, TBp W x.1 x.2.1 x.2.2
theorem S2.next {w W W' : World} {l : List (Nat × Tree × Sl)} (h : S2 w W l) (hb : Below W.heap.size W W') : S2 w W' l := ⟨bthen h.below hb (Nat.le_refl _), fun x hx => (h.tb x hx).next hb⟩
theorem S2.drew {w W : World} {l : List (Nat × Tree × Sl)} (h : S2 w W l) : S2 w W.drew l := h.next (below_drewN W 1)
theorem S2.cons {w W W1 : World} {l : List (Nat × Tree × Sl)} {P : Nat → Nat → Prop} {d : Nd} {ks : List Tree} {mv bv kv : Value} (h : S2 w W l) (hT : TreeAt W1 P (.node d ks) (mv, bv, kv)) (hb : Below W.heap.size W W1) : S2 w (W1.alloc (.cells (ndC d mv bv kv) 29)) ((W1.heap.size, .node d ks, (mv, bv, kv)) :: l) := by
  have h2 := (h.next hb).next (bel1 W1 (.cells (ndC d mv bv kv) 29))
  have hn : TBp (W1.alloc (.cells (ndC d mv bv kv) 29)) W1.heap.size (.node d ks) (mv, bv, kv) := TBp.new (t := .node d ks) (s := (mv, bv, kv)) (hT.mono fun _ _ _ _ => trivial)
  refine ⟨h2.below, fun x hx => ?_⟩
  rcases List.mem_cons.1 hx with rfl | hx
  · exact hn
  · exact h2.tb x hx
theorem S2.nil (w : World) : S2 w w [] := ⟨Below.refl _ _, fun x hx => by cases hx⟩
theorem S2.at0 {w W : World} {x : Nat × Tree × Sl} {l : List (Nat × Tree × Sl)} (h : S2 w W (x :: l)) : TBp W x.1 x.2.1 x.2.2 := h.tb x (by simp)
theorem S2.at1 {w W : World} {x y : Nat × Tree × Sl} {l : List (Nat × Tree × Sl)} (h : S2 w W (y :: x :: l)) : TBp W x.1 x.2.1 x.2.2 := h.tb x (by simp)
set_option maxHeartbeats 8000000 in
set_option maxRecDepth 100000 in
theorem parserRound_walk (AL : Option Addr) (nl cl : Nat) (ll : List Int) (w : World) (hw : LibP w) (h1 : Ints w w.heap.size (.slice AL nl cl) ll) :
    Calls Tryd.prog 3 #[.slice AL nl cl] w fun e w' => e = .returned (.bool true) ∧ Below w.heap.size w w' := by
  have HW := Box.mk hw
  have HL := Box.mk h1.toPr
  clear hw h1
  go_enter Tryd.func3, Tryd.ntmps3
  go_wp2_with fail
  refine (expr0_any _ ll _ HL.out).mono ?_
  rintro e0 w1 ⟨t, s, rfl, htree, hgt, hdp, hnd, hb1⟩
  obtain ⟨z, CP, CA, CV, CE⟩ := round_facts hgt hdp hnd
  obtain ⟨d, ks⟩ := t
  obtain ⟨q1, q2, q3⟩ := s
  obtain ⟨A1, n1, rfl, -⟩ := htree.form.1
  obtain ⟨A2, n2, rfl, -⟩ := htree.form.2.1
  obtain ⟨A3, n3, rfl, -⟩ := htree.form.2.2
  simp only [Tree.d]
  have hT : TreeAt w1 AnyP (.node d ks) (.slice A1 d.ms.length n1, .slice A2 d.bys.length n2, .slice A3 ks.length n3) := by
    obtain ⟨L, h⟩ := htree
    exact h.tree.mono fun _ _ _ _ => trivial
  have HS := Box.mk ((S2.nil w).cons hT hb1)
  clear htree hgt hdp hnd hb1 hT HL
  go_upto_region 2 with (fail)
  generalize w1.heap.size = g1 at *
  generalize w1.alloc (.cells (ndC d (.slice A1 d.ms.length n1) (.slice A2 d.bys.length n2) (.slice A3 ks.length n3)) 29) = W1 at *
  obtain ⟨c0, c1, c2, c3, c4, c5, c6, c7, c8, c9, c10⟩ := blk11z (d := d) HS.out.at0.box
  go_wp2_with fail
  refine (CP.out _ (_, _, _) HS.out.at0.tr (HW.out.below HS.out.below)).mono ?_
  rintro e0 w2 ⟨rfl, hb2⟩
  have HS2 := Box.mk (HS.out.next hb2)
  clear HS hb2 c0 c1 c2 c3 c4 c5 c6 c7 c8 c9 c10
  go_wp2_with fail
  refine (CA.out _ (HW.out.below HS2.out.below).v).mono ?_
  rintro e0 w3 ⟨mv, bv, kv, rfl, hT, hb3⟩
  obtain ⟨B1, m1, rfl, -⟩ := hT.nod.ms.form
  obtain ⟨B2, m2, rfl, -⟩ := hT.nod.bys.form
  obtain ⟨B3, m3, rfl, -⟩ := hT.nod.kform
  simp only [Tree.d]
  have HS := Box.mk (HS2.out.cons hT hb3)
  clear HS2 hT hb3
  go_upto_region 4 with (fail)
  generalize w3.heap.size = g2 at *
  generalize w3.alloc (.cells (ndC d (.slice B1 d.ms.length m1) (.slice B2 d.bys.length m2) (.slice B3 ks.length m3)) 29) = W3 at *
  obtain ⟨c0, c1, c2, c3, c4, c5, c6, c7, c8, c9, c10⟩ := blk11z (d := d) HS.out.at0.box
  go_wp2_with fail
  refine (CP.out _ (_, _, _) HS.out.at0.tr (HW.out.below HS.out.below)).mono ?_
  rintro e0 w4 ⟨rfl, hb4⟩
  have HS2 := Box.mk (HS.out.next hb4)
  clear HS hb4 c0 c1 c2 c3 c4 c5 c6 c7 c8 c9 c10
  go_upto_region 5 with (fail)
  obtain ⟨c0, c1, c2, c3, c4, c5, c6, c7, c8, c9, c10⟩ := blk11z (d := d) HS2.out.at0.box
  obtain ⟨p0, p1, p2, p3, p4, p5, p6, p7, p8, p9, p10⟩ := blk11z (d := d) HS2.out.at1.box
  have hzz : (z.toList == z.toList) = true := by simp
  go_wp2_with fail
  refine (CE.out _ (_, _, _) (_, _, _) HS2.out.at1.tr HS2.out.at0.tr).mono ?_
  rintro e0 w5 ⟨rfl, hb5⟩
  have HS := Box.mk (HS2.out.next hb5)
  clear HS2 hb5 c0 c1 c2 c3 c4 c5 c6 c7 c8 c9 c10 p0 p1 p2 p3 p4 p5 p6 p7 p8 p9 p10
  obtain ⟨c0, c1, c2, c3, c4, c5, c6, c7, c8, c9, c10⟩ := blk11z (d := d) HS.out.at0.box
  go_wp2_with fail
  refine (CV.out _ (_, _, _) HS.out.at0.tr (libP_g (HW.out.below HS.out.below))).mono ?_
  rintro e0 w6 ⟨rfl, hb6⟩
  have HS2 := Box.mk (HS.out.next hb6)
  clear HS hb6 c0 c1 c2 c3 c4 c5 c6 c7 c8 c9 c10
  go_wp2_with fail
  refine (lives_true _ (HW.out.below HS2.out.below)).mono ?_
  rintro e0 w7 ⟨rfl, hb7⟩
  have hbf := bthen HS2.out.below hb7 (Nat.le_refl _)
  go_wp2_with fail
  go_ret
  exact ⟨rfl, hbf⟩
end
end Go.Proofs.YthoibeajhdhdhaaDoor
