/- Contracts, packed: Jr. -/
import Derived.Test.YtipafbppaaflcaaDoorPu40
set_option linter.unusedVariables false
set_option linter.unusedSimpArgs false
namespace Go.Proofs.YtipafbppaaflcaaDoor
section
open Go.RowKit FracM
def REqOk (t : Tree) : Prop := ∀ (u : Tree) (P Q : Nat → Nat → Prop) (w : World) (s r : Sl), TreeAt w P t s → TreeAt w Q u r →
 Calls Tryd.prog 39 #[.agg (ndC t.d s.1 s.2.1 s.2.2), .agg (ndC u.d r.1 r.2.1 r.2.2)] w (RetB (.bool (eqT t u)) w)
theorem sameB_strs (a b : List ByteArray) : sameB a b = strsB a b := by rw [same_eq, strsB_eq]
set_option maxHeartbeats 4000000 in
set_option maxRecDepth 100000 in
theorem requal_0 (d e : Nd) (ks es : List Tree) (H : ∀ t ∈ ks, REqOk t) (P Q : Nat → Nat → Prop) (w : World) (s r : Sl) (hT : TreeAt w P (.node d ks) s) (hU : TreeAt w Q (.node e es) r) (h0 : (d.kind == e.kind) = false) :
  Calls Tryd.prog 39 #[.agg (ndC d s.1 s.2.1 s.2.2), .agg (ndC e r.1 r.2.1 r.2.2)] w (RetB (.bool false) w) := by
 obtain ⟨mv, bv, kv⟩ := s
 obtain ⟨mv', bv', kv'⟩ := r
 obtain ⟨A1, a1, rfl, -⟩ := hT.nod.ms.form
 obtain ⟨A2, a2, rfl, -⟩ := hT.nod.bys.form
 obtain ⟨A3, a3, rfl, l1⟩ := hT.nod.kform
 obtain ⟨B1, b1, rfl, -⟩ := hU.nod.ms.form
 obtain ⟨B2, b2, rfl, -⟩ := hU.nod.bys.form
 obtain ⟨B3, b3, rfl, l2⟩ := hU.nod.kform
 have HS : Box (E2b w ((w.alloc (.cells (ndC d (.slice A1 d.ms.length a1) (.slice A2 d.bys.length a2) (.slice A3 ks.length a3)) exT)).alloc (.cells (ndC e (.slice B1 e.ms.length b1) (.slice B2 e.bys.length b2) (.slice B3 es.length b3)) exT)) P Q d e ks es (.slice A1 d.ms.length a1, .slice A2 d.bys.length a2, .slice A3 ks.length a3) (.slice B1 e.ms.length b1, .slice B2 e.bys.length b2, .slice B3 es.length b3)) := ⟨bel2 _ _ _, (Blk.new _ _ _).alloc _, Blk.newAt _ _ (by simp), hT.belo (bel2 _ _ _), hU.belo (bel2 _ _ _)⟩
 have HH := Box.mk H
 clear hT hU H
 have g0 : (d.kind != e.kind) = true := by rw [bne, h0]; rfl
 go_enter Tryd.func39, Tryd.ntmps39
 go_upto_region 1 with (fail)
 generalize ((w.alloc (.cells (ndC d (.slice A1 d.ms.length a1) (.slice A2 d.bys.length a2) (.slice A3 ks.length a3)) exT)).alloc (.cells (ndC e (.slice B1 e.ms.length b1) (.slice B2 e.bys.length b2) (.slice B3 es.length b3)) exT)) = W at HS ⊢
 obtain ⟨x0, x1, x2, x3, x4, x5, x6, x7, x8, x9, x10⟩ := blk11z HS.out.b1
 obtain ⟨y0, y1, y2, y3, y4, y5, y6, y7, y8, y9, y10⟩ := blk11z HS.out.b2
 go_wp2_with fail
 go_ret
 exact ⟨rfl, HS.out.below⟩
set_option maxHeartbeats 4000000 in
set_option maxRecDepth 100000 in
theorem requal_1 (d e : Nd) (ks es : List Tree) (H : ∀ t ∈ ks, REqOk t) (P Q : Nat → Nat → Prop) (w : World) (s r : Sl) (hT : TreeAt w P (.node d ks) s) (hU : TreeAt w Q (.node e es) r) (h0 : (d.kind == e.kind) = true) (h1 : (d.fn == e.fn) = false) :
  Calls Tryd.prog 39 #[.agg (ndC d s.1 s.2.1 s.2.2), .agg (ndC e r.1 r.2.1 r.2.2)] w (RetB (.bool false) w) := by
 obtain ⟨mv, bv, kv⟩ := s
 obtain ⟨mv', bv', kv'⟩ := r
 obtain ⟨A1, a1, rfl, -⟩ := hT.nod.ms.form
 obtain ⟨A2, a2, rfl, -⟩ := hT.nod.bys.form
 obtain ⟨A3, a3, rfl, l1⟩ := hT.nod.kform
 obtain ⟨B1, b1, rfl, -⟩ := hU.nod.ms.form
 obtain ⟨B2, b2, rfl, -⟩ := hU.nod.bys.form
 obtain ⟨B3, b3, rfl, l2⟩ := hU.nod.kform
 have HS : Box (E2b w ((w.alloc (.cells (ndC d (.slice A1 d.ms.length a1) (.slice A2 d.bys.length a2) (.slice A3 ks.length a3)) exT)).alloc (.cells (ndC e (.slice B1 e.ms.length b1) (.slice B2 e.bys.length b2) (.slice B3 es.length b3)) exT)) P Q d e ks es (.slice A1 d.ms.length a1, .slice A2 d.bys.length a2, .slice A3 ks.length a3) (.slice B1 e.ms.length b1, .slice B2 e.bys.length b2, .slice B3 es.length b3)) := ⟨bel2 _ _ _, (Blk.new _ _ _).alloc _, Blk.newAt _ _ (by simp), hT.belo (bel2 _ _ _), hU.belo (bel2 _ _ _)⟩
 have HH := Box.mk H
 clear hT hU H
 have g0 : (d.kind != e.kind) = false := by rw [bne, h0]; rfl
 have g1 : (d.fn != e.fn) = true := by rw [bne, h1]; rfl
 go_enter Tryd.func39, Tryd.ntmps39
 go_upto_region 1 with (fail)
 generalize ((w.alloc (.cells (ndC d (.slice A1 d.ms.length a1) (.slice A2 d.bys.length a2) (.slice A3 ks.length a3)) exT)).alloc (.cells (ndC e (.slice B1 e.ms.length b1) (.slice B2 e.bys.length b2) (.slice B3 es.length b3)) exT)) = W at HS ⊢
 obtain ⟨x0, x1, x2, x3, x4, x5, x6, x7, x8, x9, x10⟩ := blk11z HS.out.b1
 obtain ⟨y0, y1, y2, y3, y4, y5, y6, y7, y8, y9, y10⟩ := blk11z HS.out.b2
 go_wp2_with fail
 go_ret
 exact ⟨rfl, HS.out.below⟩
set_option maxHeartbeats 4000000 in
set_option maxRecDepth 100000 in
theorem requal_2 (d e : Nd) (ks es : List Tree) (H : ∀ t ∈ ks, REqOk t) (P Q : Nat → Nat → Prop) (w : World) (s r : Sl) (hT : TreeAt w P (.node d ks) s) (hU : TreeAt w Q (.node e es) r) (h0 : (d.kind == e.kind) = true) (h1 : (d.fn == e.fn) = true) (h2 : (d.win == e.win) = false) :
  Calls Tryd.prog 39 #[.agg (ndC d s.1 s.2.1 s.2.2), .agg (ndC e r.1 r.2.1 r.2.2)] w (RetB (.bool false) w) := by
 obtain ⟨mv, bv, kv⟩ := s
 obtain ⟨mv', bv', kv'⟩ := r
 obtain ⟨A1, a1, rfl, -⟩ := hT.nod.ms.form
 obtain ⟨A2, a2, rfl, -⟩ := hT.nod.bys.form
 obtain ⟨A3, a3, rfl, l1⟩ := hT.nod.kform
 obtain ⟨B1, b1, rfl, -⟩ := hU.nod.ms.form
 obtain ⟨B2, b2, rfl, -⟩ := hU.nod.bys.form
 obtain ⟨B3, b3, rfl, l2⟩ := hU.nod.kform
 have HS : Box (E2b w ((w.alloc (.cells (ndC d (.slice A1 d.ms.length a1) (.slice A2 d.bys.length a2) (.slice A3 ks.length a3)) exT)).alloc (.cells (ndC e (.slice B1 e.ms.length b1) (.slice B2 e.bys.length b2) (.slice B3 es.length b3)) exT)) P Q d e ks es (.slice A1 d.ms.length a1, .slice A2 d.bys.length a2, .slice A3 ks.length a3) (.slice B1 e.ms.length b1, .slice B2 e.bys.length b2, .slice B3 es.length b3)) := ⟨bel2 _ _ _, (Blk.new _ _ _).alloc _, Blk.newAt _ _ (by simp), hT.belo (bel2 _ _ _), hU.belo (bel2 _ _ _)⟩
 have HH := Box.mk H
 clear hT hU H
 have g0 : (d.kind != e.kind) = false := by rw [bne, h0]; rfl
 have g1 : (d.fn != e.fn) = false := by rw [bne, h1]; rfl
 have g2 : (d.win != e.win) = true := by rw [bne, h2]; rfl
 go_enter Tryd.func39, Tryd.ntmps39
 go_upto_region 1 with (fail)
 generalize ((w.alloc (.cells (ndC d (.slice A1 d.ms.length a1) (.slice A2 d.bys.length a2) (.slice A3 ks.length a3)) exT)).alloc (.cells (ndC e (.slice B1 e.ms.length b1) (.slice B2 e.bys.length b2) (.slice B3 es.length b3)) exT)) = W at HS ⊢
 obtain ⟨x0, x1, x2, x3, x4, x5, x6, x7, x8, x9, x10⟩ := blk11z HS.out.b1
 obtain ⟨y0, y1, y2, y3, y4, y5, y6, y7, y8, y9, y10⟩ := blk11z HS.out.b2
 go_wp2_with fail
 go_ret
 exact ⟨rfl, HS.out.below⟩
set_option maxHeartbeats 4000000 in
set_option maxRecDepth 100000 in
theorem requal_3 (d e : Nd) (ks es : List Tree) (H : ∀ t ∈ ks, REqOk t) (P Q : Nat → Nat → Prop) (w : World) (s r : Sl) (hT : TreeAt w P (.node d ks) s) (hU : TreeAt w Q (.node e es) r) (h0 : (d.kind == e.kind) = true) (h1 : (d.fn == e.fn) = true) (h2 : (d.win == e.win) = true) (h3 : (d.off == e.off) = false) :
  Calls Tryd.prog 39 #[.agg (ndC d s.1 s.2.1 s.2.2), .agg (ndC e r.1 r.2.1 r.2.2)] w (RetB (.bool false) w) := by
 obtain ⟨mv, bv, kv⟩ := s
 obtain ⟨mv', bv', kv'⟩ := r
 obtain ⟨A1, a1, rfl, -⟩ := hT.nod.ms.form
 obtain ⟨A2, a2, rfl, -⟩ := hT.nod.bys.form
 obtain ⟨A3, a3, rfl, l1⟩ := hT.nod.kform
 obtain ⟨B1, b1, rfl, -⟩ := hU.nod.ms.form
 obtain ⟨B2, b2, rfl, -⟩ := hU.nod.bys.form
 obtain ⟨B3, b3, rfl, l2⟩ := hU.nod.kform
 have HS : Box (E2b w ((w.alloc (.cells (ndC d (.slice A1 d.ms.length a1) (.slice A2 d.bys.length a2) (.slice A3 ks.length a3)) exT)).alloc (.cells (ndC e (.slice B1 e.ms.length b1) (.slice B2 e.bys.length b2) (.slice B3 es.length b3)) exT)) P Q d e ks es (.slice A1 d.ms.length a1, .slice A2 d.bys.length a2, .slice A3 ks.length a3) (.slice B1 e.ms.length b1, .slice B2 e.bys.length b2, .slice B3 es.length b3)) := ⟨bel2 _ _ _, (Blk.new _ _ _).alloc _, Blk.newAt _ _ (by simp), hT.belo (bel2 _ _ _), hU.belo (bel2 _ _ _)⟩
 have HH := Box.mk H
 clear hT hU H
 have g0 : (d.kind != e.kind) = false := by rw [bne, h0]; rfl
 have g1 : (d.fn != e.fn) = false := by rw [bne, h1]; rfl
 have g2 : (d.win != e.win) = false := by rw [bne, h2]; rfl
 have g3 : (d.off != e.off) = true := by rw [bne, h3]; rfl
 go_enter Tryd.func39, Tryd.ntmps39
 go_upto_region 1 with (fail)
 generalize ((w.alloc (.cells (ndC d (.slice A1 d.ms.length a1) (.slice A2 d.bys.length a2) (.slice A3 ks.length a3)) exT)).alloc (.cells (ndC e (.slice B1 e.ms.length b1) (.slice B2 e.bys.length b2) (.slice B3 es.length b3)) exT)) = W at HS ⊢
 obtain ⟨x0, x1, x2, x3, x4, x5, x6, x7, x8, x9, x10⟩ := blk11z HS.out.b1
 obtain ⟨y0, y1, y2, y3, y4, y5, y6, y7, y8, y9, y10⟩ := blk11z HS.out.b2
 go_wp2_with fail
 go_ret
 exact ⟨rfl, HS.out.below⟩
set_option maxHeartbeats 4000000 in
set_option maxRecDepth 100000 in
theorem requal_4 (d e : Nd) (ks es : List Tree) (H : ∀ t ∈ ks, REqOk t) (P Q : Nat → Nat → Prop) (w : World) (s r : Sl) (hT : TreeAt w P (.node d ks) s) (hU : TreeAt w Q (.node e es) r) (h0 : (d.kind == e.kind) = true) (h1 : (d.fn == e.fn) = true) (h2 : (d.win == e.win) = true) (h3 : (d.off == e.off) = true) (h4 : (d.k == e.k) = false) :
  Calls Tryd.prog 39 #[.agg (ndC d s.1 s.2.1 s.2.2), .agg (ndC e r.1 r.2.1 r.2.2)] w (RetB (.bool false) w) := by
 obtain ⟨mv, bv, kv⟩ := s
 obtain ⟨mv', bv', kv'⟩ := r
 obtain ⟨A1, a1, rfl, -⟩ := hT.nod.ms.form
 obtain ⟨A2, a2, rfl, -⟩ := hT.nod.bys.form
 obtain ⟨A3, a3, rfl, l1⟩ := hT.nod.kform
 obtain ⟨B1, b1, rfl, -⟩ := hU.nod.ms.form
 obtain ⟨B2, b2, rfl, -⟩ := hU.nod.bys.form
 obtain ⟨B3, b3, rfl, l2⟩ := hU.nod.kform
 have HS : Box (E2b w ((w.alloc (.cells (ndC d (.slice A1 d.ms.length a1) (.slice A2 d.bys.length a2) (.slice A3 ks.length a3)) exT)).alloc (.cells (ndC e (.slice B1 e.ms.length b1) (.slice B2 e.bys.length b2) (.slice B3 es.length b3)) exT)) P Q d e ks es (.slice A1 d.ms.length a1, .slice A2 d.bys.length a2, .slice A3 ks.length a3) (.slice B1 e.ms.length b1, .slice B2 e.bys.length b2, .slice B3 es.length b3)) := ⟨bel2 _ _ _, (Blk.new _ _ _).alloc _, Blk.newAt _ _ (by simp), hT.belo (bel2 _ _ _), hU.belo (bel2 _ _ _)⟩
 have HH := Box.mk H
 clear hT hU H
 have g0 : (d.kind != e.kind) = false := by rw [bne, h0]; rfl
 have g1 : (d.fn != e.fn) = false := by rw [bne, h1]; rfl
 have g2 : (d.win != e.win) = false := by rw [bne, h2]; rfl
 have g3 : (d.off != e.off) = false := by rw [bne, h3]; rfl
 have g4 : (d.k != e.k) = true := by rw [bne, h4]; rfl
 go_enter Tryd.func39, Tryd.ntmps39
 go_upto_region 1 with (fail)
 generalize ((w.alloc (.cells (ndC d (.slice A1 d.ms.length a1) (.slice A2 d.bys.length a2) (.slice A3 ks.length a3)) exT)).alloc (.cells (ndC e (.slice B1 e.ms.length b1) (.slice B2 e.bys.length b2) (.slice B3 es.length b3)) exT)) = W at HS ⊢
 obtain ⟨x0, x1, x2, x3, x4, x5, x6, x7, x8, x9, x10⟩ := blk11z HS.out.b1
 obtain ⟨y0, y1, y2, y3, y4, y5, y6, y7, y8, y9, y10⟩ := blk11z HS.out.b2
 go_wp2_with fail
 go_ret
 exact ⟨rfl, HS.out.below⟩
set_option maxHeartbeats 4000000 in
set_option maxRecDepth 100000 in
theorem requal_5 (d e : Nd) (ks es : List Tree) (H : ∀ t ∈ ks, REqOk t) (P Q : Nat → Nat → Prop) (w : World) (s r : Sl) (hT : TreeAt w P (.node d ks) s) (hU : TreeAt w Q (.node e es) r) (h0 : (d.kind == e.kind) = true) (h1 : (d.fn == e.fn) = true) (h2 : (d.win == e.win) = true) (h3 : (d.off == e.off) = true) (h4 : (d.k == e.k) = true) (h5 : ((d.num == e.num) && (d.den == e.den)) = false) :
  Calls Tryd.prog 39 #[.agg (ndC d s.1 s.2.1 s.2.2), .agg (ndC e r.1 r.2.1 r.2.2)] w (RetB (.bool false) w) := by
 obtain ⟨mv, bv, kv⟩ := s
 obtain ⟨mv', bv', kv'⟩ := r
 obtain ⟨A1, a1, rfl, -⟩ := hT.nod.ms.form
 obtain ⟨A2, a2, rfl, -⟩ := hT.nod.bys.form
 obtain ⟨A3, a3, rfl, l1⟩ := hT.nod.kform
 obtain ⟨B1, b1, rfl, -⟩ := hU.nod.ms.form
 obtain ⟨B2, b2, rfl, -⟩ := hU.nod.bys.form
 obtain ⟨B3, b3, rfl, l2⟩ := hU.nod.kform
 have HS : Box (E2b w ((w.alloc (.cells (ndC d (.slice A1 d.ms.length a1) (.slice A2 d.bys.length a2) (.slice A3 ks.length a3)) exT)).alloc (.cells (ndC e (.slice B1 e.ms.length b1) (.slice B2 e.bys.length b2) (.slice B3 es.length b3)) exT)) P Q d e ks es (.slice A1 d.ms.length a1, .slice A2 d.bys.length a2, .slice A3 ks.length a3) (.slice B1 e.ms.length b1, .slice B2 e.bys.length b2, .slice B3 es.length b3)) := ⟨bel2 _ _ _, (Blk.new _ _ _).alloc _, Blk.newAt _ _ (by simp), hT.belo (bel2 _ _ _), hU.belo (bel2 _ _ _)⟩
 have HH := Box.mk H
 clear hT hU H
 have g0 : (d.kind != e.kind) = false := by rw [bne, h0]; rfl
 have g1 : (d.fn != e.fn) = false := by rw [bne, h1]; rfl
 have g2 : (d.win != e.win) = false := by rw [bne, h2]; rfl
 have g3 : (d.off != e.off) = false := by rw [bne, h3]; rfl
 have g4 : (d.k != e.k) = false := by rw [bne, h4]; rfl
 have hfr : ∀ W : World, (Op.equalIn 10000 24 (.agg #[.int .i64 d.num, .int .i64 d.den]) (.agg #[.int .i64 e.num, .int .i64 e.den])).run Tryd.prog W = .ok false W := fun W => by rw [eq_frac, h5]
 clear h5
 go_enter Tryd.func39, Tryd.ntmps39
 go_upto_region 1 with (fail)
 generalize ((w.alloc (.cells (ndC d (.slice A1 d.ms.length a1) (.slice A2 d.bys.length a2) (.slice A3 ks.length a3)) exT)).alloc (.cells (ndC e (.slice B1 e.ms.length b1) (.slice B2 e.bys.length b2) (.slice B3 es.length b3)) exT)) = W at HS ⊢
 obtain ⟨x0, x1, x2, x3, x4, x5, x6, x7, x8, x9, x10⟩ := blk11z HS.out.b1
 obtain ⟨y0, y1, y2, y3, y4, y5, y6, y7, y8, y9, y10⟩ := blk11z HS.out.b2
 go_wp2_with fail
 go_ret
 exact ⟨rfl, HS.out.below⟩
set_option maxHeartbeats 4000000 in
set_option maxRecDepth 100000 in
theorem requal_6 (d e : Nd) (ks es : List Tree) (H : ∀ t ∈ ks, REqOk t) (P Q : Nat → Nat → Prop) (w : World) (s r : Sl) (hT : TreeAt w P (.node d ks) s) (hU : TreeAt w Q (.node e es) r) (h0 : (d.kind == e.kind) = true) (h1 : (d.fn == e.fn) = true) (h2 : (d.win == e.win) = true) (h3 : (d.off == e.off) = true) (h4 : (d.k == e.k) = true) (h5 : ((d.num == e.num) && (d.den == e.den)) = true) (h6 : (d.name.toList == e.name.toList) = false) :
  Calls Tryd.prog 39 #[.agg (ndC d s.1 s.2.1 s.2.2), .agg (ndC e r.1 r.2.1 r.2.2)] w (RetB (.bool false) w) := by
 obtain ⟨mv, bv, kv⟩ := s
 obtain ⟨mv', bv', kv'⟩ := r
 obtain ⟨A1, a1, rfl, -⟩ := hT.nod.ms.form
 obtain ⟨A2, a2, rfl, -⟩ := hT.nod.bys.form
 obtain ⟨A3, a3, rfl, l1⟩ := hT.nod.kform
 obtain ⟨B1, b1, rfl, -⟩ := hU.nod.ms.form
 obtain ⟨B2, b2, rfl, -⟩ := hU.nod.bys.form
 obtain ⟨B3, b3, rfl, l2⟩ := hU.nod.kform
 have HS : Box (E2b w ((w.alloc (.cells (ndC d (.slice A1 d.ms.length a1) (.slice A2 d.bys.length a2) (.slice A3 ks.length a3)) exT)).alloc (.cells (ndC e (.slice B1 e.ms.length b1) (.slice B2 e.bys.length b2) (.slice B3 es.length b3)) exT)) P Q d e ks es (.slice A1 d.ms.length a1, .slice A2 d.bys.length a2, .slice A3 ks.length a3) (.slice B1 e.ms.length b1, .slice B2 e.bys.length b2, .slice B3 es.length b3)) := ⟨bel2 _ _ _, (Blk.new _ _ _).alloc _, Blk.newAt _ _ (by simp), hT.belo (bel2 _ _ _), hU.belo (bel2 _ _ _)⟩
 have HH := Box.mk H
 clear hT hU H
 have g0 : (d.kind != e.kind) = false := by rw [bne, h0]; rfl
 have g1 : (d.fn != e.fn) = false := by rw [bne, h1]; rfl
 have g2 : (d.win != e.win) = false := by rw [bne, h2]; rfl
 have g3 : (d.off != e.off) = false := by rw [bne, h3]; rfl
 have g4 : (d.k != e.k) = false := by rw [bne, h4]; rfl
 have g6 : (d.name.toList != e.name.toList) = true := by rw [bne, h6]; rfl
 have hfr : ∀ W : World, (Op.equalIn 10000 24 (.agg #[.int .i64 d.num, .int .i64 d.den]) (.agg #[.int .i64 e.num, .int .i64 e.den])).run Tryd.prog W = .ok true W := fun W => by rw [eq_frac, h5]
 clear h5
 go_enter Tryd.func39, Tryd.ntmps39
 go_upto_region 1 with (fail)
 generalize ((w.alloc (.cells (ndC d (.slice A1 d.ms.length a1) (.slice A2 d.bys.length a2) (.slice A3 ks.length a3)) exT)).alloc (.cells (ndC e (.slice B1 e.ms.length b1) (.slice B2 e.bys.length b2) (.slice B3 es.length b3)) exT)) = W at HS ⊢
 obtain ⟨x0, x1, x2, x3, x4, x5, x6, x7, x8, x9, x10⟩ := blk11z HS.out.b1
 obtain ⟨y0, y1, y2, y3, y4, y5, y6, y7, y8, y9, y10⟩ := blk11z HS.out.b2
 go_wp2_with fail
 go_ret
 exact ⟨rfl, HS.out.below⟩
set_option maxHeartbeats 4000000 in
set_option maxRecDepth 100000 in
theorem requal_7 (d e : Nd) (ks es : List Tree) (H : ∀ t ∈ ks, REqOk t) (P Q : Nat → Nat → Prop) (w : World) (s r : Sl) (hT : TreeAt w P (.node d ks) s) (hU : TreeAt w Q (.node e es) r) (h0 : (d.kind == e.kind) = true) (h1 : (d.fn == e.fn) = true) (h2 : (d.win == e.win) = true) (h3 : (d.off == e.off) = true) (h4 : (d.k == e.k) = true) (h5 : ((d.num == e.num) && (d.den == e.den)) = true) (h6 : (d.name.toList == e.name.toList) = true) (h7 : (ks.length == es.length) = false) :
  Calls Tryd.prog 39 #[.agg (ndC d s.1 s.2.1 s.2.2), .agg (ndC e r.1 r.2.1 r.2.2)] w (RetB (.bool false) w) := by
 obtain ⟨mv, bv, kv⟩ := s
 obtain ⟨mv', bv', kv'⟩ := r
 obtain ⟨A1, a1, rfl, -⟩ := hT.nod.ms.form
 obtain ⟨A2, a2, rfl, -⟩ := hT.nod.bys.form
 obtain ⟨A3, a3, rfl, l1⟩ := hT.nod.kform
 obtain ⟨B1, b1, rfl, -⟩ := hU.nod.ms.form
 obtain ⟨B2, b2, rfl, -⟩ := hU.nod.bys.form
 obtain ⟨B3, b3, rfl, l2⟩ := hU.nod.kform
 have HS : Box (E2b w ((w.alloc (.cells (ndC d (.slice A1 d.ms.length a1) (.slice A2 d.bys.length a2) (.slice A3 ks.length a3)) exT)).alloc (.cells (ndC e (.slice B1 e.ms.length b1) (.slice B2 e.bys.length b2) (.slice B3 es.length b3)) exT)) P Q d e ks es (.slice A1 d.ms.length a1, .slice A2 d.bys.length a2, .slice A3 ks.length a3) (.slice B1 e.ms.length b1, .slice B2 e.bys.length b2, .slice B3 es.length b3)) := ⟨bel2 _ _ _, (Blk.new _ _ _).alloc _, Blk.newAt _ _ (by simp), hT.belo (bel2 _ _ _), hU.belo (bel2 _ _ _)⟩
 have HH := Box.mk H
 clear hT hU H
 have g0 : (d.kind != e.kind) = false := by rw [bne, h0]; rfl
 have g1 : (d.fn != e.fn) = false := by rw [bne, h1]; rfl
 have g2 : (d.win != e.win) = false := by rw [bne, h2]; rfl
 have g3 : (d.off != e.off) = false := by rw [bne, h3]; rfl
 have g4 : (d.k != e.k) = false := by rw [bne, h4]; rfl
 have g6 : (d.name.toList != e.name.toList) = false := by rw [bne, h6]; rfl
 have g7 : ((ks.length : Int) != (es.length : Int)) = true := by have := h7; simp at this ⊢; omega
 have hfr : ∀ W : World, (Op.equalIn 10000 24 (.agg #[.int .i64 d.num, .int .i64 d.den]) (.agg #[.int .i64 e.num, .int .i64 e.den])).run Tryd.prog W = .ok true W := fun W => by rw [eq_frac, h5]
 clear h5
 go_enter Tryd.func39, Tryd.ntmps39
 go_upto_region 1 with (fail)
 generalize ((w.alloc (.cells (ndC d (.slice A1 d.ms.length a1) (.slice A2 d.bys.length a2) (.slice A3 ks.length a3)) exT)).alloc (.cells (ndC e (.slice B1 e.ms.length b1) (.slice B2 e.bys.length b2) (.slice B3 es.length b3)) exT)) = W at HS ⊢
 obtain ⟨x0, x1, x2, x3, x4, x5, x6, x7, x8, x9, x10⟩ := blk11z HS.out.b1
 obtain ⟨y0, y1, y2, y3, y4, y5, y6, y7, y8, y9, y10⟩ := blk11z HS.out.b2
 go_wp2_with fail
 go_ret
 exact ⟨rfl, HS.out.below⟩
set_option maxHeartbeats 4000000 in
set_option maxRecDepth 100000 in
theorem requal_8 (d e : Nd) (ks es : List Tree) (H : ∀ t ∈ ks, REqOk t) (P Q : Nat → Nat → Prop) (w : World) (s r : Sl) (hT : TreeAt w P (.node d ks) s) (hU : TreeAt w Q (.node e es) r) (h0 : (d.kind == e.kind) = true) (h1 : (d.fn == e.fn) = true) (h2 : (d.win == e.win) = true) (h3 : (d.off == e.off) = true) (h4 : (d.k == e.k) = true) (h5 : ((d.num == e.num) && (d.den == e.den)) = true) (h6 : (d.name.toList == e.name.toList) = true) (h7 : (ks.length == es.length) = true) (h8 : matsB d.ms e.ms = false) :
  Calls Tryd.prog 39 #[.agg (ndC d s.1 s.2.1 s.2.2), .agg (ndC e r.1 r.2.1 r.2.2)] w (RetB (.bool false) w) := by
 obtain ⟨mv, bv, kv⟩ := s
 obtain ⟨mv', bv', kv'⟩ := r
 obtain ⟨A1, a1, rfl, -⟩ := hT.nod.ms.form
 obtain ⟨A2, a2, rfl, -⟩ := hT.nod.bys.form
 obtain ⟨A3, a3, rfl, l1⟩ := hT.nod.kform
 obtain ⟨B1, b1, rfl, -⟩ := hU.nod.ms.form
 obtain ⟨B2, b2, rfl, -⟩ := hU.nod.bys.form
 obtain ⟨B3, b3, rfl, l2⟩ := hU.nod.kform
 have HS : Box (E2b w ((w.alloc (.cells (ndC d (.slice A1 d.ms.length a1) (.slice A2 d.bys.length a2) (.slice A3 ks.length a3)) exT)).alloc (.cells (ndC e (.slice B1 e.ms.length b1) (.slice B2 e.bys.length b2) (.slice B3 es.length b3)) exT)) P Q d e ks es (.slice A1 d.ms.length a1, .slice A2 d.bys.length a2, .slice A3 ks.length a3) (.slice B1 e.ms.length b1, .slice B2 e.bys.length b2, .slice B3 es.length b3)) := ⟨bel2 _ _ _, (Blk.new _ _ _).alloc _, Blk.newAt _ _ (by simp), hT.belo (bel2 _ _ _), hU.belo (bel2 _ _ _)⟩
 have HH := Box.mk H
 clear hT hU H
 have g0 : (d.kind != e.kind) = false := by rw [bne, h0]; rfl
 have g1 : (d.fn != e.fn) = false := by rw [bne, h1]; rfl
 have g2 : (d.win != e.win) = false := by rw [bne, h2]; rfl
 have g3 : (d.off != e.off) = false := by rw [bne, h3]; rfl
 have g4 : (d.k != e.k) = false := by rw [bne, h4]; rfl
 have g6 : (d.name.toList != e.name.toList) = false := by rw [bne, h6]; rfl
 have g7 : ((ks.length : Int) != (es.length : Int)) = false := by have := h7; simp at this ⊢; omega
 have hfr : ∀ W : World, (Op.equalIn 10000 24 (.agg #[.int .i64 d.num, .int .i64 d.den]) (.agg #[.int .i64 e.num, .int .i64 e.den])).run Tryd.prog W = .ok true W := fun W => by rw [eq_frac, h5]
 clear h5
 have H8 := Box.mk h8
 clear h8
 have hlen : ks.length = es.length := by simpa using h7
 have HLEN := Box.mk hlen
 clear hlen h7
 go_enter Tryd.func39, Tryd.ntmps39
 go_upto_region 1 with (fail)
 generalize ((w.alloc (.cells (ndC d (.slice A1 d.ms.length a1) (.slice A2 d.bys.length a2) (.slice A3 ks.length a3)) exT)).alloc (.cells (ndC e (.slice B1 e.ms.length b1) (.slice B2 e.bys.length b2) (.slice B3 es.length b3)) exT)) = W at HS ⊢
 obtain ⟨x0, x1, x2, x3, x4, x5, x6, x7, x8, x9, x10⟩ := blk11z HS.out.b1
 obtain ⟨y0, y1, y2, y3, y4, y5, y6, y7, y8, y9, y10⟩ := blk11z HS.out.b2
 go_wp2_with fail
 refine (rmats_any A1 B1 a1 b1 P Q d.ms e.ms _ HS.out.t1.nod.ms HS.out.t2.nod.ms).mono ?_
 rintro e9 w8 ⟨rfl, hb⟩
 rw [H8.out]
 have HS8 := Box.mk (HS.out.next hb)
 clear HS hb x0 x1 x2 x3 x4 x5 x6 x7 x8 x9 x10 y0 y1 y2 y3 y4 y5 y6 y7 y8 y9 y10
 have HS := HS8
 clear HS8
 obtain ⟨x0, x1, x2, x3, x4, x5, x6, x7, x8, x9, x10⟩ := blk11z HS.out.b1
 obtain ⟨y0, y1, y2, y3, y4, y5, y6, y7, y8, y9, y10⟩ := blk11z HS.out.b2
 go_wp2_with fail
 go_ret
 exact ⟨rfl, HS.out.below⟩
set_option maxHeartbeats 4000000 in
set_option maxRecDepth 100000 in
theorem requal_9 (d e : Nd) (ks es : List Tree) (H : ∀ t ∈ ks, REqOk t) (P Q : Nat → Nat → Prop) (w : World) (s r : Sl) (hT : TreeAt w P (.node d ks) s) (hU : TreeAt w Q (.node e es) r) (h0 : (d.kind == e.kind) = true) (h1 : (d.fn == e.fn) = true) (h2 : (d.win == e.win) = true) (h3 : (d.off == e.off) = true) (h4 : (d.k == e.k) = true) (h5 : ((d.num == e.num) && (d.den == e.den)) = true) (h6 : (d.name.toList == e.name.toList) = true) (h7 : (ks.length == es.length) = true) (h8 : matsB d.ms e.ms = true) (h9 : strsB d.bys e.bys = false) :
  Calls Tryd.prog 39 #[.agg (ndC d s.1 s.2.1 s.2.2), .agg (ndC e r.1 r.2.1 r.2.2)] w (RetB (.bool false) w) := by
 obtain ⟨mv, bv, kv⟩ := s
 obtain ⟨mv', bv', kv'⟩ := r
 obtain ⟨A1, a1, rfl, -⟩ := hT.nod.ms.form
 obtain ⟨A2, a2, rfl, -⟩ := hT.nod.bys.form
 obtain ⟨A3, a3, rfl, l1⟩ := hT.nod.kform
 obtain ⟨B1, b1, rfl, -⟩ := hU.nod.ms.form
 obtain ⟨B2, b2, rfl, -⟩ := hU.nod.bys.form
 obtain ⟨B3, b3, rfl, l2⟩ := hU.nod.kform
 have HS : Box (E2b w ((w.alloc (.cells (ndC d (.slice A1 d.ms.length a1) (.slice A2 d.bys.length a2) (.slice A3 ks.length a3)) exT)).alloc (.cells (ndC e (.slice B1 e.ms.length b1) (.slice B2 e.bys.length b2) (.slice B3 es.length b3)) exT)) P Q d e ks es (.slice A1 d.ms.length a1, .slice A2 d.bys.length a2, .slice A3 ks.length a3) (.slice B1 e.ms.length b1, .slice B2 e.bys.length b2, .slice B3 es.length b3)) := ⟨bel2 _ _ _, (Blk.new _ _ _).alloc _, Blk.newAt _ _ (by simp), hT.belo (bel2 _ _ _), hU.belo (bel2 _ _ _)⟩
 have HH := Box.mk H
 clear hT hU H
 have g0 : (d.kind != e.kind) = false := by rw [bne, h0]; rfl
 have g1 : (d.fn != e.fn) = false := by rw [bne, h1]; rfl
 have g2 : (d.win != e.win) = false := by rw [bne, h2]; rfl
 have g3 : (d.off != e.off) = false := by rw [bne, h3]; rfl
 have g4 : (d.k != e.k) = false := by rw [bne, h4]; rfl
 have g6 : (d.name.toList != e.name.toList) = false := by rw [bne, h6]; rfl
 have g7 : ((ks.length : Int) != (es.length : Int)) = false := by have := h7; simp at this ⊢; omega
 have hfr : ∀ W : World, (Op.equalIn 10000 24 (.agg #[.int .i64 d.num, .int .i64 d.den]) (.agg #[.int .i64 e.num, .int .i64 e.den])).run Tryd.prog W = .ok true W := fun W => by rw [eq_frac, h5]
 clear h5
 have H8 := Box.mk h8
 clear h8
 have H9 := Box.mk h9
 clear h9
 have hlen : ks.length = es.length := by simpa using h7
 have HLEN := Box.mk hlen
 clear hlen h7
 go_enter Tryd.func39, Tryd.ntmps39
 go_upto_region 1 with (fail)
 generalize ((w.alloc (.cells (ndC d (.slice A1 d.ms.length a1) (.slice A2 d.bys.length a2) (.slice A3 ks.length a3)) exT)).alloc (.cells (ndC e (.slice B1 e.ms.length b1) (.slice B2 e.bys.length b2) (.slice B3 es.length b3)) exT)) = W at HS ⊢
 obtain ⟨x0, x1, x2, x3, x4, x5, x6, x7, x8, x9, x10⟩ := blk11z HS.out.b1
 obtain ⟨y0, y1, y2, y3, y4, y5, y6, y7, y8, y9, y10⟩ := blk11z HS.out.b2
 go_wp2_with fail
 refine (rmats_any A1 B1 a1 b1 P Q d.ms e.ms _ HS.out.t1.nod.ms HS.out.t2.nod.ms).mono ?_
 rintro e9 w8 ⟨rfl, hb⟩
 rw [H8.out]
 have HS8 := Box.mk (HS.out.next hb)
 clear HS hb x0 x1 x2 x3 x4 x5 x6 x7 x8 x9 x10 y0 y1 y2 y3 y4 y5 y6 y7 y8 y9 y10
 have HS := HS8
 clear HS8
 obtain ⟨x0, x1, x2, x3, x4, x5, x6, x7, x8, x9, x10⟩ := blk11z HS.out.b1
 obtain ⟨y0, y1, y2, y3, y4, y5, y6, y7, y8, y9, y10⟩ := blk11z HS.out.b2
 go_wp2_with fail
 refine (sameTexts_any A2 _ a2 B2 _ b2 d.bys e.bys _ (HS.out.t1.nod.bys.mono fun _ _ _ _ => trivial) (HS.out.t2.nod.bys.mono fun _ _ _ _ => trivial)).mono ?_
 rintro e9 w9 ⟨rfl, hb⟩
 rw [sameB_strs, H9.out]
 have HS9 := Box.mk (HS.out.next hb)
 clear HS hb x0 x1 x2 x3 x4 x5 x6 x7 x8 x9 x10 y0 y1 y2 y3 y4 y5 y6 y7 y8 y9 y10
 have HS := HS9
 clear HS9
 obtain ⟨x0, x1, x2, x3, x4, x5, x6, x7, x8, x9, x10⟩ := blk11z HS.out.b1
 obtain ⟨y0, y1, y2, y3, y4, y5, y6, y7, y8, y9, y10⟩ := blk11z HS.out.b2
 go_wp2_with fail
 go_ret
 exact ⟨rfl, HS.out.below⟩
set_option maxHeartbeats 4000000 in
set_option maxRecDepth 100000 in
theorem requal_10 (d e : Nd) (ks es : List Tree) (H : ∀ t ∈ ks, REqOk t) (P Q : Nat → Nat → Prop) (w : World) (s r : Sl) (hT : TreeAt w P (.node d ks) s) (hU : TreeAt w Q (.node e es) r) (h0 : (d.kind == e.kind) = true) (h1 : (d.fn == e.fn) = true) (h2 : (d.win == e.win) = true) (h3 : (d.off == e.off) = true) (h4 : (d.k == e.k) = true) (h5 : ((d.num == e.num) && (d.den == e.den)) = true) (h6 : (d.name.toList == e.name.toList) = true) (h7 : (ks.length == es.length) = true) (h8 : matsB d.ms e.ms = true) (h9 : strsB d.bys e.bys = true) :
  Calls Tryd.prog 39 #[.agg (ndC d s.1 s.2.1 s.2.2), .agg (ndC e r.1 r.2.1 r.2.2)] w (RetB (.bool (eqL ks es)) w) := by
 obtain ⟨mv, bv, kv⟩ := s
 obtain ⟨mv', bv', kv'⟩ := r
 obtain ⟨A1, a1, rfl, -⟩ := hT.nod.ms.form
 obtain ⟨A2, a2, rfl, -⟩ := hT.nod.bys.form
 obtain ⟨A3, a3, rfl, l1⟩ := hT.nod.kform
 obtain ⟨B1, b1, rfl, -⟩ := hU.nod.ms.form
 obtain ⟨B2, b2, rfl, -⟩ := hU.nod.bys.form
 obtain ⟨B3, b3, rfl, l2⟩ := hU.nod.kform
 have HS : Box (E2b w ((w.alloc (.cells (ndC d (.slice A1 d.ms.length a1) (.slice A2 d.bys.length a2) (.slice A3 ks.length a3)) exT)).alloc (.cells (ndC e (.slice B1 e.ms.length b1) (.slice B2 e.bys.length b2) (.slice B3 es.length b3)) exT)) P Q d e ks es (.slice A1 d.ms.length a1, .slice A2 d.bys.length a2, .slice A3 ks.length a3) (.slice B1 e.ms.length b1, .slice B2 e.bys.length b2, .slice B3 es.length b3)) := ⟨bel2 _ _ _, (Blk.new _ _ _).alloc _, Blk.newAt _ _ (by simp), hT.belo (bel2 _ _ _), hU.belo (bel2 _ _ _)⟩
 have HH := Box.mk H
 clear hT hU H
 have g0 : (d.kind != e.kind) = false := by rw [bne, h0]; rfl
 have g1 : (d.fn != e.fn) = false := by rw [bne, h1]; rfl
 have g2 : (d.win != e.win) = false := by rw [bne, h2]; rfl
 have g3 : (d.off != e.off) = false := by rw [bne, h3]; rfl
 have g4 : (d.k != e.k) = false := by rw [bne, h4]; rfl
 have g6 : (d.name.toList != e.name.toList) = false := by rw [bne, h6]; rfl
 have g7 : ((ks.length : Int) != (es.length : Int)) = false := by have := h7; simp at this ⊢; omega
 have hfr : ∀ W : World, (Op.equalIn 10000 24 (.agg #[.int .i64 d.num, .int .i64 d.den]) (.agg #[.int .i64 e.num, .int .i64 e.den])).run Tryd.prog W = .ok true W := fun W => by rw [eq_frac, h5]
 clear h5
 have H8 := Box.mk h8
 clear h8
 have H9 := Box.mk h9
 clear h9
 have hlen : ks.length = es.length := by simpa using h7
 have HLEN := Box.mk hlen
 clear hlen h7
 obtain ⟨q, hq⟩ : ∃ q, eqL ks es = q := ⟨_, rfl⟩
 have HQ := Box.mk hq
 rw [hq]
 clear hq
 go_enter Tryd.func39, Tryd.ntmps39
 go_upto_region 1 with (fail)
 generalize ((w.alloc (.cells (ndC d (.slice A1 d.ms.length a1) (.slice A2 d.bys.length a2) (.slice A3 ks.length a3)) exT)).alloc (.cells (ndC e (.slice B1 e.ms.length b1) (.slice B2 e.bys.length b2) (.slice B3 es.length b3)) exT)) = W at HS ⊢
 obtain ⟨x0, x1, x2, x3, x4, x5, x6, x7, x8, x9, x10⟩ := blk11z HS.out.b1
 obtain ⟨y0, y1, y2, y3, y4, y5, y6, y7, y8, y9, y10⟩ := blk11z HS.out.b2
 go_wp2_with fail
 refine (rmats_any A1 B1 a1 b1 P Q d.ms e.ms _ HS.out.t1.nod.ms HS.out.t2.nod.ms).mono ?_
 rintro e9 w8 ⟨rfl, hb⟩
 rw [H8.out]
 have HS8 := Box.mk (HS.out.next hb)
 clear HS hb x0 x1 x2 x3 x4 x5 x6 x7 x8 x9 x10 y0 y1 y2 y3 y4 y5 y6 y7 y8 y9 y10
 have HS := HS8
 clear HS8
 obtain ⟨x0, x1, x2, x3, x4, x5, x6, x7, x8, x9, x10⟩ := blk11z HS.out.b1
 obtain ⟨y0, y1, y2, y3, y4, y5, y6, y7, y8, y9, y10⟩ := blk11z HS.out.b2
 go_wp2_with fail
 refine (sameTexts_any A2 _ a2 B2 _ b2 d.bys e.bys _ (HS.out.t1.nod.bys.mono fun _ _ _ _ => trivial) (HS.out.t2.nod.bys.mono fun _ _ _ _ => trivial)).mono ?_
 rintro e9 w9 ⟨rfl, hb⟩
 rw [sameB_strs, H9.out]
 have HS9 := Box.mk (HS.out.next hb)
 clear HS hb x0 x1 x2 x3 x4 x5 x6 x7 x8 x9 x10 y0 y1 y2 y3 y4 y5 y6 y7 y8 y9 y10
 have HS := HS9
 clear HS9
 obtain ⟨x0, x1, x2, x3, x4, x5, x6, x7, x8, x9, x10⟩ := blk11z HS.out.b1
 obtain ⟨y0, y1, y2, y3, y4, y5, y6, y7, y8, y9, y10⟩ := blk11z HS.out.b2
 clear g0 g1 g2 g3 g4 g6 g7 hfr
 clear h0 h1 h2 h3 h4 h6
 go_wp2_with fail
 clear x0 x1 x2 x3 x4 x5 x6 x7 x8 x9 x10 y0 y1 y2 y3 y4 y5 y6 y7 y8 y9 y10
 go_loopw [5] (fun v wr => ∃ k : Nat, k ≤ ks.length ∧ v = .int .i64 (k : Nat) ∧ E2b w wr P Q d e ks es (.slice A1 d.ms.length a1, .slice A2 d.bys.length a2, .slice A3 ks.length a3) (.slice B1 e.ms.length b1, .slice B2 e.bys.length b2, .slice B3 es.length b3) ∧ Box (eqL (ks.drop k) (es.drop k) = q)) (fun v _ => ks.length - (intOf v).toNat)
 case atStart => exact ⟨0, by omega, rfl, HS.out, HQ⟩
 case round =>
  clear HS HQ
  obtain ⟨k, hk, rfl, hS, HD⟩ := hrel
  have HS := Box.mk hS
  clear hS
  have x10 := (blk11z HS.out.b1).2.2.2.2.2.2.2.2.2.2
  have y10 := (blk11z HS.out.b2).2.2.2.2.2.2.2.2.2.2
  by_cases hlt : k < ks.length
  ·obtain ⟨x, hx⟩ : ∃ x, ks[k]? = some x := ⟨ks[k], List.getElem?_eq_getElem _⟩
   obtain ⟨y, hy⟩ : ∃ y, es[k]? = some y := ⟨es[k]'(by have := HLEN.out; omega), List.getElem?_eq_getElem _⟩
   obtain ⟨xd, xs⟩ := x
   obtain ⟨yd, ys⟩ := y
   obtain ⟨g1, o1, X1, X2, X3, rfl, -, -, k11, hTx⟩ := HS.out.t1.nod.kid k xd xs hx
   obtain ⟨g2, o2, Y1, Y2, Y3, rfl, -, -, l11, hTy⟩ := HS.out.t2.nod.kid k yd ys hy
   obtain ⟨C1, c1, rfl, -⟩ := hTx.nod.ms.form
   obtain ⟨C2, c2, rfl, -⟩ := hTx.nod.bys.form
   obtain ⟨C3, c3, rfl, -⟩ := hTx.nod.kform
   obtain ⟨D1, d1, rfl, -⟩ := hTy.nod.ms.form
   obtain ⟨D2, d2, rfl, -⟩ := hTy.nod.bys.form
   obtain ⟨D3, d3, rfl, -⟩ := hTy.nod.kform
   have HDD : Box (ks.drop k = .node xd xs :: ks.drop (k + 1) ∧ es.drop k = .node yd ys :: es.drop (k + 1)) := ⟨by rw [List.drop_eq_getElem_cons hlt, (List.getElem?_eq_some_iff.1 hx).2], by rw [List.drop_eq_getElem_cons (by have := HLEN.out; omega), (List.getElem?_eq_some_iff.1 hy).2]⟩
   have hlt2 : (k : Int) < (ks.length : Int) := by omega
   have hlt3 : (k : Int) < (es.length : Int) := by have := HLEN.out; omega
   have hlt4 : k < es.length := by omega
   have hlt0 : (0 : Int) ≤ (k : Int) := by omega
   obtain ⟨z, hz⟩ : ∃ z, eqT (.node xd xs) (.node yd ys) = z := ⟨_, rfl⟩
   have HZ := Box.mk hz
   have CQ : Box (∀ W', TreeAt W' P (.node xd xs) (.slice C1 xd.ms.length c1, .slice C2 xd.bys.length c2, .slice C3 xs.length c3) → TreeAt W' Q (.node yd ys) (.slice D1 yd.ms.length d1, .slice D2 yd.bys.length d2, .slice D3 ys.length d3) → Calls Tryd.prog 39 #[.agg (ndC xd (.slice C1 xd.ms.length c1) (.slice C2 xd.bys.length c2) (.slice C3 xs.length c3)), .agg (ndC yd (.slice D1 yd.ms.length d1) (.slice D2 yd.bys.length d2) (.slice D3 ys.length d3))] W' (RetB (.bool z) W')) := ⟨fun W' a b => by rw [← hz]; exact HH.out _ (List.mem_of_getElem? hx) (.node yd ys) P Q W' (.slice C1 xd.ms.length c1, .slice C2 xd.bys.length c2, .slice C3 xs.length c3) (.slice D1 yd.ms.length d1, .slice D2 yd.bys.length d2, .slice D3 ys.length d3) a b⟩
   have HXY : Box (TreeAt wr P (.node xd xs) (.slice C1 xd.ms.length c1, .slice C2 xd.bys.length c2, .slice C3 xs.length c3) ∧ TreeAt wr Q (.node yd ys) (.slice D1 yd.ms.length d1, .slice D2 yd.bys.length d2, .slice D3 ys.length d3)) := ⟨hTx, hTy⟩
   have HK : Box (wr.drew.cell? ⟨w.heap.size, 10, none⟩ = some (.slice (some ⟨g1, o1, none⟩) ks.length a3) ∧ wr.drew.cell? ⟨w.heap.size + 1, 10, none⟩ = some (.slice (some ⟨g2, o2, none⟩) es.length b3) ∧ (wr.drew.cell? ⟨g1, o1 + k * 11, none⟩ = some (.int .i64 xd.kind) ∧ wr.drew.cell? ⟨g1, o1 + k * 11 + 1, none⟩ = some (.int .i64 xd.fn) ∧ wr.drew.cell? ⟨g1, o1 + k * 11 + 2, none⟩ = some (.int .i64 xd.win) ∧ wr.drew.cell? ⟨g1, o1 + k * 11 + 3, none⟩ = some (.int .i64 xd.off) ∧ wr.drew.cell? ⟨g1, o1 + k * 11 + 4, none⟩ = some (.int .i64 xd.k) ∧ wr.drew.cell? ⟨g1, o1 + k * 11 + 5, none⟩ = some (.int .i64 xd.num) ∧ wr.drew.cell? ⟨g1, o1 + k * 11 + 6, none⟩ = some (.int .i64 xd.den) ∧ wr.drew.cell? ⟨g1, o1 + k * 11 + 7, none⟩ = some (.string xd.name) ∧ wr.drew.cell? ⟨g1, o1 + k * 11 + 8, none⟩ = some (.slice C1 xd.ms.length c1) ∧ wr.drew.cell? ⟨g1, o1 + k * 11 + 9, none⟩ = some (.slice C2 xd.bys.length c2) ∧ wr.drew.cell? ⟨g1, o1 + k * 11 + 10, none⟩ = some (.slice C3 xs.length c3)) ∧ (wr.drew.cell? ⟨g2, o2 + k * 11, none⟩ = some (.int .i64 yd.kind) ∧ wr.drew.cell? ⟨g2, o2 + k * 11 + 1, none⟩ = some (.int .i64 yd.fn) ∧ wr.drew.cell? ⟨g2, o2 + k * 11 + 2, none⟩ = some (.int .i64 yd.win) ∧ wr.drew.cell? ⟨g2, o2 + k * 11 + 3, none⟩ = some (.int .i64 yd.off) ∧ wr.drew.cell? ⟨g2, o2 + k * 11 + 4, none⟩ = some (.int .i64 yd.k) ∧ wr.drew.cell? ⟨g2, o2 + k * 11 + 5, none⟩ = some (.int .i64 yd.num) ∧ wr.drew.cell? ⟨g2, o2 + k * 11 + 6, none⟩ = some (.int .i64 yd.den) ∧ wr.drew.cell? ⟨g2, o2 + k * 11 + 7, none⟩ = some (.string yd.name) ∧ wr.drew.cell? ⟨g2, o2 + k * 11 + 8, none⟩ = some (.slice D1 yd.ms.length d1) ∧ wr.drew.cell? ⟨g2, o2 + k * 11 + 9, none⟩ = some (.slice D2 yd.bys.length d2) ∧ wr.drew.cell? ⟨g2, o2 + k * 11 + 10, none⟩ = some (.slice D3 ys.length d3))) := ⟨x10, y10, k11, l11⟩
   have HK0 : Box (At11 wr g1 (o1 + k * 11) xd (.slice C1 xd.ms.length c1) (.slice C2 xd.bys.length c2) (.slice C3 xs.length c3) ∧ At11 wr g2 (o2 + k * 11) yd (.slice D1 yd.ms.length d1) (.slice D2 yd.bys.length d2) (.slice D3 ys.length d3) ∧ g1 < wr.heap.size ∧ g2 < wr.heap.size) := ⟨k11, l11, World.block_lt_of_cell? wr _ k11.1, World.block_lt_of_cell? wr _ l11.1⟩
   clear hx hy hTx hTy hz k11 l11
   go_upto_region 8 with (fail)
   go_region_held3 (fun w' => w'.cell? ⟨w.heap.size, 10, none⟩ = some (.slice (some ⟨g1, o1, none⟩) ks.length a3) ∧ w'.cell? ⟨w.heap.size + 1, 10, none⟩ = some (.slice (some ⟨g2, o2, none⟩) es.length b3) ∧ (w'.cell? ⟨g1, o1 + k * 11, none⟩ = some (.int .i64 xd.kind) ∧ w'.cell? ⟨g1, o1 + k * 11 + 1, none⟩ = some (.int .i64 xd.fn) ∧ w'.cell? ⟨g1, o1 + k * 11 + 2, none⟩ = some (.int .i64 xd.win) ∧ w'.cell? ⟨g1, o1 + k * 11 + 3, none⟩ = some (.int .i64 xd.off) ∧ w'.cell? ⟨g1, o1 + k * 11 + 4, none⟩ = some (.int .i64 xd.k) ∧ w'.cell? ⟨g1, o1 + k * 11 + 5, none⟩ = some (.int .i64 xd.num) ∧ w'.cell? ⟨g1, o1 + k * 11 + 6, none⟩ = some (.int .i64 xd.den) ∧ w'.cell? ⟨g1, o1 + k * 11 + 7, none⟩ = some (.string xd.name) ∧ w'.cell? ⟨g1, o1 + k * 11 + 8, none⟩ = some (.slice C1 xd.ms.length c1) ∧ w'.cell? ⟨g1, o1 + k * 11 + 9, none⟩ = some (.slice C2 xd.bys.length c2) ∧ w'.cell? ⟨g1, o1 + k * 11 + 10, none⟩ = some (.slice C3 xs.length c3)) ∧ (w'.cell? ⟨g2, o2 + k * 11, none⟩ = some (.int .i64 yd.kind) ∧ w'.cell? ⟨g2, o2 + k * 11 + 1, none⟩ = some (.int .i64 yd.fn) ∧ w'.cell? ⟨g2, o2 + k * 11 + 2, none⟩ = some (.int .i64 yd.win) ∧ w'.cell? ⟨g2, o2 + k * 11 + 3, none⟩ = some (.int .i64 yd.off) ∧ w'.cell? ⟨g2, o2 + k * 11 + 4, none⟩ = some (.int .i64 yd.k) ∧ w'.cell? ⟨g2, o2 + k * 11 + 5, none⟩ = some (.int .i64 yd.num) ∧ w'.cell? ⟨g2, o2 + k * 11 + 6, none⟩ = some (.int .i64 yd.den) ∧ w'.cell? ⟨g2, o2 + k * 11 + 7, none⟩ = some (.string yd.name) ∧ w'.cell? ⟨g2, o2 + k * 11 + 8, none⟩ = some (.slice D1 yd.ms.length d1) ∧ w'.cell? ⟨g2, o2 + k * 11 + 9, none⟩ = some (.slice D2 yd.bys.length d2) ∧ w'.cell? ⟨g2, o2 + k * 11 + 10, none⟩ = some (.slice D3 ys.length d3)))
    (first | with_reducible exact HK.out | go_keep)
    (first
     | (go_at_call 39; (with_reducible refine (CQ.out _ ?_ ?_).mono ?_); (first | exact HXY.out.1 | exact HXY.out.1.belo (below_drewN _ 1)); (first | exact HXY.out.2 | exact HXY.out.2.belo (below_drewN _ 1)); rintro e9 w9 ⟨rfl, hb9⟩; have HS9 : Box (E2b w w9 P Q d e ks es (.slice A1 d.ms.length a1, .slice A2 d.bys.length a2, .slice (some ⟨g1, o1, none⟩) ks.length a3) (.slice B1 e.ms.length b1, .slice B2 e.bys.length b2, .slice (some ⟨g2, o2, none⟩) es.length b3)) := ⟨(HS.out.next (below_drewN _ 1)).next hb9⟩; have HK9 : Box (w9.cell? ⟨w.heap.size, 10, none⟩ = some (.slice (some ⟨g1, o1, none⟩) ks.length a3) ∧ w9.cell? ⟨w.heap.size + 1, 10, none⟩ = some (.slice (some ⟨g2, o2, none⟩) es.length b3) ∧ (w9.cell? ⟨g1, o1 + k * 11, none⟩ = some (.int .i64 xd.kind) ∧ w9.cell? ⟨g1, o1 + k * 11 + 1, none⟩ = some (.int .i64 xd.fn) ∧ w9.cell? ⟨g1, o1 + k * 11 + 2, none⟩ = some (.int .i64 xd.win) ∧ w9.cell? ⟨g1, o1 + k * 11 + 3, none⟩ = some (.int .i64 xd.off) ∧ w9.cell? ⟨g1, o1 + k * 11 + 4, none⟩ = some (.int .i64 xd.k) ∧ w9.cell? ⟨g1, o1 + k * 11 + 5, none⟩ = some (.int .i64 xd.num) ∧ w9.cell? ⟨g1, o1 + k * 11 + 6, none⟩ = some (.int .i64 xd.den) ∧ w9.cell? ⟨g1, o1 + k * 11 + 7, none⟩ = some (.string xd.name) ∧ w9.cell? ⟨g1, o1 + k * 11 + 8, none⟩ = some (.slice C1 xd.ms.length c1) ∧ w9.cell? ⟨g1, o1 + k * 11 + 9, none⟩ = some (.slice C2 xd.bys.length c2) ∧ w9.cell? ⟨g1, o1 + k * 11 + 10, none⟩ = some (.slice C3 xs.length c3)) ∧ (w9.cell? ⟨g2, o2 + k * 11, none⟩ = some (.int .i64 yd.kind) ∧ w9.cell? ⟨g2, o2 + k * 11 + 1, none⟩ = some (.int .i64 yd.fn) ∧ w9.cell? ⟨g2, o2 + k * 11 + 2, none⟩ = some (.int .i64 yd.win) ∧ w9.cell? ⟨g2, o2 + k * 11 + 3, none⟩ = some (.int .i64 yd.off) ∧ w9.cell? ⟨g2, o2 + k * 11 + 4, none⟩ = some (.int .i64 yd.k) ∧ w9.cell? ⟨g2, o2 + k * 11 + 5, none⟩ = some (.int .i64 yd.num) ∧ w9.cell? ⟨g2, o2 + k * 11 + 6, none⟩ = some (.int .i64 yd.den) ∧ w9.cell? ⟨g2, o2 + k * 11 + 7, none⟩ = some (.string yd.name) ∧ w9.cell? ⟨g2, o2 + k * 11 + 8, none⟩ = some (.slice D1 yd.ms.length d1) ∧ w9.cell? ⟨g2, o2 + k * 11 + 9, none⟩ = some (.slice D2 yd.bys.length d2) ∧ w9.cell? ⟨g2, o2 + k * 11 + 10, none⟩ = some (.slice D3 ys.length d3))) := ⟨(blk11z HS9.out.b1).2.2.2.2.2.2.2.2.2.2, (blk11z HS9.out.b2).2.2.2.2.2.2.2.2.2.2, At11.keep (w := wr.drew) HK0.out.1 hb9 HK0.out.2.2.1, At11.keep (w := wr.drew) HK0.out.2.1 hb9 HK0.out.2.2.2⟩; clear HK; have HK := Box.mk HK9.out; clear HK9 hb9))
   clear HK HK0 HXY CQ x10 y10
   cases z
   ·go_wp2_with fail
    go_ret
    exact ⟨ret_bool (by rw [← HD.out, HDD.out.1, HDD.out.2, eqL, HZ.out]; rfl), HS9.out.below⟩
   ·go_wp2_with fail
    go_roundw
    case rel => exact ⟨k + 1, by omega, by go_num, HS9.out, ⟨by rw [← HD.out, HDD.out.1, HDD.out.2, eqL, HZ.out]; simp⟩⟩
    case measure => simp [intOf]; omega
  ·have hlt2 : ¬ (k : Int) < (ks.length : Int) := by omega
   go_wp2_with fail
   go_ret
   exact ⟨ret_bool (by rw [← HD.out, List.drop_eq_nil_of_le (by omega), List.drop_eq_nil_of_le (by have := HLEN.out; omega), eqL]), HS.out.below⟩
theorem requal_any : ∀ t, REqOk t := Tree.ind fun d ks ih u P Q w s r hT hU => by
 obtain ⟨e, es⟩ := u
 show Calls _ _ #[.agg (ndC d s.1 s.2.1 s.2.2), .agg (ndC e r.1 r.2.1 r.2.2)] w (RetB (.bool (eqT (.node d ks) (.node e es))) w)
 cases h0 : (d.kind == e.kind)
 ·rw [show eqT (.node d ks) (.node e es) = false by rw [eqT]; unfold ndB; simp only [h0, Bool.false_and, Bool.and_false, Bool.true_and]]
  exact requal_0 d e ks es ih P Q w s r hT hU h0
 cases h1 : (d.fn == e.fn)
 ·rw [show eqT (.node d ks) (.node e es) = false by rw [eqT]; unfold ndB; simp only [h0, h1, Bool.false_and, Bool.and_false, Bool.true_and]]
  exact requal_1 d e ks es ih P Q w s r hT hU h0 h1
 cases h2 : (d.win == e.win)
 ·rw [show eqT (.node d ks) (.node e es) = false by rw [eqT]; unfold ndB; simp only [h0, h1, h2, Bool.false_and, Bool.and_false, Bool.true_and]]
  exact requal_2 d e ks es ih P Q w s r hT hU h0 h1 h2
 cases h3 : (d.off == e.off)
 ·rw [show eqT (.node d ks) (.node e es) = false by rw [eqT]; unfold ndB; simp only [h0, h1, h2, h3, Bool.false_and, Bool.and_false, Bool.true_and]]
  exact requal_3 d e ks es ih P Q w s r hT hU h0 h1 h2 h3
 cases h4 : (d.k == e.k)
 ·rw [show eqT (.node d ks) (.node e es) = false by rw [eqT]; unfold ndB; simp only [h0, h1, h2, h3, h4, Bool.false_and, Bool.and_false, Bool.true_and]]
  exact requal_4 d e ks es ih P Q w s r hT hU h0 h1 h2 h3 h4
 cases h5 : ((d.num == e.num) && (d.den == e.den))
 ·rw [show eqT (.node d ks) (.node e es) = false by rw [eqT]; unfold ndB; simp only [h0, h1, h2, h3, h4, h5, Bool.false_and, Bool.and_false, Bool.true_and]]
  exact requal_5 d e ks es ih P Q w s r hT hU h0 h1 h2 h3 h4 h5
 cases h6 : (d.name.toList == e.name.toList)
 ·rw [show eqT (.node d ks) (.node e es) = false by rw [eqT]; unfold ndB; simp only [h0, h1, h2, h3, h4, h5, h6, Bool.false_and, Bool.and_false, Bool.true_and]]
  exact requal_6 d e ks es ih P Q w s r hT hU h0 h1 h2 h3 h4 h5 h6
 cases h7 : (ks.length == es.length)
 ·rw [show eqT (.node d ks) (.node e es) = false by rw [eqT]; unfold ndB; rw [eqL_len (by simpa using h7)]; simp]
  exact requal_7 d e ks es ih P Q w s r hT hU h0 h1 h2 h3 h4 h5 h6 h7
 cases h8 : matsB d.ms e.ms
 ·rw [show eqT (.node d ks) (.node e es) = false by rw [eqT]; unfold ndB; simp only [h0, h1, h2, h3, h4, h5, h6, h8, Bool.false_and, Bool.and_false, Bool.true_and]]
  exact requal_8 d e ks es ih P Q w s r hT hU h0 h1 h2 h3 h4 h5 h6 h7 h8
 cases h9 : strsB d.bys e.bys
 ·rw [show eqT (.node d ks) (.node e es) = false by rw [eqT]; unfold ndB; simp only [h0, h1, h2, h3, h4, h5, h6, h8, h9, Bool.false_and, Bool.and_false, Bool.true_and]]
  exact requal_9 d e ks es ih P Q w s r hT hU h0 h1 h2 h3 h4 h5 h6 h7 h8 h9
 rw [show eqT (.node d ks) (.node e es) = eqL ks es by rw [eqT]; unfold ndB; simp only [h0, h1, h2, h3, h4, h5, h6, h8, h9, Bool.true_and]]
 exact requal_10 d e ks es ih P Q w s r hT hU h0 h1 h2 h3 h4 h5 h6 h7 h8 h9
end
end Go.Proofs.YtipafbppaaflcaaDoor
