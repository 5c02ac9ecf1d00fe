/- Contracts, packed: Jo. -/
import Derived.Test.YtipafbppaaflcaaDoorPu36
set_option linter.unusedVariables false
set_option linter.unusedSimpArgs false
namespace Go.Proofs.YtipafbppaaflcaaDoor
section
open Go.RowKit FracM
set_option maxRecDepth 100000 in
theorem eq_frac (x0 y0 x1 y1 : Int) (w : World) : (Op.equalIn 10000 24 (.agg #[.int .i64 x0, .int .i64 x1]) (.agg #[.int .i64 y0, .int .i64 y1])).run Tryd.prog w = .ok ((x0 == y0) && (x1 == y1)) w := by
 have hS : Tryd.prog.underlying 24 = some (.struct (Tryd.prog.fieldsOf 24)) := by kernel_rfl
 rw [show (10000 : Nat) = 9999 + 1 from rfl, run_equalIn_agg w 9999 24 _ _ hS (by kernel_rfl)]
 simp only [Program.fieldsOf, Tryd.underlying24]
 go_simp
 cases h0 : (x0 == y0) <;> cases h1 : (x1 == y1) <;> simp_all
/-- two nodes in boxes -/
structure E2b (w W : World) (P Q : Nat → Nat → Prop) (d e : Nd) (ks es : List Tree) (s r : Sl) : Prop where
 below : Below w.heap.size w W
 b1 : Blk W w.heap.size exT (ndC d s.1 s.2.1 s.2.2)
 b2 : Blk W (w.heap.size + 1) exT (ndC e r.1 r.2.1 r.2.2)
 t1 : TreeAt W P (.node d ks) s
 t2 : TreeAt W Q (.node e es) r
theorem E2b.next {w W W' : World} {P Q : Nat → Nat → Prop} {d e : Nd} {ks es : List Tree} {s r : Sl} (h : E2b w W P Q d e ks es s r) (hb : Below W.heap.size W W') : E2b w W' P Q d e ks es s r :=
 ⟨bthen h.below hb (Nat.le_refl _), h.b1.below hb, h.b2.below hb, h.t1.belo hb, h.t2.belo hb⟩
set_option maxHeartbeats 2000000 in
set_option maxRecDepth 100000 in
theorem pequal_0 (d e : Nd) (ks es : List Tree) (H : ∀ t ∈ ks, EqOk t) (P Q : Nat → Nat → Prop) (w : World) (s r : Sl) (hT : TreeAt w P (.node d ks) s) (hU : TreeAt w Q (.node e es) r) (h0 : (d.kind == e.kind) = false) :
  Calls Tryd.prog 29 #[.agg (ndC d s.1 s.2.1 s.2.2), .agg (ndC e r.1 r.2.1 r.2.2)] w (RetB (.bool false) w) := by
 obtain ⟨mv, bv, kv⟩ := s
 obtain ⟨mv', bv', kv'⟩ := r
 obtain ⟨A1, a1, rfl, -⟩ := hT.nod.ms.form
 obtain ⟨A2, a2, rfl, -⟩ := hT.nod.bys.form
 obtain ⟨A3, a3, rfl, -⟩ := hT.nod.kform
 obtain ⟨B1, b1, rfl, -⟩ := hU.nod.ms.form
 obtain ⟨B2, b2, rfl, -⟩ := hU.nod.bys.form
 obtain ⟨B3, b3, rfl, -⟩ := hU.nod.kform
 have HS : Box (E2b w ((w.alloc (.cells (ndC d (.slice A1 d.ms.length a1) (.slice A2 d.bys.length a2) (.slice A3 ks.length a3)) exT)).alloc (.cells (ndC e (.slice B1 e.ms.length b1) (.slice B2 e.bys.length b2) (.slice B3 es.length b3)) exT)) P Q d e ks es (.slice A1 d.ms.length a1, .slice A2 d.bys.length a2, .slice A3 ks.length a3) (.slice B1 e.ms.length b1, .slice B2 e.bys.length b2, .slice B3 es.length b3)) := ⟨bel2 _ _ _, (Blk.new _ _ _).alloc _, Blk.newAt _ _ (by simp), hT.belo (bel2 _ _ _), hU.belo (bel2 _ _ _)⟩
 have HH := Box.mk H
 clear hT hU H
 go_enter Tryd.func29, Tryd.ntmps29
 go_upto_region 1 with (fail)
 generalize ((w.alloc (.cells (ndC d (.slice A1 d.ms.length a1) (.slice A2 d.bys.length a2) (.slice A3 ks.length a3)) exT)).alloc (.cells (ndC e (.slice B1 e.ms.length b1) (.slice B2 e.bys.length b2) (.slice B3 es.length b3)) exT)) = W at HS ⊢
 obtain ⟨x0, x1, x2, x3, x4, x5, x6, x7, x8, x9, x10⟩ := blk11z HS.out.b1
 obtain ⟨y0, y1, y2, y3, y4, y5, y6, y7, y8, y9, y10⟩ := blk11z HS.out.b2
 go_wp2_with fail
 go_ret
 exact ⟨rfl, HS.out.below⟩
set_option maxHeartbeats 2000000 in
set_option maxRecDepth 100000 in
theorem pequal_1 (d e : Nd) (ks es : List Tree) (H : ∀ t ∈ ks, EqOk t) (P Q : Nat → Nat → Prop) (w : World) (s r : Sl) (hT : TreeAt w P (.node d ks) s) (hU : TreeAt w Q (.node e es) r) (h0 : (d.kind == e.kind) = true) (h1 : (d.fn == e.fn) = false) :
  Calls Tryd.prog 29 #[.agg (ndC d s.1 s.2.1 s.2.2), .agg (ndC e r.1 r.2.1 r.2.2)] w (RetB (.bool false) w) := by
 obtain ⟨mv, bv, kv⟩ := s
 obtain ⟨mv', bv', kv'⟩ := r
 obtain ⟨A1, a1, rfl, -⟩ := hT.nod.ms.form
 obtain ⟨A2, a2, rfl, -⟩ := hT.nod.bys.form
 obtain ⟨A3, a3, rfl, -⟩ := hT.nod.kform
 obtain ⟨B1, b1, rfl, -⟩ := hU.nod.ms.form
 obtain ⟨B2, b2, rfl, -⟩ := hU.nod.bys.form
 obtain ⟨B3, b3, rfl, -⟩ := hU.nod.kform
 have HS : Box (E2b w ((w.alloc (.cells (ndC d (.slice A1 d.ms.length a1) (.slice A2 d.bys.length a2) (.slice A3 ks.length a3)) exT)).alloc (.cells (ndC e (.slice B1 e.ms.length b1) (.slice B2 e.bys.length b2) (.slice B3 es.length b3)) exT)) P Q d e ks es (.slice A1 d.ms.length a1, .slice A2 d.bys.length a2, .slice A3 ks.length a3) (.slice B1 e.ms.length b1, .slice B2 e.bys.length b2, .slice B3 es.length b3)) := ⟨bel2 _ _ _, (Blk.new _ _ _).alloc _, Blk.newAt _ _ (by simp), hT.belo (bel2 _ _ _), hU.belo (bel2 _ _ _)⟩
 have HH := Box.mk H
 clear hT hU H
 go_enter Tryd.func29, Tryd.ntmps29
 go_upto_region 1 with (fail)
 generalize ((w.alloc (.cells (ndC d (.slice A1 d.ms.length a1) (.slice A2 d.bys.length a2) (.slice A3 ks.length a3)) exT)).alloc (.cells (ndC e (.slice B1 e.ms.length b1) (.slice B2 e.bys.length b2) (.slice B3 es.length b3)) exT)) = W at HS ⊢
 obtain ⟨x0, x1, x2, x3, x4, x5, x6, x7, x8, x9, x10⟩ := blk11z HS.out.b1
 obtain ⟨y0, y1, y2, y3, y4, y5, y6, y7, y8, y9, y10⟩ := blk11z HS.out.b2
 go_wp2_with fail
 go_ret
 exact ⟨rfl, HS.out.below⟩
set_option maxHeartbeats 2000000 in
set_option maxRecDepth 100000 in
theorem pequal_2 (d e : Nd) (ks es : List Tree) (H : ∀ t ∈ ks, EqOk t) (P Q : Nat → Nat → Prop) (w : World) (s r : Sl) (hT : TreeAt w P (.node d ks) s) (hU : TreeAt w Q (.node e es) r) (h0 : (d.kind == e.kind) = true) (h1 : (d.fn == e.fn) = true) (h2 : (d.win == e.win) = false) :
  Calls Tryd.prog 29 #[.agg (ndC d s.1 s.2.1 s.2.2), .agg (ndC e r.1 r.2.1 r.2.2)] w (RetB (.bool false) w) := by
 obtain ⟨mv, bv, kv⟩ := s
 obtain ⟨mv', bv', kv'⟩ := r
 obtain ⟨A1, a1, rfl, -⟩ := hT.nod.ms.form
 obtain ⟨A2, a2, rfl, -⟩ := hT.nod.bys.form
 obtain ⟨A3, a3, rfl, -⟩ := hT.nod.kform
 obtain ⟨B1, b1, rfl, -⟩ := hU.nod.ms.form
 obtain ⟨B2, b2, rfl, -⟩ := hU.nod.bys.form
 obtain ⟨B3, b3, rfl, -⟩ := hU.nod.kform
 have HS : Box (E2b w ((w.alloc (.cells (ndC d (.slice A1 d.ms.length a1) (.slice A2 d.bys.length a2) (.slice A3 ks.length a3)) exT)).alloc (.cells (ndC e (.slice B1 e.ms.length b1) (.slice B2 e.bys.length b2) (.slice B3 es.length b3)) exT)) P Q d e ks es (.slice A1 d.ms.length a1, .slice A2 d.bys.length a2, .slice A3 ks.length a3) (.slice B1 e.ms.length b1, .slice B2 e.bys.length b2, .slice B3 es.length b3)) := ⟨bel2 _ _ _, (Blk.new _ _ _).alloc _, Blk.newAt _ _ (by simp), hT.belo (bel2 _ _ _), hU.belo (bel2 _ _ _)⟩
 have HH := Box.mk H
 clear hT hU H
 go_enter Tryd.func29, Tryd.ntmps29
 go_upto_region 1 with (fail)
 generalize ((w.alloc (.cells (ndC d (.slice A1 d.ms.length a1) (.slice A2 d.bys.length a2) (.slice A3 ks.length a3)) exT)).alloc (.cells (ndC e (.slice B1 e.ms.length b1) (.slice B2 e.bys.length b2) (.slice B3 es.length b3)) exT)) = W at HS ⊢
 obtain ⟨x0, x1, x2, x3, x4, x5, x6, x7, x8, x9, x10⟩ := blk11z HS.out.b1
 obtain ⟨y0, y1, y2, y3, y4, y5, y6, y7, y8, y9, y10⟩ := blk11z HS.out.b2
 go_wp2_with fail
 go_ret
 exact ⟨rfl, HS.out.below⟩
set_option maxHeartbeats 2000000 in
set_option maxRecDepth 100000 in
theorem pequal_3 (d e : Nd) (ks es : List Tree) (H : ∀ t ∈ ks, EqOk t) (P Q : Nat → Nat → Prop) (w : World) (s r : Sl) (hT : TreeAt w P (.node d ks) s) (hU : TreeAt w Q (.node e es) r) (h0 : (d.kind == e.kind) = true) (h1 : (d.fn == e.fn) = true) (h2 : (d.win == e.win) = true) (h3 : (d.off == e.off) = false) :
  Calls Tryd.prog 29 #[.agg (ndC d s.1 s.2.1 s.2.2), .agg (ndC e r.1 r.2.1 r.2.2)] w (RetB (.bool false) w) := by
 obtain ⟨mv, bv, kv⟩ := s
 obtain ⟨mv', bv', kv'⟩ := r
 obtain ⟨A1, a1, rfl, -⟩ := hT.nod.ms.form
 obtain ⟨A2, a2, rfl, -⟩ := hT.nod.bys.form
 obtain ⟨A3, a3, rfl, -⟩ := hT.nod.kform
 obtain ⟨B1, b1, rfl, -⟩ := hU.nod.ms.form
 obtain ⟨B2, b2, rfl, -⟩ := hU.nod.bys.form
 obtain ⟨B3, b3, rfl, -⟩ := hU.nod.kform
 have HS : Box (E2b w ((w.alloc (.cells (ndC d (.slice A1 d.ms.length a1) (.slice A2 d.bys.length a2) (.slice A3 ks.length a3)) exT)).alloc (.cells (ndC e (.slice B1 e.ms.length b1) (.slice B2 e.bys.length b2) (.slice B3 es.length b3)) exT)) P Q d e ks es (.slice A1 d.ms.length a1, .slice A2 d.bys.length a2, .slice A3 ks.length a3) (.slice B1 e.ms.length b1, .slice B2 e.bys.length b2, .slice B3 es.length b3)) := ⟨bel2 _ _ _, (Blk.new _ _ _).alloc _, Blk.newAt _ _ (by simp), hT.belo (bel2 _ _ _), hU.belo (bel2 _ _ _)⟩
 have HH := Box.mk H
 clear hT hU H
 go_enter Tryd.func29, Tryd.ntmps29
 go_upto_region 1 with (fail)
 generalize ((w.alloc (.cells (ndC d (.slice A1 d.ms.length a1) (.slice A2 d.bys.length a2) (.slice A3 ks.length a3)) exT)).alloc (.cells (ndC e (.slice B1 e.ms.length b1) (.slice B2 e.bys.length b2) (.slice B3 es.length b3)) exT)) = W at HS ⊢
 obtain ⟨x0, x1, x2, x3, x4, x5, x6, x7, x8, x9, x10⟩ := blk11z HS.out.b1
 obtain ⟨y0, y1, y2, y3, y4, y5, y6, y7, y8, y9, y10⟩ := blk11z HS.out.b2
 go_wp2_with fail
 go_ret
 exact ⟨rfl, HS.out.below⟩
set_option maxHeartbeats 2000000 in
set_option maxRecDepth 100000 in
theorem pequal_4 (d e : Nd) (ks es : List Tree) (H : ∀ t ∈ ks, EqOk t) (P Q : Nat → Nat → Prop) (w : World) (s r : Sl) (hT : TreeAt w P (.node d ks) s) (hU : TreeAt w Q (.node e es) r) (h0 : (d.kind == e.kind) = true) (h1 : (d.fn == e.fn) = true) (h2 : (d.win == e.win) = true) (h3 : (d.off == e.off) = true) (h4 : (d.k == e.k) = false) :
  Calls Tryd.prog 29 #[.agg (ndC d s.1 s.2.1 s.2.2), .agg (ndC e r.1 r.2.1 r.2.2)] w (RetB (.bool false) w) := by
 obtain ⟨mv, bv, kv⟩ := s
 obtain ⟨mv', bv', kv'⟩ := r
 obtain ⟨A1, a1, rfl, -⟩ := hT.nod.ms.form
 obtain ⟨A2, a2, rfl, -⟩ := hT.nod.bys.form
 obtain ⟨A3, a3, rfl, -⟩ := hT.nod.kform
 obtain ⟨B1, b1, rfl, -⟩ := hU.nod.ms.form
 obtain ⟨B2, b2, rfl, -⟩ := hU.nod.bys.form
 obtain ⟨B3, b3, rfl, -⟩ := hU.nod.kform
 have HS : Box (E2b w ((w.alloc (.cells (ndC d (.slice A1 d.ms.length a1) (.slice A2 d.bys.length a2) (.slice A3 ks.length a3)) exT)).alloc (.cells (ndC e (.slice B1 e.ms.length b1) (.slice B2 e.bys.length b2) (.slice B3 es.length b3)) exT)) P Q d e ks es (.slice A1 d.ms.length a1, .slice A2 d.bys.length a2, .slice A3 ks.length a3) (.slice B1 e.ms.length b1, .slice B2 e.bys.length b2, .slice B3 es.length b3)) := ⟨bel2 _ _ _, (Blk.new _ _ _).alloc _, Blk.newAt _ _ (by simp), hT.belo (bel2 _ _ _), hU.belo (bel2 _ _ _)⟩
 have HH := Box.mk H
 clear hT hU H
 go_enter Tryd.func29, Tryd.ntmps29
 go_upto_region 1 with (fail)
 generalize ((w.alloc (.cells (ndC d (.slice A1 d.ms.length a1) (.slice A2 d.bys.length a2) (.slice A3 ks.length a3)) exT)).alloc (.cells (ndC e (.slice B1 e.ms.length b1) (.slice B2 e.bys.length b2) (.slice B3 es.length b3)) exT)) = W at HS ⊢
 obtain ⟨x0, x1, x2, x3, x4, x5, x6, x7, x8, x9, x10⟩ := blk11z HS.out.b1
 obtain ⟨y0, y1, y2, y3, y4, y5, y6, y7, y8, y9, y10⟩ := blk11z HS.out.b2
 go_wp2_with fail
 go_ret
 exact ⟨rfl, HS.out.below⟩
set_option maxHeartbeats 2000000 in
set_option maxRecDepth 100000 in
theorem pequal_5 (d e : Nd) (ks es : List Tree) (H : ∀ t ∈ ks, EqOk t) (P Q : Nat → Nat → Prop) (w : World) (s r : Sl) (hT : TreeAt w P (.node d ks) s) (hU : TreeAt w Q (.node e es) r) (h0 : (d.kind == e.kind) = true) (h1 : (d.fn == e.fn) = true) (h2 : (d.win == e.win) = true) (h3 : (d.off == e.off) = true) (h4 : (d.k == e.k) = true) (h5 : ((d.num == e.num) && (d.den == e.den)) = false) :
  Calls Tryd.prog 29 #[.agg (ndC d s.1 s.2.1 s.2.2), .agg (ndC e r.1 r.2.1 r.2.2)] w (RetB (.bool false) w) := by
 obtain ⟨mv, bv, kv⟩ := s
 obtain ⟨mv', bv', kv'⟩ := r
 obtain ⟨A1, a1, rfl, -⟩ := hT.nod.ms.form
 obtain ⟨A2, a2, rfl, -⟩ := hT.nod.bys.form
 obtain ⟨A3, a3, rfl, -⟩ := hT.nod.kform
 obtain ⟨B1, b1, rfl, -⟩ := hU.nod.ms.form
 obtain ⟨B2, b2, rfl, -⟩ := hU.nod.bys.form
 obtain ⟨B3, b3, rfl, -⟩ := hU.nod.kform
 have HS : Box (E2b w ((w.alloc (.cells (ndC d (.slice A1 d.ms.length a1) (.slice A2 d.bys.length a2) (.slice A3 ks.length a3)) exT)).alloc (.cells (ndC e (.slice B1 e.ms.length b1) (.slice B2 e.bys.length b2) (.slice B3 es.length b3)) exT)) P Q d e ks es (.slice A1 d.ms.length a1, .slice A2 d.bys.length a2, .slice A3 ks.length a3) (.slice B1 e.ms.length b1, .slice B2 e.bys.length b2, .slice B3 es.length b3)) := ⟨bel2 _ _ _, (Blk.new _ _ _).alloc _, Blk.newAt _ _ (by simp), hT.belo (bel2 _ _ _), hU.belo (bel2 _ _ _)⟩
 have HH := Box.mk H
 clear hT hU H
 have hfr : ∀ W : World, (Op.equalIn 10000 24 (.agg #[.int .i64 d.num, .int .i64 d.den]) (.agg #[.int .i64 e.num, .int .i64 e.den])).run Tryd.prog W = .ok false W := fun W => by rw [eq_frac, h5]
 clear h5
 go_enter Tryd.func29, Tryd.ntmps29
 go_upto_region 1 with (fail)
 generalize ((w.alloc (.cells (ndC d (.slice A1 d.ms.length a1) (.slice A2 d.bys.length a2) (.slice A3 ks.length a3)) exT)).alloc (.cells (ndC e (.slice B1 e.ms.length b1) (.slice B2 e.bys.length b2) (.slice B3 es.length b3)) exT)) = W at HS ⊢
 obtain ⟨x0, x1, x2, x3, x4, x5, x6, x7, x8, x9, x10⟩ := blk11z HS.out.b1
 obtain ⟨y0, y1, y2, y3, y4, y5, y6, y7, y8, y9, y10⟩ := blk11z HS.out.b2
 go_wp2_with fail
 go_ret
 exact ⟨rfl, HS.out.below⟩
set_option maxHeartbeats 2000000 in
set_option maxRecDepth 100000 in
theorem pequal_6 (d e : Nd) (ks es : List Tree) (H : ∀ t ∈ ks, EqOk t) (P Q : Nat → Nat → Prop) (w : World) (s r : Sl) (hT : TreeAt w P (.node d ks) s) (hU : TreeAt w Q (.node e es) r) (h0 : (d.kind == e.kind) = true) (h1 : (d.fn == e.fn) = true) (h2 : (d.win == e.win) = true) (h3 : (d.off == e.off) = true) (h4 : (d.k == e.k) = true) (h5 : ((d.num == e.num) && (d.den == e.den)) = true) (h6 : (d.name.toList == e.name.toList) = false) :
  Calls Tryd.prog 29 #[.agg (ndC d s.1 s.2.1 s.2.2), .agg (ndC e r.1 r.2.1 r.2.2)] w (RetB (.bool false) w) := by
 obtain ⟨mv, bv, kv⟩ := s
 obtain ⟨mv', bv', kv'⟩ := r
 obtain ⟨A1, a1, rfl, -⟩ := hT.nod.ms.form
 obtain ⟨A2, a2, rfl, -⟩ := hT.nod.bys.form
 obtain ⟨A3, a3, rfl, -⟩ := hT.nod.kform
 obtain ⟨B1, b1, rfl, -⟩ := hU.nod.ms.form
 obtain ⟨B2, b2, rfl, -⟩ := hU.nod.bys.form
 obtain ⟨B3, b3, rfl, -⟩ := hU.nod.kform
 have HS : Box (E2b w ((w.alloc (.cells (ndC d (.slice A1 d.ms.length a1) (.slice A2 d.bys.length a2) (.slice A3 ks.length a3)) exT)).alloc (.cells (ndC e (.slice B1 e.ms.length b1) (.slice B2 e.bys.length b2) (.slice B3 es.length b3)) exT)) P Q d e ks es (.slice A1 d.ms.length a1, .slice A2 d.bys.length a2, .slice A3 ks.length a3) (.slice B1 e.ms.length b1, .slice B2 e.bys.length b2, .slice B3 es.length b3)) := ⟨bel2 _ _ _, (Blk.new _ _ _).alloc _, Blk.newAt _ _ (by simp), hT.belo (bel2 _ _ _), hU.belo (bel2 _ _ _)⟩
 have HH := Box.mk H
 clear hT hU H
 have hfr : ∀ W : World, (Op.equalIn 10000 24 (.agg #[.int .i64 d.num, .int .i64 d.den]) (.agg #[.int .i64 e.num, .int .i64 e.den])).run Tryd.prog W = .ok true W := fun W => by rw [eq_frac, h5]
 clear h5
 go_enter Tryd.func29, Tryd.ntmps29
 go_upto_region 1 with (fail)
 generalize ((w.alloc (.cells (ndC d (.slice A1 d.ms.length a1) (.slice A2 d.bys.length a2) (.slice A3 ks.length a3)) exT)).alloc (.cells (ndC e (.slice B1 e.ms.length b1) (.slice B2 e.bys.length b2) (.slice B3 es.length b3)) exT)) = W at HS ⊢
 obtain ⟨x0, x1, x2, x3, x4, x5, x6, x7, x8, x9, x10⟩ := blk11z HS.out.b1
 obtain ⟨y0, y1, y2, y3, y4, y5, y6, y7, y8, y9, y10⟩ := blk11z HS.out.b2
 go_wp2_with fail
 go_ret
 exact ⟨rfl, HS.out.below⟩
set_option maxHeartbeats 2000000 in
set_option maxRecDepth 100000 in
theorem pequal_7 (d e : Nd) (ks es : List Tree) (H : ∀ t ∈ ks, EqOk t) (P Q : Nat → Nat → Prop) (w : World) (s r : Sl) (hT : TreeAt w P (.node d ks) s) (hU : TreeAt w Q (.node e es) r) (h0 : (d.kind == e.kind) = true) (h1 : (d.fn == e.fn) = true) (h2 : (d.win == e.win) = true) (h3 : (d.off == e.off) = true) (h4 : (d.k == e.k) = true) (h5 : ((d.num == e.num) && (d.den == e.den)) = true) (h6 : (d.name.toList == e.name.toList) = true) (h7 : matsB d.ms e.ms = false) :
  Calls Tryd.prog 29 #[.agg (ndC d s.1 s.2.1 s.2.2), .agg (ndC e r.1 r.2.1 r.2.2)] w (RetB (.bool false) w) := by
 obtain ⟨mv, bv, kv⟩ := s
 obtain ⟨mv', bv', kv'⟩ := r
 obtain ⟨A1, a1, rfl, -⟩ := hT.nod.ms.form
 obtain ⟨A2, a2, rfl, -⟩ := hT.nod.bys.form
 obtain ⟨A3, a3, rfl, -⟩ := hT.nod.kform
 obtain ⟨B1, b1, rfl, -⟩ := hU.nod.ms.form
 obtain ⟨B2, b2, rfl, -⟩ := hU.nod.bys.form
 obtain ⟨B3, b3, rfl, -⟩ := hU.nod.kform
 have HS : Box (E2b w ((w.alloc (.cells (ndC d (.slice A1 d.ms.length a1) (.slice A2 d.bys.length a2) (.slice A3 ks.length a3)) exT)).alloc (.cells (ndC e (.slice B1 e.ms.length b1) (.slice B2 e.bys.length b2) (.slice B3 es.length b3)) exT)) P Q d e ks es (.slice A1 d.ms.length a1, .slice A2 d.bys.length a2, .slice A3 ks.length a3) (.slice B1 e.ms.length b1, .slice B2 e.bys.length b2, .slice B3 es.length b3)) := ⟨bel2 _ _ _, (Blk.new _ _ _).alloc _, Blk.newAt _ _ (by simp), hT.belo (bel2 _ _ _), hU.belo (bel2 _ _ _)⟩
 have HH := Box.mk H
 clear hT hU H
 have hfr : ∀ W : World, (Op.equalIn 10000 24 (.agg #[.int .i64 d.num, .int .i64 d.den]) (.agg #[.int .i64 e.num, .int .i64 e.den])).run Tryd.prog W = .ok true W := fun W => by rw [eq_frac, h5]
 clear h5
 have H7 := Box.mk h7
 clear h7
 go_enter Tryd.func29, Tryd.ntmps29
 go_upto_region 1 with (fail)
 generalize ((w.alloc (.cells (ndC d (.slice A1 d.ms.length a1) (.slice A2 d.bys.length a2) (.slice A3 ks.length a3)) exT)).alloc (.cells (ndC e (.slice B1 e.ms.length b1) (.slice B2 e.bys.length b2) (.slice B3 es.length b3)) exT)) = W at HS ⊢
 obtain ⟨x0, x1, x2, x3, x4, x5, x6, x7, x8, x9, x10⟩ := blk11z HS.out.b1
 obtain ⟨y0, y1, y2, y3, y4, y5, y6, y7, y8, y9, y10⟩ := blk11z HS.out.b2
 go_wp2_with fail
 refine (pmats_any A1 B1 a1 b1 P Q d.ms e.ms _ HS.out.t1.nod.ms HS.out.t2.nod.ms).mono ?_
 rintro e9 w7 ⟨rfl, hb⟩
 rw [H7.out]
 have HS7 := Box.mk (HS.out.next hb)
 clear HS hb x0 x1 x2 x3 x4 x5 x6 x7 x8 x9 x10 y0 y1 y2 y3 y4 y5 y6 y7 y8 y9 y10
 have HS := HS7
 clear HS7
 obtain ⟨x0, x1, x2, x3, x4, x5, x6, x7, x8, x9, x10⟩ := blk11z HS.out.b1
 obtain ⟨y0, y1, y2, y3, y4, y5, y6, y7, y8, y9, y10⟩ := blk11z HS.out.b2
 go_wp2_with fail
 go_ret
 exact ⟨rfl, HS.out.below⟩
set_option maxHeartbeats 2000000 in
set_option maxRecDepth 100000 in
theorem pequal_8 (d e : Nd) (ks es : List Tree) (H : ∀ t ∈ ks, EqOk t) (P Q : Nat → Nat → Prop) (w : World) (s r : Sl) (hT : TreeAt w P (.node d ks) s) (hU : TreeAt w Q (.node e es) r) (h0 : (d.kind == e.kind) = true) (h1 : (d.fn == e.fn) = true) (h2 : (d.win == e.win) = true) (h3 : (d.off == e.off) = true) (h4 : (d.k == e.k) = true) (h5 : ((d.num == e.num) && (d.den == e.den)) = true) (h6 : (d.name.toList == e.name.toList) = true) (h7 : matsB d.ms e.ms = true) (h8 : strsB d.bys e.bys = false) :
  Calls Tryd.prog 29 #[.agg (ndC d s.1 s.2.1 s.2.2), .agg (ndC e r.1 r.2.1 r.2.2)] w (RetB (.bool false) w) := by
 obtain ⟨mv, bv, kv⟩ := s
 obtain ⟨mv', bv', kv'⟩ := r
 obtain ⟨A1, a1, rfl, -⟩ := hT.nod.ms.form
 obtain ⟨A2, a2, rfl, -⟩ := hT.nod.bys.form
 obtain ⟨A3, a3, rfl, -⟩ := hT.nod.kform
 obtain ⟨B1, b1, rfl, -⟩ := hU.nod.ms.form
 obtain ⟨B2, b2, rfl, -⟩ := hU.nod.bys.form
 obtain ⟨B3, b3, rfl, -⟩ := hU.nod.kform
 have HS : Box (E2b w ((w.alloc (.cells (ndC d (.slice A1 d.ms.length a1) (.slice A2 d.bys.length a2) (.slice A3 ks.length a3)) exT)).alloc (.cells (ndC e (.slice B1 e.ms.length b1) (.slice B2 e.bys.length b2) (.slice B3 es.length b3)) exT)) P Q d e ks es (.slice A1 d.ms.length a1, .slice A2 d.bys.length a2, .slice A3 ks.length a3) (.slice B1 e.ms.length b1, .slice B2 e.bys.length b2, .slice B3 es.length b3)) := ⟨bel2 _ _ _, (Blk.new _ _ _).alloc _, Blk.newAt _ _ (by simp), hT.belo (bel2 _ _ _), hU.belo (bel2 _ _ _)⟩
 have HH := Box.mk H
 clear hT hU H
 have hfr : ∀ W : World, (Op.equalIn 10000 24 (.agg #[.int .i64 d.num, .int .i64 d.den]) (.agg #[.int .i64 e.num, .int .i64 e.den])).run Tryd.prog W = .ok true W := fun W => by rw [eq_frac, h5]
 clear h5
 have H7 := Box.mk h7
 clear h7
 have H8 := Box.mk h8
 clear h8
 go_enter Tryd.func29, Tryd.ntmps29
 go_upto_region 1 with (fail)
 generalize ((w.alloc (.cells (ndC d (.slice A1 d.ms.length a1) (.slice A2 d.bys.length a2) (.slice A3 ks.length a3)) exT)).alloc (.cells (ndC e (.slice B1 e.ms.length b1) (.slice B2 e.bys.length b2) (.slice B3 es.length b3)) exT)) = W at HS ⊢
 obtain ⟨x0, x1, x2, x3, x4, x5, x6, x7, x8, x9, x10⟩ := blk11z HS.out.b1
 obtain ⟨y0, y1, y2, y3, y4, y5, y6, y7, y8, y9, y10⟩ := blk11z HS.out.b2
 go_wp2_with fail
 refine (pmats_any A1 B1 a1 b1 P Q d.ms e.ms _ HS.out.t1.nod.ms HS.out.t2.nod.ms).mono ?_
 rintro e9 w7 ⟨rfl, hb⟩
 rw [H7.out]
 have HS7 := Box.mk (HS.out.next hb)
 clear HS hb x0 x1 x2 x3 x4 x5 x6 x7 x8 x9 x10 y0 y1 y2 y3 y4 y5 y6 y7 y8 y9 y10
 have HS := HS7
 clear HS7
 obtain ⟨x0, x1, x2, x3, x4, x5, x6, x7, x8, x9, x10⟩ := blk11z HS.out.b1
 obtain ⟨y0, y1, y2, y3, y4, y5, y6, y7, y8, y9, y10⟩ := blk11z HS.out.b2
 go_wp2_with fail
 refine (pstrs_any A2 B2 a2 b2 P Q d.bys e.bys _ HS.out.t1.nod.bys HS.out.t2.nod.bys).mono ?_
 rintro e9 w8 ⟨rfl, hb⟩
 rw [H8.out]
 have HS8 := Box.mk (HS.out.next hb)
 clear HS hb x0 x1 x2 x3 x4 x5 x6 x7 x8 x9 x10 y0 y1 y2 y3 y4 y5 y6 y7 y8 y9 y10
 have HS := HS8
 clear HS8
 obtain ⟨x0, x1, x2, x3, x4, x5, x6, x7, x8, x9, x10⟩ := blk11z HS.out.b1
 obtain ⟨y0, y1, y2, y3, y4, y5, y6, y7, y8, y9, y10⟩ := blk11z HS.out.b2
 go_wp2_with fail
 go_ret
 exact ⟨rfl, HS.out.below⟩
set_option maxHeartbeats 2000000 in
set_option maxRecDepth 100000 in
theorem pequal_9 (d e : Nd) (ks es : List Tree) (H : ∀ t ∈ ks, EqOk t) (P Q : Nat → Nat → Prop) (w : World) (s r : Sl) (hT : TreeAt w P (.node d ks) s) (hU : TreeAt w Q (.node e es) r) (h0 : (d.kind == e.kind) = true) (h1 : (d.fn == e.fn) = true) (h2 : (d.win == e.win) = true) (h3 : (d.off == e.off) = true) (h4 : (d.k == e.k) = true) (h5 : ((d.num == e.num) && (d.den == e.den)) = true) (h6 : (d.name.toList == e.name.toList) = true) (h7 : matsB d.ms e.ms = true) (h8 : strsB d.bys e.bys = true) (h9 : eqL ks es = false) :
  Calls Tryd.prog 29 #[.agg (ndC d s.1 s.2.1 s.2.2), .agg (ndC e r.1 r.2.1 r.2.2)] w (RetB (.bool false) w) := by
 obtain ⟨mv, bv, kv⟩ := s
 obtain ⟨mv', bv', kv'⟩ := r
 obtain ⟨A1, a1, rfl, -⟩ := hT.nod.ms.form
 obtain ⟨A2, a2, rfl, -⟩ := hT.nod.bys.form
 obtain ⟨A3, a3, rfl, -⟩ := hT.nod.kform
 obtain ⟨B1, b1, rfl, -⟩ := hU.nod.ms.form
 obtain ⟨B2, b2, rfl, -⟩ := hU.nod.bys.form
 obtain ⟨B3, b3, rfl, -⟩ := hU.nod.kform
 have HS : Box (E2b w ((w.alloc (.cells (ndC d (.slice A1 d.ms.length a1) (.slice A2 d.bys.length a2) (.slice A3 ks.length a3)) exT)).alloc (.cells (ndC e (.slice B1 e.ms.length b1) (.slice B2 e.bys.length b2) (.slice B3 es.length b3)) exT)) P Q d e ks es (.slice A1 d.ms.length a1, .slice A2 d.bys.length a2, .slice A3 ks.length a3) (.slice B1 e.ms.length b1, .slice B2 e.bys.length b2, .slice B3 es.length b3)) := ⟨bel2 _ _ _, (Blk.new _ _ _).alloc _, Blk.newAt _ _ (by simp), hT.belo (bel2 _ _ _), hU.belo (bel2 _ _ _)⟩
 have HH := Box.mk H
 clear hT hU H
 have hfr : ∀ W : World, (Op.equalIn 10000 24 (.agg #[.int .i64 d.num, .int .i64 d.den]) (.agg #[.int .i64 e.num, .int .i64 e.den])).run Tryd.prog W = .ok true W := fun W => by rw [eq_frac, h5]
 clear h5
 have H7 := Box.mk h7
 clear h7
 have H8 := Box.mk h8
 clear h8
 have H9 := Box.mk h9
 clear h9
 go_enter Tryd.func29, Tryd.ntmps29
 go_upto_region 1 with (fail)
 generalize ((w.alloc (.cells (ndC d (.slice A1 d.ms.length a1) (.slice A2 d.bys.length a2) (.slice A3 ks.length a3)) exT)).alloc (.cells (ndC e (.slice B1 e.ms.length b1) (.slice B2 e.bys.length b2) (.slice B3 es.length b3)) exT)) = W at HS ⊢
 obtain ⟨x0, x1, x2, x3, x4, x5, x6, x7, x8, x9, x10⟩ := blk11z HS.out.b1
 obtain ⟨y0, y1, y2, y3, y4, y5, y6, y7, y8, y9, y10⟩ := blk11z HS.out.b2
 go_wp2_with fail
 refine (pmats_any A1 B1 a1 b1 P Q d.ms e.ms _ HS.out.t1.nod.ms HS.out.t2.nod.ms).mono ?_
 rintro e9 w7 ⟨rfl, hb⟩
 rw [H7.out]
 have HS7 := Box.mk (HS.out.next hb)
 clear HS hb x0 x1 x2 x3 x4 x5 x6 x7 x8 x9 x10 y0 y1 y2 y3 y4 y5 y6 y7 y8 y9 y10
 have HS := HS7
 clear HS7
 obtain ⟨x0, x1, x2, x3, x4, x5, x6, x7, x8, x9, x10⟩ := blk11z HS.out.b1
 obtain ⟨y0, y1, y2, y3, y4, y5, y6, y7, y8, y9, y10⟩ := blk11z HS.out.b2
 go_wp2_with fail
 refine (pstrs_any A2 B2 a2 b2 P Q d.bys e.bys _ HS.out.t1.nod.bys HS.out.t2.nod.bys).mono ?_
 rintro e9 w8 ⟨rfl, hb⟩
 rw [H8.out]
 have HS8 := Box.mk (HS.out.next hb)
 clear HS hb x0 x1 x2 x3 x4 x5 x6 x7 x8 x9 x10 y0 y1 y2 y3 y4 y5 y6 y7 y8 y9 y10
 have HS := HS8
 clear HS8
 obtain ⟨x0, x1, x2, x3, x4, x5, x6, x7, x8, x9, x10⟩ := blk11z HS.out.b1
 obtain ⟨y0, y1, y2, y3, y4, y5, y6, y7, y8, y9, y10⟩ := blk11z HS.out.b2
 go_wp2_with fail
 refine (peqf_any d e ks es HH.out P Q _ _ _ _ _ _ _ HS.out.t1 HS.out.t2).mono ?_
 rintro e9 w9 ⟨rfl, hb⟩
 rw [H9.out]
 have HS9 := Box.mk (HS.out.next hb)
 clear HS hb x0 x1 x2 x3 x4 x5 x6 x7 x8 x9 x10 y0 y1 y2 y3 y4 y5 y6 y7 y8 y9 y10
 have HS := HS9
 clear HS9
 obtain ⟨x0, x1, x2, x3, x4, x5, x6, x7, x8, x9, x10⟩ := blk11z HS.out.b1
 obtain ⟨y0, y1, y2, y3, y4, y5, y6, y7, y8, y9, y10⟩ := blk11z HS.out.b2
 go_wp2_with fail
 go_ret
 exact ⟨rfl, HS.out.below⟩
set_option maxHeartbeats 2000000 in
set_option maxRecDepth 100000 in
theorem pequal_10 (d e : Nd) (ks es : List Tree) (H : ∀ t ∈ ks, EqOk t) (P Q : Nat → Nat → Prop) (w : World) (s r : Sl) (hT : TreeAt w P (.node d ks) s) (hU : TreeAt w Q (.node e es) r) (h0 : (d.kind == e.kind) = true) (h1 : (d.fn == e.fn) = true) (h2 : (d.win == e.win) = true) (h3 : (d.off == e.off) = true) (h4 : (d.k == e.k) = true) (h5 : ((d.num == e.num) && (d.den == e.den)) = true) (h6 : (d.name.toList == e.name.toList) = true) (h7 : matsB d.ms e.ms = true) (h8 : strsB d.bys e.bys = true) (h9 : eqL ks es = true) :
  Calls Tryd.prog 29 #[.agg (ndC d s.1 s.2.1 s.2.2), .agg (ndC e r.1 r.2.1 r.2.2)] w (RetB (.bool true) w) := by
 obtain ⟨mv, bv, kv⟩ := s
 obtain ⟨mv', bv', kv'⟩ := r
 obtain ⟨A1, a1, rfl, -⟩ := hT.nod.ms.form
 obtain ⟨A2, a2, rfl, -⟩ := hT.nod.bys.form
 obtain ⟨A3, a3, rfl, -⟩ := hT.nod.kform
 obtain ⟨B1, b1, rfl, -⟩ := hU.nod.ms.form
 obtain ⟨B2, b2, rfl, -⟩ := hU.nod.bys.form
 obtain ⟨B3, b3, rfl, -⟩ := hU.nod.kform
 have HS : Box (E2b w ((w.alloc (.cells (ndC d (.slice A1 d.ms.length a1) (.slice A2 d.bys.length a2) (.slice A3 ks.length a3)) exT)).alloc (.cells (ndC e (.slice B1 e.ms.length b1) (.slice B2 e.bys.length b2) (.slice B3 es.length b3)) exT)) P Q d e ks es (.slice A1 d.ms.length a1, .slice A2 d.bys.length a2, .slice A3 ks.length a3) (.slice B1 e.ms.length b1, .slice B2 e.bys.length b2, .slice B3 es.length b3)) := ⟨bel2 _ _ _, (Blk.new _ _ _).alloc _, Blk.newAt _ _ (by simp), hT.belo (bel2 _ _ _), hU.belo (bel2 _ _ _)⟩
 have HH := Box.mk H
 clear hT hU H
 have hfr : ∀ W : World, (Op.equalIn 10000 24 (.agg #[.int .i64 d.num, .int .i64 d.den]) (.agg #[.int .i64 e.num, .int .i64 e.den])).run Tryd.prog W = .ok true W := fun W => by rw [eq_frac, h5]
 clear h5
 have H7 := Box.mk h7
 clear h7
 have H8 := Box.mk h8
 clear h8
 have H9 := Box.mk h9
 clear h9
 go_enter Tryd.func29, Tryd.ntmps29
 go_upto_region 1 with (fail)
 generalize ((w.alloc (.cells (ndC d (.slice A1 d.ms.length a1) (.slice A2 d.bys.length a2) (.slice A3 ks.length a3)) exT)).alloc (.cells (ndC e (.slice B1 e.ms.length b1) (.slice B2 e.bys.length b2) (.slice B3 es.length b3)) exT)) = W at HS ⊢
 obtain ⟨x0, x1, x2, x3, x4, x5, x6, x7, x8, x9, x10⟩ := blk11z HS.out.b1
 obtain ⟨y0, y1, y2, y3, y4, y5, y6, y7, y8, y9, y10⟩ := blk11z HS.out.b2
 go_wp2_with fail
 refine (pmats_any A1 B1 a1 b1 P Q d.ms e.ms _ HS.out.t1.nod.ms HS.out.t2.nod.ms).mono ?_
 rintro e9 w7 ⟨rfl, hb⟩
 rw [H7.out]
 have HS7 := Box.mk (HS.out.next hb)
 clear HS hb x0 x1 x2 x3 x4 x5 x6 x7 x8 x9 x10 y0 y1 y2 y3 y4 y5 y6 y7 y8 y9 y10
 have HS := HS7
 clear HS7
 obtain ⟨x0, x1, x2, x3, x4, x5, x6, x7, x8, x9, x10⟩ := blk11z HS.out.b1
 obtain ⟨y0, y1, y2, y3, y4, y5, y6, y7, y8, y9, y10⟩ := blk11z HS.out.b2
 go_wp2_with fail
 refine (pstrs_any A2 B2 a2 b2 P Q d.bys e.bys _ HS.out.t1.nod.bys HS.out.t2.nod.bys).mono ?_
 rintro e9 w8 ⟨rfl, hb⟩
 rw [H8.out]
 have HS8 := Box.mk (HS.out.next hb)
 clear HS hb x0 x1 x2 x3 x4 x5 x6 x7 x8 x9 x10 y0 y1 y2 y3 y4 y5 y6 y7 y8 y9 y10
 have HS := HS8
 clear HS8
 obtain ⟨x0, x1, x2, x3, x4, x5, x6, x7, x8, x9, x10⟩ := blk11z HS.out.b1
 obtain ⟨y0, y1, y2, y3, y4, y5, y6, y7, y8, y9, y10⟩ := blk11z HS.out.b2
 go_wp2_with fail
 refine (peqf_any d e ks es HH.out P Q _ _ _ _ _ _ _ HS.out.t1 HS.out.t2).mono ?_
 rintro e9 w9 ⟨rfl, hb⟩
 rw [H9.out]
 have HS9 := Box.mk (HS.out.next hb)
 clear HS hb x0 x1 x2 x3 x4 x5 x6 x7 x8 x9 x10 y0 y1 y2 y3 y4 y5 y6 y7 y8 y9 y10
 have HS := HS9
 clear HS9
 obtain ⟨x0, x1, x2, x3, x4, x5, x6, x7, x8, x9, x10⟩ := blk11z HS.out.b1
 obtain ⟨y0, y1, y2, y3, y4, y5, y6, y7, y8, y9, y10⟩ := blk11z HS.out.b2
 go_wp2_with fail
 go_ret
 exact ⟨rfl, HS.out.below⟩
theorem pequal_any : ∀ t, EqOk t := Tree.ind fun d ks ih u P Q w s r hT hU => by
 obtain ⟨e, es⟩ := u
 show Calls _ _ #[.agg (ndC d s.1 s.2.1 s.2.2), .agg (ndC e r.1 r.2.1 r.2.2)] w (RetB (.bool (eqT (.node d ks) (.node e es))) w)
 cases h0 : (d.kind == e.kind)
 ·rw [show eqT (.node d ks) (.node e es) = false by rw [eqT]; unfold ndB; simp only [h0, Bool.false_and, Bool.and_false, Bool.true_and]]
  exact pequal_0 d e ks es ih P Q w s r hT hU h0
 cases h1 : (d.fn == e.fn)
 ·rw [show eqT (.node d ks) (.node e es) = false by rw [eqT]; unfold ndB; simp only [h0, h1, Bool.false_and, Bool.and_false, Bool.true_and]]
  exact pequal_1 d e ks es ih P Q w s r hT hU h0 h1
 cases h2 : (d.win == e.win)
 ·rw [show eqT (.node d ks) (.node e es) = false by rw [eqT]; unfold ndB; simp only [h0, h1, h2, Bool.false_and, Bool.and_false, Bool.true_and]]
  exact pequal_2 d e ks es ih P Q w s r hT hU h0 h1 h2
 cases h3 : (d.off == e.off)
 ·rw [show eqT (.node d ks) (.node e es) = false by rw [eqT]; unfold ndB; simp only [h0, h1, h2, h3, Bool.false_and, Bool.and_false, Bool.true_and]]
  exact pequal_3 d e ks es ih P Q w s r hT hU h0 h1 h2 h3
 cases h4 : (d.k == e.k)
 ·rw [show eqT (.node d ks) (.node e es) = false by rw [eqT]; unfold ndB; simp only [h0, h1, h2, h3, h4, Bool.false_and, Bool.and_false, Bool.true_and]]
  exact pequal_4 d e ks es ih P Q w s r hT hU h0 h1 h2 h3 h4
 cases h5 : ((d.num == e.num) && (d.den == e.den))
 ·rw [show eqT (.node d ks) (.node e es) = false by rw [eqT]; unfold ndB; simp only [h0, h1, h2, h3, h4, h5, Bool.false_and, Bool.and_false, Bool.true_and]]
  exact pequal_5 d e ks es ih P Q w s r hT hU h0 h1 h2 h3 h4 h5
 cases h6 : (d.name.toList == e.name.toList)
 ·rw [show eqT (.node d ks) (.node e es) = false by rw [eqT]; unfold ndB; simp only [h0, h1, h2, h3, h4, h5, h6, Bool.false_and, Bool.and_false, Bool.true_and]]
  exact pequal_6 d e ks es ih P Q w s r hT hU h0 h1 h2 h3 h4 h5 h6
 cases h7 : matsB d.ms e.ms
 ·rw [show eqT (.node d ks) (.node e es) = false by rw [eqT]; unfold ndB; simp only [h0, h1, h2, h3, h4, h5, h6, h7, Bool.false_and, Bool.and_false, Bool.true_and]]
  exact pequal_7 d e ks es ih P Q w s r hT hU h0 h1 h2 h3 h4 h5 h6 h7
 cases h8 : strsB d.bys e.bys
 ·rw [show eqT (.node d ks) (.node e es) = false by rw [eqT]; unfold ndB; simp only [h0, h1, h2, h3, h4, h5, h6, h7, h8, Bool.false_and, Bool.and_false, Bool.true_and]]
  exact pequal_8 d e ks es ih P Q w s r hT hU h0 h1 h2 h3 h4 h5 h6 h7 h8
 cases h9 : eqL ks es
 ·rw [show eqT (.node d ks) (.node e es) = false by rw [eqT]; unfold ndB; simp only [h0, h1, h2, h3, h4, h5, h6, h7, h8, h9, Bool.false_and, Bool.and_false, Bool.true_and]]
  exact pequal_9 d e ks es ih P Q w s r hT hU h0 h1 h2 h3 h4 h5 h6 h7 h8 h9
 rw [show eqT (.node d ks) (.node e es) = true by rw [eqT]; unfold ndB; simp only [h0, h1, h2, h3, h4, h5, h6, h7, h8, h9, Bool.true_and]]
 exact pequal_10 d e ks es ih P Q w s r hT hU h0 h1 h2 h3 h4 h5 h6 h7 h8 h9
end
end Go.Proofs.YtipafbppaaflcaaDoor
