/- The reference 08's combined, over trees. -/
import Derived.Test.YtgomgoacponbkaaDoorPvVa
import Derived.Test.YtgomgoacponbkaaDoorPk31
set_option linter.unusedVariables false
set_option linter.unusedSimpArgs false
namespace Go.Proofs.YtgomgoacponbkaaDoor
open Go.RowKit FracM

theorem at11_below {W w1 : World} {b o : Nat} {d : Nd} {mv bv kv : Value} (h : At11 W b o d mv bv kv) (hb : b < W.heap.size) (k : Below W.heap.size W w1) : At11 w1 b o d mv bv kv := by
  obtain ⟨k0, k1, k2, k3, k4, k5, k6, k7, k8, k9, k10⟩ := h
  exact ⟨bat k hb k0, bat k hb k1, bat k hb k2, bat k hb k3, bat k hb k4, bat k hb k5, bat k hb k6, bat k hb k7, bat k hb k8, bat k hb k9, bat k hb k10⟩
theorem bel4 (w : World) (a b c e : Obj) : Below w.heap.size w ((((w.alloc a).alloc b).alloc c).alloc e) := bthen (bel3 w a b c) (bel1 _ e) (Nat.le_refl _)
structure C4 (w W : World) (d : Nd) (ks : List Tree) (mv bv kv : Value) (x y : U3) : Prop where
  below : Below w.heap.size w W
  Q : Blk W w.heap.size 38 (ndC d mv bv kv)
  A : Blk W (w.heap.size + 1) 23 (uC x)
  B : Blk W (w.heap.size + 2) 23 (uC y)
  R : Blk W (w.heap.size + 3) 23 #[.int .i64 0, .int .i64 0, .int .i64 0]
  nod : Nod W (LowP w.heap.size) d ks mv bv kv
theorem C4.start {w : World} {P : Nat → Nat → Prop} {d : Nd} {ks : List Tree} {mv bv kv : Value} {x y : U3} (hT : TreeAt w P (.node d ks) (mv, bv, kv)) : C4 w ((((w.alloc (.cells (ndC d mv bv kv) 38)).alloc (.cells (uC x) 23)).alloc (.cells (uC y) 23)).alloc (.cells #[.int .i64 0, .int .i64 0, .int .i64 0] 23)) d ks mv bv kv x y :=
  ⟨bel4 _ _ _ _ _, (((Blk.new _ _ _).alloc _).alloc _).alloc _, ((Blk.newAt _ _ (by simp)).alloc _).alloc _, (Blk.newAt _ _ (by simp)).alloc _, Blk.newAt _ _ (by simp), ((hT.mono (Q := LowP w.heap.size) fun _ _ hb _ => hb).belo (bel4 _ _ _ _ _)).nod⟩
theorem C4.next {w W W' : World} {d : Nd} {ks : List Tree} {mv bv kv : Value} {x y : U3} (h : C4 w W d ks mv bv kv x y) (hb : Below W.heap.size W W') : C4 w W' d ks mv bv kv x y := ⟨bthen h.below hb (Nat.le_refl _), h.Q.below hb, h.A.below hb, h.B.below hb, h.R.below hb, h.nod.below hb⟩
theorem C4.from_ {w W W' : World} {d : Nd} {ks : List Tree} {mv bv kv : Value} {x y : U3} (h : C4 w W d ks mv bv kv x y) (hb : Below (w.heap.size + 4) W W') : C4 w W' d ks mv bv kv x y :=
  ⟨h.below.trans (hb.mono (by omega)), (hb.block _ (by omega)).trans h.Q, (hb.block _ (by omega)).trans h.A, (hb.block _ (by omega)).trans h.B, (hb.block _ (by omega)).trans h.R, h.nod.keep (Agree.of_lt hb fun b e hp => by have : b < w.heap.size := hp; omega)⟩
theorem C4.drew {w W : World} {d : Nd} {ks : List Tree} {mv bv kv : Value} {x y : U3} (h : C4 w W d ks mv bv kv x y) : C4 w W.drew d ks mv bv kv x y := h.next (below_drewN W 1)
set_option maxHeartbeats 8000000 in
set_option maxRecDepth 100000 in
theorem rcombined_any (d : Nd) (ks : List Tree) (mv bv kv : Value) (x y : U3) (P : Nat → Nat → Prop) (w : World) (hT : TreeAt w P (.node d ks) (mv, bv, kv)) (hl : ks.length = 2) (hck : ∀ t ∈ ks, chk t = 0) (hf0 : 0 ≤ d.fn) (hf3 : d.fn ≤ 3) :
    Calls Tryd.prog 65 #[.agg (ndC d mv bv kv), uV x, uV y] w (RetB (.tuple #[uV (binM d ks [x, y]).1, .int .i64 (binM d ks [x, y]).2]) w) := by
  have HCK := Box.mk hck
  have HS := Box.mk (C4.start (x := x) (y := y) hT)
  obtain ⟨A3, n3, hkv, l3⟩ := hT.nod.kform
  rw [hl] at hkv
  subst hkv
  have HL := Box.mk hl
  clear hT hck hl l3
  go_enter Tryd.func65, Tryd.ntmps65
  go_upto_region 1 with (fail)
  generalize ((((w.alloc (.cells (ndC d mv bv (.slice A3 2 n3)) 38)).alloc (.cells (uC x) 23)).alloc (.cells (uC y) 23)).alloc (.cells #[.int .i64 0, .int .i64 0, .int .i64 0] 23)) = W at HS ⊢
  obtain ⟨e1, es1, b, off, B1, m1, B2, m2, B3, m3, hx, rfl, hb, hpb, h11, hT1⟩ := kid2 HS.out.nod 0 (by rw [HL.out]; omega)
  obtain ⟨e2, es2, b', off', B1', m1', B2', m2', B3', m3', hx', hA, hb', hpb', h11', hT2⟩ := kid2 HS.out.nod 1 (by rw [HL.out]; omega)
  cases hA
  have h2 := two_of HL.out hx hx'
  have HCA := Box.mk (HCK.out _ (List.mem_of_getElem? hx))
  have HCB := Box.mk (HCK.out _ (List.mem_of_getElem? hx'))
  subst h2
  have HT1 := Box.mk hT1
  have HT2 := Box.mk hT2
  have HJ := Box.mk h11'
  obtain ⟨k0, k1, k2, k3, k4, k5, k6, k7, k8, k9, k10⟩ := h11
  simp only [Nat.zero_mul, Nat.one_mul, Nat.add_zero] at k0 k1 k2 k3 k4 k5 k6 k7 k8 k9 k10
  clear hT1 hT2 hx hx' hpb hpb' hb' HCK h11'
  obtain ⟨c0, c1, c2, c3, c4, c5, c6, c7, c8, c9, c10⟩ := blk11z HS.out.Q
  clear c0 c1 c2 c3 c4 c5 c6 c7 c8 c9
  go_upto_region 2 with (fail)
  have HS2 := Box.mk (HS.out.next (bel1 W (.cells (ndC e1 (.slice B1 e1.ms.length m1) (.slice B2 e1.bys.length m2) (.slice B3 es1.length m3)) 38)))
  have HTA2 := Box.mk (HT1.out.belo (bel1 W (.cells (ndC e1 (.slice B1 e1.ms.length m1) (.slice B2 e1.bys.length m2) (.slice B3 es1.length m3)) 38)))
  have HTB2 := Box.mk (HT2.out.belo (bel1 W (.cells (ndC e1 (.slice B1 e1.ms.length m1) (.slice B2 e1.bys.length m2) (.slice B3 es1.length m3)) 38)))
  have HBA2 : Box (Blk (W.alloc (.cells (ndC e1 (.slice B1 e1.ms.length m1) (.slice B2 e1.bys.length m2) (.slice B3 es1.length m3)) 38)) W.heap.size 38 (ndC e1 (.slice B1 e1.ms.length m1) (.slice B2 e1.bys.length m2) (.slice B3 es1.length m3))) := ⟨Blk.new _ _ _⟩
  have hb2 : b < (W.alloc (.cells (ndC e1 (.slice B1 e1.ms.length m1) (.slice B2 e1.bys.length m2) (.slice B3 es1.length m3)) 38)).heap.size := by simp; omega
  obtain ⟨j0, j1, j2, j3, j4, j5, j6, j7, j8, j9, j10⟩ := at11_below HJ.out hb (bel1 W (.cells (ndC e1 (.slice B1 e1.ms.length m1) (.slice B2 e1.bys.length m2) (.slice B3 es1.length m3)) 38))
  simp only [Nat.one_mul] at j0 j1 j2 j3 j4 j5 j6 j7 j8 j9 j10
  clear HS HT1 HT2 k0 k1 k2 k3 k4 k5 k6 k7 k8 k9 k10 c10 HJ hb
  generalize W.alloc (.cells (ndC e1 (.slice B1 e1.ms.length m1) (.slice B2 e1.bys.length m2) (.slice B3 es1.length m3)) 38) = W2 at *
  generalize W.heap.size = ab at *
  have c10 := (blk11z HS2.out.Q).2.2.2.2.2.2.2.2.2.2
  go_upto_region 3 with (fail)
  have HS3 := Box.mk (HS2.out.next (bel1 W2 (.cells (ndC e2 (.slice B1' e2.ms.length m1') (.slice B2' e2.bys.length m2') (.slice B3' es2.length m3')) 38)))
  have HTA := Box.mk (HTA2.out.belo (bel1 W2 (.cells (ndC e2 (.slice B1' e2.ms.length m1') (.slice B2' e2.bys.length m2') (.slice B3' es2.length m3')) 38)))
  have HTB := Box.mk (HTB2.out.belo (bel1 W2 (.cells (ndC e2 (.slice B1' e2.ms.length m1') (.slice B2' e2.bys.length m2') (.slice B3' es2.length m3')) 38)))
  have HBA := Box.mk (HBA2.out.alloc (.cells (ndC e2 (.slice B1' e2.ms.length m1') (.slice B2' e2.bys.length m2') (.slice B3' es2.length m3')) 38))
  have HBB : Box (Blk (W2.alloc (.cells (ndC e2 (.slice B1' e2.ms.length m1') (.slice B2' e2.bys.length m2') (.slice B3' es2.length m3')) 38)) W2.heap.size 38 (ndC e2 (.slice B1' e2.ms.length m1') (.slice B2' e2.bys.length m2') (.slice B3' es2.length m3'))) := ⟨Blk.new _ _ _⟩
  clear HS2 HTA2 HTB2 HBA2 j0 j1 j2 j3 j4 j5 j6 j7 j8 j9 j10 c10 hb2
  generalize W2.alloc (.cells (ndC e2 (.slice B1' e2.ms.length m1') (.slice B2' e2.bys.length m2') (.slice B3' es2.length m3')) 38) = wd at *
  generalize W2.heap.size = bb at *
  have HS2 := Box.mk HS3.out
  clear HS3
  obtain ⟨ra, HRA⟩ : ∃ z, Box (rlB (.node e1 es1) = z) := ⟨_, ⟨rfl⟩⟩
  obtain ⟨rb, HRB⟩ : ∃ z, Box (rlB (.node e2 es2) = z) := ⟨_, ⟨rfl⟩⟩
  have HK := Box.mk (And.intro (blk11z HBA.out) (blk11z HBB.out))
  obtain ⟨⟨a0, a1, a2, a3, a4, a5, a6, a7, a8, a9, a10⟩, ⟨b0, b1, b2, b3, b4, b5, b6, b7, b8, b9, b10⟩⟩ := HK.out
  have CR1 : Box (∀ W, TreeAt W (LowP w.heap.size) (.node e1 es1) (.slice B1 e1.ms.length m1, .slice B2 e1.bys.length m2, .slice B3 es1.length m3) → Calls Tryd.prog 54 #[.agg (ndC e1 (.slice B1 e1.ms.length m1) (.slice B2 e1.bys.length m2) (.slice B3 es1.length m3))] W (RetB (.bool ra) W)) := ⟨fun W h => by rw [← HRA.out]; exact number_any _ _ W (.slice B1 e1.ms.length m1, .slice B2 e1.bys.length m2, .slice B3 es1.length m3) h HCA.out⟩
  have CR2 : Box (∀ W, TreeAt W (LowP w.heap.size) (.node e2 es2) (.slice B1' e2.ms.length m1', .slice B2' e2.bys.length m2', .slice B3' es2.length m3') → Calls Tryd.prog 54 #[.agg (ndC e2 (.slice B1' e2.ms.length m1') (.slice B2' e2.bys.length m2') (.slice B3' es2.length m3'))] W (RetB (.bool rb) W)) := ⟨fun W h => by rw [← HRB.out]; exact number_any _ _ W (.slice B1' e2.ms.length m1', .slice B2' e2.bys.length m2', .slice B3' es2.length m3') h HCB.out⟩
  go_cut [34] (fun v wx => ∃ q : Bool, v = .bool q ∧ Box (q = (!ra && !rb && !decide (rw1 (.node e1 es1) = rw1 (.node e2 es2)))) ∧ C4 w wx d [.node e1 es1, .node e2 es2] mv bv (.slice (some ⟨b, off, none⟩) 2 n3) x y)
  case first =>
    cases ra
    · cases rb
      · have CW1 : Box (∀ W, TreeAt W (LowP w.heap.size) (.node e1 es1) (.slice B1 e1.ms.length m1, .slice B2 e1.bys.length m2, .slice B3 es1.length m3) → Calls Tryd.prog 55 #[.agg (ndC e1 (.slice B1 e1.ms.length m1) (.slice B2 e1.bys.length m2) (.slice B3 es1.length m3))] W (RetStrs (rw1 (.node e1 es1)) W)) := ⟨fun W h => rby_any _ _ W (.slice B1 e1.ms.length m1, .slice B2 e1.bys.length m2, .slice B3 es1.length m3) h HCA.out HRA.out⟩
        have CW2 : Box (∀ W, TreeAt W (LowP w.heap.size) (.node e2 es2) (.slice B1' e2.ms.length m1', .slice B2' e2.bys.length m2', .slice B3' es2.length m3') → Calls Tryd.prog 55 #[.agg (ndC e2 (.slice B1' e2.ms.length m1') (.slice B2' e2.bys.length m2') (.slice B3' es2.length m3'))] W (RetStrs (rw1 (.node e2 es2)) W)) := ⟨fun W h => rby_any _ _ W (.slice B1' e2.ms.length m1', .slice B2' e2.bys.length m2', .slice B3' es2.length m3') h HCB.out HRB.out⟩
        have HEQ : Box (sameB (rw1 (.node e1 es1)) (rw1 (.node e2 es2)) = decide (rw1 (.node e1 es1) = rw1 (.node e2 es2))) := ⟨same_eq _ _⟩
        generalize hl1 : rw1 (.node e1 es1) = l1 at CW1 HEQ
        generalize hl2 : rw1 (.node e2 es2) = l2 at CW2 HEQ
        obtain ⟨sb, HSB⟩ : ∃ z, Box (sameB l1 l2 = z) := ⟨_, ⟨rfl⟩⟩
        have HL12 := Box.mk (And.intro hl1 hl2)
        clear hl1 hl2
        go_region_held3 (fun w' => (w'.cell? ⟨ab, 0, none⟩ = some (.int .i64 e1.kind) ∧ w'.cell? ⟨ab, 1, none⟩ = some (.int .i64 e1.fn) ∧ w'.cell? ⟨ab, 2, none⟩ = some (.int .i64 e1.win) ∧ w'.cell? ⟨ab, 3, none⟩ = some (.int .i64 e1.off) ∧ w'.cell? ⟨ab, 4, none⟩ = some (.int .i64 e1.k) ∧ w'.cell? ⟨ab, 5, none⟩ = some (.int .i64 e1.num) ∧ w'.cell? ⟨ab, 6, none⟩ = some (.int .i64 e1.den) ∧ w'.cell? ⟨ab, 7, none⟩ = some (.string e1.name) ∧ w'.cell? ⟨ab, 8, none⟩ = some (.slice B1 e1.ms.length m1) ∧ w'.cell? ⟨ab, 9, none⟩ = some (.slice B2 e1.bys.length m2) ∧ w'.cell? ⟨ab, 10, none⟩ = some (.slice B3 es1.length m3)) ∧ w'.cell? ⟨bb, 0, none⟩ = some (.int .i64 e2.kind) ∧ w'.cell? ⟨bb, 1, none⟩ = some (.int .i64 e2.fn) ∧ w'.cell? ⟨bb, 2, none⟩ = some (.int .i64 e2.win) ∧ w'.cell? ⟨bb, 3, none⟩ = some (.int .i64 e2.off) ∧ w'.cell? ⟨bb, 4, none⟩ = some (.int .i64 e2.k) ∧ w'.cell? ⟨bb, 5, none⟩ = some (.int .i64 e2.num) ∧ w'.cell? ⟨bb, 6, none⟩ = some (.int .i64 e2.den) ∧ w'.cell? ⟨bb, 7, none⟩ = some (.string e2.name) ∧ w'.cell? ⟨bb, 8, none⟩ = some (.slice B1' e2.ms.length m1') ∧ w'.cell? ⟨bb, 9, none⟩ = some (.slice B2' e2.bys.length m2') ∧ w'.cell? ⟨bb, 10, none⟩ = some (.slice B3' es2.length m3')) (first | with_reducible exact HK9.out | with_reducible exact HK8.out | with_reducible exact HK7.out | with_reducible exact HK6.out | with_reducible exact HK5.out | go_keep)
          (first
            | (go_at_call 54
               (with_reducible refine (CR1.out _ ?_).mono ?_)
               (first | with_reducible exact HTA.out | with_reducible exact HTA.out.drew)
               rintro e w5 ⟨rfl, hb5⟩
               have HN5 := Box.mk ((HS2.out.drew).next hb5)
               have HA5 := Box.mk (HTA.out.drew.belo hb5)
               have HB5 := Box.mk (HTB.out.drew.belo hb5)
               have HX5 := Box.mk (HBA.out.drew.below hb5)
               have HY5 := Box.mk (HBB.out.drew.below hb5)
               have HK5 : Box ((w5.cell? ⟨ab, 0, none⟩ = some (.int .i64 e1.kind) ∧ w5.cell? ⟨ab, 1, none⟩ = some (.int .i64 e1.fn) ∧ w5.cell? ⟨ab, 2, none⟩ = some (.int .i64 e1.win) ∧ w5.cell? ⟨ab, 3, none⟩ = some (.int .i64 e1.off) ∧ w5.cell? ⟨ab, 4, none⟩ = some (.int .i64 e1.k) ∧ w5.cell? ⟨ab, 5, none⟩ = some (.int .i64 e1.num) ∧ w5.cell? ⟨ab, 6, none⟩ = some (.int .i64 e1.den) ∧ w5.cell? ⟨ab, 7, none⟩ = some (.string e1.name) ∧ w5.cell? ⟨ab, 8, none⟩ = some (.slice B1 e1.ms.length m1) ∧ w5.cell? ⟨ab, 9, none⟩ = some (.slice B2 e1.bys.length m2) ∧ w5.cell? ⟨ab, 10, none⟩ = some (.slice B3 es1.length m3)) ∧ w5.cell? ⟨bb, 0, none⟩ = some (.int .i64 e2.kind) ∧ w5.cell? ⟨bb, 1, none⟩ = some (.int .i64 e2.fn) ∧ w5.cell? ⟨bb, 2, none⟩ = some (.int .i64 e2.win) ∧ w5.cell? ⟨bb, 3, none⟩ = some (.int .i64 e2.off) ∧ w5.cell? ⟨bb, 4, none⟩ = some (.int .i64 e2.k) ∧ w5.cell? ⟨bb, 5, none⟩ = some (.int .i64 e2.num) ∧ w5.cell? ⟨bb, 6, none⟩ = some (.int .i64 e2.den) ∧ w5.cell? ⟨bb, 7, none⟩ = some (.string e2.name) ∧ w5.cell? ⟨bb, 8, none⟩ = some (.slice B1' e2.ms.length m1') ∧ w5.cell? ⟨bb, 9, none⟩ = some (.slice B2' e2.bys.length m2') ∧ w5.cell? ⟨bb, 10, none⟩ = some (.slice B3' es2.length m3')) := Box.mk (And.intro (blk11z HX5.out) (blk11z HY5.out))
               clear hb5)
            | (go_at_call 54
               (with_reducible refine (CR2.out _ ?_).mono ?_)
               (first | with_reducible exact HB5.out | with_reducible exact HB5.out.drew)
               rintro e w6 ⟨rfl, hb5⟩
               have HN6 := Box.mk (HN5.out.next hb5)
               have HA6 := Box.mk (HA5.out.belo hb5)
               have HB6 := Box.mk (HB5.out.belo hb5)
               have HX6 := Box.mk (HX5.out.below hb5)
               have HY6 := Box.mk (HY5.out.below hb5)
               have HK6 : Box ((w6.cell? ⟨ab, 0, none⟩ = some (.int .i64 e1.kind) ∧ w6.cell? ⟨ab, 1, none⟩ = some (.int .i64 e1.fn) ∧ w6.cell? ⟨ab, 2, none⟩ = some (.int .i64 e1.win) ∧ w6.cell? ⟨ab, 3, none⟩ = some (.int .i64 e1.off) ∧ w6.cell? ⟨ab, 4, none⟩ = some (.int .i64 e1.k) ∧ w6.cell? ⟨ab, 5, none⟩ = some (.int .i64 e1.num) ∧ w6.cell? ⟨ab, 6, none⟩ = some (.int .i64 e1.den) ∧ w6.cell? ⟨ab, 7, none⟩ = some (.string e1.name) ∧ w6.cell? ⟨ab, 8, none⟩ = some (.slice B1 e1.ms.length m1) ∧ w6.cell? ⟨ab, 9, none⟩ = some (.slice B2 e1.bys.length m2) ∧ w6.cell? ⟨ab, 10, none⟩ = some (.slice B3 es1.length m3)) ∧ w6.cell? ⟨bb, 0, none⟩ = some (.int .i64 e2.kind) ∧ w6.cell? ⟨bb, 1, none⟩ = some (.int .i64 e2.fn) ∧ w6.cell? ⟨bb, 2, none⟩ = some (.int .i64 e2.win) ∧ w6.cell? ⟨bb, 3, none⟩ = some (.int .i64 e2.off) ∧ w6.cell? ⟨bb, 4, none⟩ = some (.int .i64 e2.k) ∧ w6.cell? ⟨bb, 5, none⟩ = some (.int .i64 e2.num) ∧ w6.cell? ⟨bb, 6, none⟩ = some (.int .i64 e2.den) ∧ w6.cell? ⟨bb, 7, none⟩ = some (.string e2.name) ∧ w6.cell? ⟨bb, 8, none⟩ = some (.slice B1' e2.ms.length m1') ∧ w6.cell? ⟨bb, 9, none⟩ = some (.slice B2' e2.bys.length m2') ∧ w6.cell? ⟨bb, 10, none⟩ = some (.slice B3' es2.length m3')) := Box.mk (And.intro (blk11z HX6.out) (blk11z HY6.out))
               clear hb5)
            | (go_at_call 55
               (with_reducible refine (CW1.out _ ?_).mono ?_)
               (first | with_reducible exact HA6.out | with_reducible exact HA6.out.drew)
               rintro e w7 ⟨Y1, y1, z1, rfl, hy1, hs1, hb5⟩
               have HN7 := Box.mk (HN6.out.next hb5)
               have HA7 := Box.mk hs1
               have HB7 := Box.mk (HB6.out.belo hb5)
               have HX7 := Box.mk (HX6.out.below hb5)
               have HY7 := Box.mk (HY6.out.below hb5)
               have HK7 : Box ((w7.cell? ⟨ab, 0, none⟩ = some (.int .i64 e1.kind) ∧ w7.cell? ⟨ab, 1, none⟩ = some (.int .i64 e1.fn) ∧ w7.cell? ⟨ab, 2, none⟩ = some (.int .i64 e1.win) ∧ w7.cell? ⟨ab, 3, none⟩ = some (.int .i64 e1.off) ∧ w7.cell? ⟨ab, 4, none⟩ = some (.int .i64 e1.k) ∧ w7.cell? ⟨ab, 5, none⟩ = some (.int .i64 e1.num) ∧ w7.cell? ⟨ab, 6, none⟩ = some (.int .i64 e1.den) ∧ w7.cell? ⟨ab, 7, none⟩ = some (.string e1.name) ∧ w7.cell? ⟨ab, 8, none⟩ = some (.slice B1 e1.ms.length m1) ∧ w7.cell? ⟨ab, 9, none⟩ = some (.slice B2 e1.bys.length m2) ∧ w7.cell? ⟨ab, 10, none⟩ = some (.slice B3 es1.length m3)) ∧ w7.cell? ⟨bb, 0, none⟩ = some (.int .i64 e2.kind) ∧ w7.cell? ⟨bb, 1, none⟩ = some (.int .i64 e2.fn) ∧ w7.cell? ⟨bb, 2, none⟩ = some (.int .i64 e2.win) ∧ w7.cell? ⟨bb, 3, none⟩ = some (.int .i64 e2.off) ∧ w7.cell? ⟨bb, 4, none⟩ = some (.int .i64 e2.k) ∧ w7.cell? ⟨bb, 5, none⟩ = some (.int .i64 e2.num) ∧ w7.cell? ⟨bb, 6, none⟩ = some (.int .i64 e2.den) ∧ w7.cell? ⟨bb, 7, none⟩ = some (.string e2.name) ∧ w7.cell? ⟨bb, 8, none⟩ = some (.slice B1' e2.ms.length m1') ∧ w7.cell? ⟨bb, 9, none⟩ = some (.slice B2' e2.bys.length m2') ∧ w7.cell? ⟨bb, 10, none⟩ = some (.slice B3' es2.length m3')) := Box.mk (And.intro (blk11z HX7.out) (blk11z HY7.out))
               clear hb5 hs1 hy1)
            | (go_at_call 55
               (with_reducible refine (CW2.out _ ?_).mono ?_)
               (first | with_reducible exact HB7.out | with_reducible exact HB7.out.drew)
               rintro e w8 ⟨Y2, y2, z2, rfl, hy2, hs2, hb5⟩
               have HN8 := Box.mk (HN7.out.next hb5)
               have HA8 := Box.mk (HA7.out.below hb5)
               have HB8 := Box.mk hs2
               have HX8 := Box.mk (HX7.out.below hb5)
               have HY8 := Box.mk (HY7.out.below hb5)
               have HK8 : Box ((w8.cell? ⟨ab, 0, none⟩ = some (.int .i64 e1.kind) ∧ w8.cell? ⟨ab, 1, none⟩ = some (.int .i64 e1.fn) ∧ w8.cell? ⟨ab, 2, none⟩ = some (.int .i64 e1.win) ∧ w8.cell? ⟨ab, 3, none⟩ = some (.int .i64 e1.off) ∧ w8.cell? ⟨ab, 4, none⟩ = some (.int .i64 e1.k) ∧ w8.cell? ⟨ab, 5, none⟩ = some (.int .i64 e1.num) ∧ w8.cell? ⟨ab, 6, none⟩ = some (.int .i64 e1.den) ∧ w8.cell? ⟨ab, 7, none⟩ = some (.string e1.name) ∧ w8.cell? ⟨ab, 8, none⟩ = some (.slice B1 e1.ms.length m1) ∧ w8.cell? ⟨ab, 9, none⟩ = some (.slice B2 e1.bys.length m2) ∧ w8.cell? ⟨ab, 10, none⟩ = some (.slice B3 es1.length m3)) ∧ w8.cell? ⟨bb, 0, none⟩ = some (.int .i64 e2.kind) ∧ w8.cell? ⟨bb, 1, none⟩ = some (.int .i64 e2.fn) ∧ w8.cell? ⟨bb, 2, none⟩ = some (.int .i64 e2.win) ∧ w8.cell? ⟨bb, 3, none⟩ = some (.int .i64 e2.off) ∧ w8.cell? ⟨bb, 4, none⟩ = some (.int .i64 e2.k) ∧ w8.cell? ⟨bb, 5, none⟩ = some (.int .i64 e2.num) ∧ w8.cell? ⟨bb, 6, none⟩ = some (.int .i64 e2.den) ∧ w8.cell? ⟨bb, 7, none⟩ = some (.string e2.name) ∧ w8.cell? ⟨bb, 8, none⟩ = some (.slice B1' e2.ms.length m1') ∧ w8.cell? ⟨bb, 9, none⟩ = some (.slice B2' e2.bys.length m2') ∧ w8.cell? ⟨bb, 10, none⟩ = some (.slice B3' es2.length m3')) := Box.mk (And.intro (blk11z HX8.out) (blk11z HY8.out))
               clear hb5 hs2 hy2)
            | (go_at_call 39
               (with_reducible refine (sameTexts_any _ _ _ _ _ _ l1 l2 _ HA8.out HB8.out).mono ?_)
               rintro e w9 ⟨rfl, hb5⟩
               rw [HSB.out]
               have HN9 := Box.mk (HN8.out.next hb5)
               have HX9 := Box.mk (HX8.out.below hb5)
               have HY9 := Box.mk (HY8.out.below hb5)
               have HK9 : Box ((w9.cell? ⟨ab, 0, none⟩ = some (.int .i64 e1.kind) ∧ w9.cell? ⟨ab, 1, none⟩ = some (.int .i64 e1.fn) ∧ w9.cell? ⟨ab, 2, none⟩ = some (.int .i64 e1.win) ∧ w9.cell? ⟨ab, 3, none⟩ = some (.int .i64 e1.off) ∧ w9.cell? ⟨ab, 4, none⟩ = some (.int .i64 e1.k) ∧ w9.cell? ⟨ab, 5, none⟩ = some (.int .i64 e1.num) ∧ w9.cell? ⟨ab, 6, none⟩ = some (.int .i64 e1.den) ∧ w9.cell? ⟨ab, 7, none⟩ = some (.string e1.name) ∧ w9.cell? ⟨ab, 8, none⟩ = some (.slice B1 e1.ms.length m1) ∧ w9.cell? ⟨ab, 9, none⟩ = some (.slice B2 e1.bys.length m2) ∧ w9.cell? ⟨ab, 10, none⟩ = some (.slice B3 es1.length m3)) ∧ w9.cell? ⟨bb, 0, none⟩ = some (.int .i64 e2.kind) ∧ w9.cell? ⟨bb, 1, none⟩ = some (.int .i64 e2.fn) ∧ w9.cell? ⟨bb, 2, none⟩ = some (.int .i64 e2.win) ∧ w9.cell? ⟨bb, 3, none⟩ = some (.int .i64 e2.off) ∧ w9.cell? ⟨bb, 4, none⟩ = some (.int .i64 e2.k) ∧ w9.cell? ⟨bb, 5, none⟩ = some (.int .i64 e2.num) ∧ w9.cell? ⟨bb, 6, none⟩ = some (.int .i64 e2.den) ∧ w9.cell? ⟨bb, 7, none⟩ = some (.string e2.name) ∧ w9.cell? ⟨bb, 8, none⟩ = some (.slice B1' e2.ms.length m1') ∧ w9.cell? ⟨bb, 9, none⟩ = some (.slice B2' e2.bys.length m2') ∧ w9.cell? ⟨bb, 10, none⟩ = some (.slice B3' es2.length m3')) := Box.mk (And.intro (blk11z HX9.out) (blk11z HY9.out))
               clear hb5))
        all_goals
          go_wp2_with fail
          go_meet
          exact ⟨_, rfl, ⟨by rw [HL12.out.1, HL12.out.2, ← HEQ.out, HSB.out]; rfl⟩, HN9.out⟩
      · go_region_with (first | (go_at_call 54; (with_reducible refine (CR1.out _ ?_).mono ?_); (first | with_reducible exact HTA.out | with_reducible exact HTA.out.drew); rintro e w5 ⟨rfl, hb5⟩; have HN5 := Box.mk ((HS2.out.drew).next hb5); have HB5 := Box.mk (HTB.out.drew.belo hb5); have HX5 := Box.mk (HBA.out.drew.below hb5); have HY5 := Box.mk (HBB.out.drew.below hb5); have HK5 := Box.mk (And.intro (blk11z HX5.out) (blk11z HY5.out)); clear hb5; clear a0 a1 a2 a3 a4 a5 a6 a7 a8 a9 a10 b0 b1 b2 b3 b4 b5 b6 b7 b8 b9 b10; obtain ⟨⟨a0, a1, a2, a3, a4, a5, a6, a7, a8, a9, a10⟩, ⟨b0, b1, b2, b3, b4, b5, b6, b7, b8, b9, b10⟩⟩ := HK5.out) | (go_at_call 54; (with_reducible refine (CR2.out _ ?_).mono ?_); (first | with_reducible exact HB5.out | with_reducible exact HB5.out.drew); rintro e w6 ⟨rfl, hb5⟩; have HN6 := Box.mk (HN5.out.next hb5); clear hb5; clear a0 a1 a2 a3 a4 a5 a6 a7 a8 a9 a10 b0 b1 b2 b3 b4 b5 b6 b7 b8 b9 b10))
        all_goals
          go_wp2_with fail
          go_meet
          exact ⟨_, rfl, ⟨by rfl⟩, HN6.out⟩
    · go_region_with ((go_at_call 54; (with_reducible refine (CR1.out _ ?_).mono ?_); (first | with_reducible exact HTA.out | with_reducible exact HTA.out.drew); rintro e w5 ⟨rfl, hb5⟩; have HN5 := Box.mk ((HS2.out.drew).next hb5); have HB5 := Box.mk (HTB.out.drew.belo hb5); have HX5 := Box.mk (HBA.out.drew.below hb5); have HY5 := Box.mk (HBB.out.drew.below hb5); have HK5 := Box.mk (And.intro (blk11z HX5.out) (blk11z HY5.out)); clear hb5; clear a0 a1 a2 a3 a4 a5 a6 a7 a8 a9 a10 b0 b1 b2 b3 b4 b5 b6 b7 b8 b9 b10; obtain ⟨⟨a0, a1, a2, a3, a4, a5, a6, a7, a8, a9, a10⟩, ⟨b0, b1, b2, b3, b4, b5, b6, b7, b8, b9, b10⟩⟩ := HK5.out))
      all_goals
        go_wp2_with fail
        go_meet
        exact ⟨_, rfl, ⟨by rfl⟩, HN5.out⟩
  case rest =>
    clear HS2 HTA HTB HBA HBB HK CR1 CR2 a0 a1 a2 a3 a4 a5 a6 a7 a8 a9 a10 b0 b1 b2 b3 b4 b5 b6 b7 b8 b9 b10
    obtain ⟨q, rfl, hq, hS⟩ := hcut
    rename World => wd
    have HS := Box.mk hS
    clear hS
    cases q
    · have HB0 : Box (binM d [.node e1 es1, .node e2 es2] [x, y] = if d.fn = 2 then limU (addU x y) else if d.fn = 3 then limU (subU x y) else if x = y then (x, 0) else (u0, 7)) := ⟨by
        unfold binM
        simp only
        rw [if_neg]
        rw [HRA.out, HRB.out]
        rintro ⟨rfl, rfl, h⟩
        have := hq.out
        rw [decide_eq_false h] at this
        cases this⟩
      have c1 := (blk11z HS.out.Q).2.1
      obtain ⟨x0, x1, x2⟩ := HS.out.A.c3
      obtain ⟨y0, y1, y2⟩ := HS.out.B.c3
      have hf4 : d.fn = 0 ∨ d.fn = 1 ∨ d.fn = 2 ∨ d.fn = 3 := by omega
      rcases hf4 with hf | hf | hf | hf
      · rw [hf] at c1
        by_cases he : x = y
        · have hq := fun W : World => (eq_units x y W).trans (by rw [decide_eq_true he])
          have HBM : Box (binM d [.node e1 es1, .node e2 es2] [x, y] = (x, 0)) := ⟨by rw [HB0.out, if_neg (by omega), if_neg (by omega), if_pos he]⟩
          clear he
          obtain ⟨r0, r1, r2⟩ := HS.out.R.c3
          have rf := HS.out.R.frozen
          go_wp2_with fail
          exact bodyPost_ret (v := .tuple #[uV x, .int .i64 0]) (by simp [results, Tryd.results65, go_sem, r0, r1, r2, rf]) rfl ⟨by rw [HBM.out]; try rfl, bset3 HS.out.below (by omega) _ _ _⟩
        · have hq := fun W : World => (eq_units x y W).trans (by rw [decide_eq_false he])
          have HBM : Box (binM d [.node e1 es1, .node e2 es2] [x, y] = (u0, 7)) := ⟨by rw [HB0.out, if_neg (by omega), if_neg (by omega), if_neg he]⟩
          clear he
          obtain ⟨r0, r1, r2⟩ := HS.out.R.c3
          have rf := HS.out.R.frozen
          go_wp2_with fail
          exact bodyPost_ret (v := .tuple #[zeroU, .int .i64 7]) (by simp [results, Tryd.results65, go_sem, r0, r1, r2, rf]) rfl ⟨by rw [HBM.out]; try rfl, bset3 HS.out.below (by omega) _ _ _⟩
      · rw [hf] at c1
        by_cases he : x = y
        · have hq := fun W : World => (eq_units x y W).trans (by rw [decide_eq_true he])
          have HBM : Box (binM d [.node e1 es1, .node e2 es2] [x, y] = (x, 0)) := ⟨by rw [HB0.out, if_neg (by omega), if_neg (by omega), if_pos he]⟩
          clear he
          obtain ⟨r0, r1, r2⟩ := HS.out.R.c3
          have rf := HS.out.R.frozen
          go_wp2_with fail
          exact bodyPost_ret (v := .tuple #[uV x, .int .i64 0]) (by simp [results, Tryd.results65, go_sem, r0, r1, r2, rf]) rfl ⟨by rw [HBM.out]; try rfl, bset3 HS.out.below (by omega) _ _ _⟩
        · have hq := fun W : World => (eq_units x y W).trans (by rw [decide_eq_false he])
          have HBM : Box (binM d [.node e1 es1, .node e2 es2] [x, y] = (u0, 7)) := ⟨by rw [HB0.out, if_neg (by omega), if_neg (by omega), if_neg he]⟩
          clear he
          obtain ⟨r0, r1, r2⟩ := HS.out.R.c3
          have rf := HS.out.R.frozen
          go_wp2_with fail
          exact bodyPost_ret (v := .tuple #[zeroU, .int .i64 7]) (by simp [results, Tryd.results65, go_sem, r0, r1, r2, rf]) rfl ⟨by rw [HBM.out]; try rfl, bset3 HS.out.below (by omega) _ _ _⟩
      · rw [hf] at c1
        have HBM : Box (binM d [.node e1 es1, .node e2 es2] [x, y] = limU (addU x y)) := ⟨by rw [HB0.out, if_pos hf]⟩
        go_wp2_with fail
        refine (ruMul (m0 := (addU x y).1) (m1 := (addU x y).2.1) (m2 := (addU x y).2.2) _ rfl rfl rfl).mono ?_
        rintro e w5 ⟨rfl, hb5⟩
        have HS5 := Box.mk (HS.out.next hb5)
        clear hb5 HS c1 x0 x1 x2 y0 y1 y2
        go_upto_region 10 with (fail)
        have HS6 := Box.mk (HS5.out.next (bel1 w5 (.cells (uC (addU x y)) 23)))
        have HV6 : Box (Blk (w5.alloc (.cells (uC (addU x y)) 23)) w5.heap.size 23 (uC (addU x y))) := ⟨Blk.new _ _ _⟩
        have hvb : w.heap.size + 3 < w5.heap.size := HS5.out.R.lt
        clear HS5
        generalize w5.alloc (.cells (uC (addU x y)) 23) = W6 at HS6 HV6 ⊢
        generalize w5.heap.size = vb at *
        have c1 := (blk11z HS6.out.Q).2.1
        rw [hf] at c1
        go_upto_region 12 with (fail)
        clear c1
        obtain ⟨v0, v1, v2⟩ := HV6.out.c3
        obtain ⟨q, HQ⟩ : ∃ z, Box (okU (addU x y) = z) := ⟨_, ⟨rfl⟩⟩
        go_wp2_with fail
        refine (ruv_u (addU x y) q HQ.out _).mono ?_
        rintro e w7 ⟨rfl, hb7⟩
        have HS7 := Box.mk (HS6.out.next hb7)
        have HV7 := Box.mk (HV6.out.below hb7)
        clear hb7 HS6 HV6 v0 v1 v2
        obtain ⟨v0, v1, v2⟩ := HV7.out.c3
        cases q
        · have HL : Box (limU (addU x y) = (u0, 4)) := ⟨lim_no HQ.out⟩
          obtain ⟨r0, r1, r2⟩ := HS7.out.R.c3
          have rf := HS7.out.R.frozen
          go_wp2_with fail
          exact bodyPost_ret (v := .tuple #[zeroU, .int .i64 4]) (by simp [results, Tryd.results65, go_sem, r0, r1, r2, rf]) rfl ⟨by rw [HBM.out, HL.out]; try rfl, bset3 HS7.out.below (by omega) _ _ _⟩
        · have HL : Box (limU (addU x y) = (addU x y, 0)) := ⟨lim_yes HQ.out⟩
          obtain ⟨r0, r1, r2⟩ := HS7.out.R.c3
          have rf := HS7.out.R.frozen
          go_wp2_with fail
          exact bodyPost_ret (v := .tuple #[uV (addU x y), .int .i64 0]) (by simp [results, Tryd.results65, go_sem, r0, r1, r2, rf]) rfl ⟨by rw [HBM.out, HL.out]; try rfl, bset3 HS7.out.below (by omega) _ _ _⟩
      · rw [hf] at c1
        have HBM : Box (binM d [.node e1 es1, .node e2 es2] [x, y] = limU (subU x y)) := ⟨by rw [HB0.out, if_neg (by omega), if_pos hf]⟩
        go_wp2_with fail
        refine (ruMul (m0 := (addU x y).1) (m1 := (addU x y).2.1) (m2 := (addU x y).2.2) _ rfl rfl rfl).mono ?_
        rintro e w5 ⟨rfl, hb5⟩
        have HS5 := Box.mk (HS.out.next hb5)
        clear hb5 HS c1 x0 x1 x2 y0 y1 y2
        go_upto_region 10 with (fail)
        have HS6 := Box.mk (HS5.out.next (bel1 w5 (.cells (uC (addU x y)) 23)))
        have HV6 : Box (Blk (w5.alloc (.cells (uC (addU x y)) 23)) w5.heap.size 23 (uC (addU x y))) := ⟨Blk.new _ _ _⟩
        have hvb : w.heap.size + 3 < w5.heap.size := HS5.out.R.lt
        clear HS5
        generalize w5.alloc (.cells (uC (addU x y)) 23) = W6 at HS6 HV6 ⊢
        generalize w5.heap.size = vb at *
        have c1 := (blk11z HS6.out.Q).2.1
        rw [hf] at c1
        obtain ⟨x0, x1, x2⟩ := HS6.out.A.c3
        obtain ⟨y0, y1, y2⟩ := HS6.out.B.c3
        go_wp2_with fail
        refine (ruDiv (m0 := (subU x y).1) (m1 := (subU x y).2.1) (m2 := (subU x y).2.2) _ rfl rfl rfl).mono ?_
        rintro e w7 ⟨rfl, hb7⟩
        have HS7 := Box.mk (HS6.out.next hb7)
        have HV7 := Box.mk (HV6.out.below hb7)
        clear hb7 HS6 HV6 c1 x0 x1 x2 y0 y1 y2
        obtain ⟨v0, v1, v2⟩ := HV7.out.c3
        have vf := HV7.out.frozen
        go_upto_region 12 with (fail)
        have HV6 : Box (Blk (((w7.setCell ⟨vb, 0, none⟩ (.int .i64 (subU x y).1)).setCell ⟨vb, 1, none⟩ (.int .i64 (subU x y).2.1)).setCell ⟨vb, 2, none⟩ (.int .i64 (subU x y).2.2)) vb 23 (uC (subU x y))) := ⟨((HV7.out.set 0 (.int .i64 (subU x y).1)).set 1 (.int .i64 (subU x y).2.1)).set 2 (.int .i64 (subU x y).2.2)⟩
        have HS6 := Box.mk (HS7.out.from_ (bset3 (g := vb) (Below.refl _ w7) (by omega) (.int .i64 (subU x y).1) (.int .i64 (subU x y).2.1) (.int .i64 (subU x y).2.2)))
        clear HS7 HV7 vf v0 v1 v2
        generalize (((w7.setCell ⟨vb, 0, none⟩ (.int .i64 (subU x y).1)).setCell ⟨vb, 1, none⟩ (.int .i64 (subU x y).2.1)).setCell ⟨vb, 2, none⟩ (.int .i64 (subU x y).2.2)) = W8 at *
        obtain ⟨v0, v1, v2⟩ := HV6.out.c3
        obtain ⟨q, HQ⟩ : ∃ z, Box (okU (subU x y) = z) := ⟨_, ⟨rfl⟩⟩
        go_wp2_with fail
        refine (ruv_u (subU x y) q HQ.out _).mono ?_
        rintro e w7 ⟨rfl, hb7⟩
        have HS7 := Box.mk (HS6.out.next hb7)
        have HV7 := Box.mk (HV6.out.below hb7)
        clear hb7 HS6 HV6 v0 v1 v2
        obtain ⟨v0, v1, v2⟩ := HV7.out.c3
        cases q
        · have HL : Box (limU (subU x y) = (u0, 4)) := ⟨lim_no HQ.out⟩
          obtain ⟨r0, r1, r2⟩ := HS7.out.R.c3
          have rf := HS7.out.R.frozen
          go_wp2_with fail
          exact bodyPost_ret (v := .tuple #[zeroU, .int .i64 4]) (by simp [results, Tryd.results65, go_sem, r0, r1, r2, rf]) rfl ⟨by rw [HBM.out, HL.out]; try rfl, bset3 HS7.out.below (by omega) _ _ _⟩
        · have HL : Box (limU (subU x y) = (subU x y, 0)) := ⟨lim_yes HQ.out⟩
          obtain ⟨r0, r1, r2⟩ := HS7.out.R.c3
          have rf := HS7.out.R.frozen
          go_wp2_with fail
          exact bodyPost_ret (v := .tuple #[uV (subU x y), .int .i64 0]) (by simp [results, Tryd.results65, go_sem, r0, r1, r2, rf]) rfl ⟨by rw [HBM.out, HL.out]; try rfl, bset3 HS7.out.below (by omega) _ _ _⟩
    · have HBM : Box (binM d [.node e1 es1, .node e2 es2] [x, y] = (u0, 7)) := ⟨by
        unfold binM
        simp only
        rw [if_pos]
        rw [HRA.out, HRB.out]
        have := hq.out
        cases ra <;> cases rb <;> simp at this <;> exact ⟨rfl, rfl, this⟩⟩
      obtain ⟨r0, r1, r2⟩ := HS.out.R.c3
      have rf := HS.out.R.frozen
      go_wp2_with fail
      exact bodyPost_ret (v := .tuple #[zeroU, .int .i64 7]) (by simp [results, Tryd.results65, go_sem, r0, r1, r2, rf]) rfl ⟨by rw [HBM.out]; try rfl, bset3 HS.out.below (by omega) _ _ _⟩
end Go.Proofs.YtgomgoacponbkaaDoor
