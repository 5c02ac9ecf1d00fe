/- Contracts, packed: Rc. -/
import Derived.Test.YtcifgobinleldaaGreatDoorPt14
import Derived.Test.YtcifgobinleldaaGreatDoorPt30
set_option linter.unusedVariables false
set_option linter.unusedSimpArgs false
namespace Go.Proofs.YtcifgobinleldaaGreatDoor
section
open Go.RowKit FracM

abbrev u2C (x y : U3) : Array Value := #[.int .i64 x.1, .int .i64 x.2.1, .int .i64 x.2.2, .int .i64 y.1, .int .i64 y.2.1, .int .i64 y.2.2]
structure S3 (g : Nat) (w W : World) (P : Nat → Nat → Prop) (d : Nd) (ks : List Tree) (mv bv kv dv : Value) (er : Int) (x y : U3) : Prop where
  only : Only g w W
  T : Blk W g 133 #[dv, .int .i64 er]
  Q : Blk W w.heap.size 33 (ndC d mv bv kv)
  V : Blk W (w.heap.size + 1) 189 (u2C x y)
  R : Blk W (w.heap.size + 2) 61 #[.int .i64 0, .int .i64 0, .int .i64 0]
  nod : Nod W P d ks mv bv kv
theorem S3.start {g : Nat} {w : World} {P : Nat → Nat → Prop} {d : Nd} {ks : List Tree} {mv bv kv dv : Value} {er : Int} {x y : U3} (hg : Blk w g 133 #[dv, .int .i64 er]) (hT : TreeAt w P (.node d ks) (mv, bv, kv)) : S3 g w (((w.alloc (.cells (ndC d mv bv kv) 33)).alloc (.cells (u2C x y) 189)).alloc (.cells #[.int .i64 0, .int .i64 0, .int .i64 0] 61)) P d ks mv bv kv dv er x y :=
  ⟨Only.of_below (bel3 _ _ _ _), ((hg.alloc _).alloc _).alloc _, ((Blk.new _ _ _).alloc _).alloc _, (Blk.newAt _ _ (by simp)).alloc _, Blk.newAt _ _ (by simp), (hT.belo (bel3 _ _ _ _)).nod⟩
theorem S3.below {g : Nat} {w W W' : World} {P : Nat → Nat → Prop} {d : Nd} {ks : List Tree} {mv bv kv dv : Value} {er : Int} {x y : U3} (h : S3 g w W P d ks mv bv kv dv er x y) (hb : Below W.heap.size W W') : S3 g w W' P d ks mv bv kv dv er x y :=
  ⟨h.only.trans (Only.of_below hb), h.T.below hb, h.Q.below hb, h.V.below hb, h.R.below hb, h.nod.below hb⟩
theorem S3.next {g : Nat} {w W W' : World} {P : Nat → Nat → Prop} {d : Nd} {ks : List Tree} {mv bv kv dv : Value} {er er' : Int} {x y : U3} (h : S3 g w W P d ks mv bv kv dv er x y) (hg : g < w.heap.size) (hP : ∀ b e, P b e → b ≠ g) (ho : Only g W W') (hT : Blk W' g 133 #[dv, .int .i64 er']) : S3 g w W' P d ks mv bv kv dv er' x y :=
  ⟨h.only.trans ho, hT, ho.blk h.Q (by omega), ho.blk h.V (by omega), ho.blk h.R (by omega), h.nod.keep (Agree.of_only ho hP)⟩
theorem S3.fin {g : Nat} {w W : World} {P : Nat → Nat → Prop} {d : Nd} {ks : List Tree} {mv bv kv dv : Value} {er : Int} {x y : U3} (h : S3 g w W P d ks mv bv kv dv er x y) (hg : g < w.heap.size) (v : Value) (u0 u1 u2 : Value) : RetT g v #[dv, .int .i64 er] w (.returned v) (((W.setCell ⟨w.heap.size + 2, 0, none⟩ u0).setCell ⟨w.heap.size + 2, 1, none⟩ u1).setCell ⟨w.heap.size + 2, 2, none⟩ u2) :=
  ⟨rfl, ((h.T.far (p := ⟨w.heap.size + 2, 0, none⟩) (by simp only; omega) _).far (p := ⟨w.heap.size + 2, 1, none⟩) (by simp only; omega) _).far (p := ⟨w.heap.size + 2, 2, none⟩) (by simp only; omega) _,
   ((h.only.newCell (p := ⟨w.heap.size + 2, 0, none⟩) (by simp) u0).newCell (p := ⟨w.heap.size + 2, 1, none⟩) (by simp) u1).newCell (p := ⟨w.heap.size + 2, 2, none⟩) (by simp) u2⟩
theorem S3.drew {g : Nat} {w W : World} {P : Nat → Nat → Prop} {d : Nd} {ks : List Tree} {mv bv kv dv : Value} {er : Int} {x y : U3} (h : S3 g w W P d ks mv bv kv dv er x y) : S3 g w W.drew P d ks mv bv kv dv er x y := h.below (below_drewN W 1)
theorem blk6 {W : World} {g : Nat} {t : TypeId} {x y : U3} (h : Blk W g t (u2C x y)) : W.cell? ⟨g, 0, none⟩ = some (.int .i64 x.1) ∧ W.cell? ⟨g, 1, none⟩ = some (.int .i64 x.2.1) ∧ W.cell? ⟨g, 2, none⟩ = some (.int .i64 x.2.2) ∧ W.cell? ⟨g, 3, none⟩ = some (.int .i64 y.1) ∧ W.cell? ⟨g, 4, none⟩ = some (.int .i64 y.2.1) ∧ W.cell? ⟨g, 5, none⟩ = some (.int .i64 y.2.2) := by
  unfold Blk at h
  refine ⟨?_, ?_, ?_, ?_, ?_, ?_⟩ <;> simp [World.cell?, h]
theorem blk11z {W : World} {g : Nat} {t : TypeId} {d : Nd} {mv bv kv : Value} (h : Blk W g t (ndC d mv bv kv)) : W.cell? ⟨g, 0, none⟩ = some (.int .i64 d.kind) ∧ W.cell? ⟨g, 1, none⟩ = some (.int .i64 d.fn) ∧ W.cell? ⟨g, 2, none⟩ = some (.int .i64 d.win) ∧ W.cell? ⟨g, 3, none⟩ = some (.int .i64 d.off) ∧ W.cell? ⟨g, 4, none⟩ = some (.int .i64 d.k) ∧ W.cell? ⟨g, 5, none⟩ = some (.int .i64 d.num) ∧ W.cell? ⟨g, 6, none⟩ = some (.int .i64 d.den) ∧ W.cell? ⟨g, 7, none⟩ = some (.string d.name) ∧ W.cell? ⟨g, 8, none⟩ = some mv ∧ W.cell? ⟨g, 9, none⟩ = some bv ∧ W.cell? ⟨g, 10, none⟩ = some kv := by
  unfold Blk at h
  refine ⟨?_, ?_, ?_, ?_, ?_, ?_, ?_, ?_, ?_, ?_, ?_⟩ <;> simp [World.cell?, h]
theorem bel2d (w : World) (o o' : Obj) : Below w.heap.size w ((w.alloc o).alloc o').drew := (bel2 w o o').drew
theorem TreeAt.drew {w : World} {P : Nat → Nat → Prop} {t : Tree} {s : Sl} (h : TreeAt w P t s) : TreeAt w.drew P t s := h.belo (below_drewN w 1)
set_option maxHeartbeats 8000000 in
set_option maxRecDepth 100000 in
theorem binary_any (g : Nat) (d : Nd) (ks : List Tree) (mv bv kv dv : Value) (x y : U3) (P : Nat → Nat → Prop) (w : World) (hg : Blk w g 133 #[dv, .int .i64 0]) (hT : TreeAt w P (.node d ks) (mv, bv, kv)) (hP : ∀ b e, P b e → b < w.heap.size ∧ b ≠ g) (hl : ks.length = 2) (hck : ∀ t ∈ ks, chk t = 0) (hf0 : 0 ≤ d.fn) (hf3 : d.fn ≤ 3) :
    Calls Tryz.prog 126 #[.pointer (some ⟨g, 0, none⟩), .agg (ndC d mv bv kv), .agg (u2C x y)] w (RetT g (uV (binM d ks [x, y]).1) #[dv, .int .i64 (binM d ks [x, y]).2] w) := by
  have hgw := hg.lt
  have HPG : Box (∀ b e, P b e → b ≠ g) := ⟨fun b e h => (hP b e h).2⟩
  have HCK := Box.mk hck
  have HS := Box.mk (S3.start (x := x) (y := y) hg hT)
  obtain ⟨A3, n3, hkv, l3⟩ := hT.nod.kform
  rw [hl] at hkv
  subst hkv
  have HL := Box.mk hl
  clear hT hg hP hck hl l3
  go_enter Tryz.func126, Tryz.ntmps126
  go_upto_region 1 with (fail)
  generalize (((w.alloc (.cells (ndC d mv bv (.slice A3 2 n3)) 33)).alloc (.cells (u2C x y) 189)).alloc (.cells #[.int .i64 0, .int .i64 0, .int .i64 0] 61)) = W at HS ⊢
  obtain ⟨e1, es1, b, off, B1, m1, B2, m2, B3, m3, hx, rfl, hb, hpb, h11, hT1⟩ := kid2 HS.out.nod 0 (by rw [HL.out]; omega)
  obtain ⟨e2, es2, b', off', B1', m1', B2', m2', B3', m3', hx', hA, hb', hpb', h11', hT2⟩ := kid2 HS.out.nod 1 (by rw [HL.out]; omega)
  cases hA
  have h2 := two_of HL.out hx hx'
  have HCA := Box.mk (HCK.out _ (List.mem_of_getElem? hx))
  have HCB := Box.mk (HCK.out _ (List.mem_of_getElem? hx'))
  subst h2
  have HT1 := Box.mk hT1
  have HT2 := Box.mk hT2
  obtain ⟨k0, k1, k2, k3, k4, k5, k6, k7, k8, k9, k10⟩ := h11
  obtain ⟨j0, j1, j2, j3, j4, j5, j6, j7, j8, j9, j10⟩ := h11'
  simp only [Nat.zero_mul, Nat.one_mul, Nat.add_zero] at k0 k1 k2 k3 k4 k5 k6 k7 k8 k9 k10 j0 j1 j2 j3 j4 j5 j6 j7 j8 j9 j10
  clear hT1 hT2 hx hx' hpb hpb' hb' HCK
  obtain ⟨c0, c1, c2, c3, c4, c5, c6, c7, c8, c9, c10⟩ := blk11 HS.out.Q
  simp only [Nat.zero_add] at c10
  clear c0 c1 c2 c3 c4 c5 c6 c7 c8 c9
  have hqW := HS.out.Q.lt
  have hne1 : W.heap.size ≠ w.heap.size := by omega
  have hne2 : W.heap.size ≠ b := by omega
  have hne3 : W.heap.size + 1 ≠ w.heap.size := by omega
  have hne4 : W.heap.size + 1 ≠ b := by omega
  go_cut [7, 8] (fun p q wx => ∃ ab bb, p = .pointer (some ⟨ab, 0, none⟩) ∧ q = .pointer (some ⟨bb, 0, none⟩) ∧ Below W.heap.size W wx ∧ Blk wx ab 33 (ndC e1 (.slice B1 e1.ms.length m1) (.slice B2 e1.bys.length m2) (.slice B3 es1.length m3)) ∧ Blk wx bb 33 (ndC e2 (.slice B1' e2.ms.length m1') (.slice B2' e2.bys.length m2') (.slice B3' es2.length m3')))
  case first =>
    go_region_held3 (fun w' => w'.cell? ⟨w.heap.size, 10, none⟩ = some (.slice (some ⟨b, off, none⟩) 2 n3) ∧ w'.cell? ⟨b, off, none⟩ = some (.int .i64 e1.kind) ∧ w'.cell? ⟨b, off + 1, none⟩ = some (.int .i64 e1.fn) ∧ w'.cell? ⟨b, off + 2, none⟩ = some (.int .i64 e1.win) ∧ w'.cell? ⟨b, off + 3, none⟩ = some (.int .i64 e1.off) ∧ w'.cell? ⟨b, off + 4, none⟩ = some (.int .i64 e1.k) ∧ w'.cell? ⟨b, off + 5, none⟩ = some (.int .i64 e1.num) ∧ w'.cell? ⟨b, off + 6, none⟩ = some (.int .i64 e1.den) ∧ w'.cell? ⟨b, off + 7, none⟩ = some (.string e1.name) ∧ w'.cell? ⟨b, off + 8, none⟩ = some (.slice B1 e1.ms.length m1) ∧ w'.cell? ⟨b, off + 9, none⟩ = some (.slice B2 e1.bys.length m2) ∧ w'.cell? ⟨b, off + 10, none⟩ = some (.slice B3 es1.length m3) ∧ w'.cell? ⟨b, off + 11, none⟩ = some (.int .i64 e2.kind) ∧ w'.cell? ⟨b, off + 11 + 1, none⟩ = some (.int .i64 e2.fn) ∧ w'.cell? ⟨b, off + 11 + 2, none⟩ = some (.int .i64 e2.win) ∧ w'.cell? ⟨b, off + 11 + 3, none⟩ = some (.int .i64 e2.off) ∧ w'.cell? ⟨b, off + 11 + 4, none⟩ = some (.int .i64 e2.k) ∧ w'.cell? ⟨b, off + 11 + 5, none⟩ = some (.int .i64 e2.num) ∧ w'.cell? ⟨b, off + 11 + 6, none⟩ = some (.int .i64 e2.den) ∧ w'.cell? ⟨b, off + 11 + 7, none⟩ = some (.string e2.name) ∧ w'.cell? ⟨b, off + 11 + 8, none⟩ = some (.slice B1' e2.ms.length m1') ∧ w'.cell? ⟨b, off + 11 + 9, none⟩ = some (.slice B2' e2.bys.length m2') ∧ w'.cell? ⟨b, off + 11 + 10, none⟩ = some (.slice B3' es2.length m3')) (go_keep) (fail)
    all_goals
      go_wp2_with fail
      go_meet
      first
        | exact ⟨W.heap.size, W.heap.size + 1, rfl, rfl, bel2d _ _ _, ((Blk.new _ _ _).alloc _).drew, (Blk.newAt _ _ (by simp)).drew⟩
        | exact ⟨W.heap.size + 1, W.heap.size, rfl, rfl, bel2d _ _ _, (Blk.newAt _ _ (by simp)).drew, ((Blk.new _ _ _).alloc _).drew⟩
  case rest =>
    clear k0 k1 k2 k3 k4 k5 k6 k7 k8 k9 k10 j0 j1 j2 j3 j4 j5 j6 j7 j8 j9 j10 c10
    obtain ⟨ab, bb, rfl, rfl, hbel, hblA, hblB⟩ := hcut
    rename World => wd
    have HS2 := Box.mk (HS.out.below hbel)
    have HTA := Box.mk (HT1.out.belo hbel)
    have HTB := Box.mk (HT2.out.belo hbel)
    have HBA := Box.mk hblA
    have HBB := Box.mk hblB
    clear HS HT1 HT2 hbel hblA hblB hb
    obtain ⟨ra, HRA⟩ : ∃ z, Box (rlB (.node e1 es1) = z) := ⟨_, ⟨rfl⟩⟩
    obtain ⟨rb, HRB⟩ : ∃ z, Box (rlB (.node e2 es2) = z) := ⟨_, ⟨rfl⟩⟩
    have HK := Box.mk (And.intro (blk11z HBA.out) (blk11z HBB.out))
    obtain ⟨⟨a0, a1, a2, a3, a4, a5, a6, a7, a8, a9, a10⟩, ⟨b0, b1, b2, b3, b4, b5, b6, b7, b8, b9, b10⟩⟩ := HK.out
    have CR1 : Box (∀ W, TreeAt W P (.node e1 es1) (.slice B1 e1.ms.length m1, .slice B2 e1.bys.length m2, .slice B3 es1.length m3) → Calls Tryz.prog 78 #[.agg (ndC e1 (.slice B1 e1.ms.length m1) (.slice B2 e1.bys.length m2) (.slice B3 es1.length m3))] W (RetB (.bool ra) W)) := ⟨fun W h => by rw [← HRA.out]; exact rowless_any _ P W (.slice B1 e1.ms.length m1, .slice B2 e1.bys.length m2, .slice B3 es1.length m3) h HCA.out⟩
    have CR2 : Box (∀ W, TreeAt W P (.node e2 es2) (.slice B1' e2.ms.length m1', .slice B2' e2.bys.length m2', .slice B3' es2.length m3') → Calls Tryz.prog 78 #[.agg (ndC e2 (.slice B1' e2.ms.length m1') (.slice B2' e2.bys.length m2') (.slice B3' es2.length m3'))] W (RetB (.bool rb) W)) := ⟨fun W h => by rw [← HRB.out]; exact rowless_any _ P W (.slice B1' e2.ms.length m1', .slice B2' e2.bys.length m2', .slice B3' es2.length m3') h HCB.out⟩
    go_upto_region 2 with (fail)
    go_cut [32] (fun v wx => ∃ q : Bool, v = .bool q ∧ Box (q = (!ra && !rb && !decide (rw1 (.node e1 es1) = rw1 (.node e2 es2)))) ∧ S3 g w wx P d [.node e1 es1, .node e2 es2] mv bv (.slice (some ⟨b, off, none⟩) 2 n3) dv 0 x y)
    case first =>
      cases ra
      · cases rb
        · have CW1 : Box (∀ W, TreeAt W P (.node e1 es1) (.slice B1 e1.ms.length m1, .slice B2 e1.bys.length m2, .slice B3 es1.length m3) → Calls Tryz.prog 79 #[.agg (ndC e1 (.slice B1 e1.ms.length m1) (.slice B2 e1.bys.length m2) (.slice B3 es1.length m3))] W (RetStrs (rw1 (.node e1 es1)) W)) := ⟨fun W h => rows_any _ P W (.slice B1 e1.ms.length m1, .slice B2 e1.bys.length m2, .slice B3 es1.length m3) h HCA.out HRA.out⟩
          have CW2 : Box (∀ W, TreeAt W P (.node e2 es2) (.slice B1' e2.ms.length m1', .slice B2' e2.bys.length m2', .slice B3' es2.length m3') → Calls Tryz.prog 79 #[.agg (ndC e2 (.slice B1' e2.ms.length m1') (.slice B2' e2.bys.length m2') (.slice B3' es2.length m3'))] W (RetStrs (rw1 (.node e2 es2)) W)) := ⟨fun W h => rows_any _ P W (.slice B1' e2.ms.length m1', .slice B2' e2.bys.length m2', .slice B3' es2.length m3') h HCB.out HRB.out⟩
          have HEQ : Box (sameB (rw1 (.node e1 es1)) (rw1 (.node e2 es2)) = decide (rw1 (.node e1 es1) = rw1 (.node e2 es2))) := ⟨same_eq _ _⟩
          generalize hl1 : rw1 (.node e1 es1) = l1 at CW1 HEQ
          generalize hl2 : rw1 (.node e2 es2) = l2 at CW2 HEQ
          obtain ⟨sb, HSB⟩ : ∃ z, Box (sameB l1 l2 = z) := ⟨_, ⟨rfl⟩⟩
          have HL12 := Box.mk (And.intro hl1 hl2)
          clear hl1 hl2
          go_region_held3 (fun w' => (w'.cell? ⟨ab, 0, none⟩ = some (.int .i64 e1.kind) ∧ w'.cell? ⟨ab, 1, none⟩ = some (.int .i64 e1.fn) ∧ w'.cell? ⟨ab, 2, none⟩ = some (.int .i64 e1.win) ∧ w'.cell? ⟨ab, 3, none⟩ = some (.int .i64 e1.off) ∧ w'.cell? ⟨ab, 4, none⟩ = some (.int .i64 e1.k) ∧ w'.cell? ⟨ab, 5, none⟩ = some (.int .i64 e1.num) ∧ w'.cell? ⟨ab, 6, none⟩ = some (.int .i64 e1.den) ∧ w'.cell? ⟨ab, 7, none⟩ = some (.string e1.name) ∧ w'.cell? ⟨ab, 8, none⟩ = some (.slice B1 e1.ms.length m1) ∧ w'.cell? ⟨ab, 9, none⟩ = some (.slice B2 e1.bys.length m2) ∧ w'.cell? ⟨ab, 10, none⟩ = some (.slice B3 es1.length m3)) ∧ w'.cell? ⟨bb, 0, none⟩ = some (.int .i64 e2.kind) ∧ w'.cell? ⟨bb, 1, none⟩ = some (.int .i64 e2.fn) ∧ w'.cell? ⟨bb, 2, none⟩ = some (.int .i64 e2.win) ∧ w'.cell? ⟨bb, 3, none⟩ = some (.int .i64 e2.off) ∧ w'.cell? ⟨bb, 4, none⟩ = some (.int .i64 e2.k) ∧ w'.cell? ⟨bb, 5, none⟩ = some (.int .i64 e2.num) ∧ w'.cell? ⟨bb, 6, none⟩ = some (.int .i64 e2.den) ∧ w'.cell? ⟨bb, 7, none⟩ = some (.string e2.name) ∧ w'.cell? ⟨bb, 8, none⟩ = some (.slice B1' e2.ms.length m1') ∧ w'.cell? ⟨bb, 9, none⟩ = some (.slice B2' e2.bys.length m2') ∧ w'.cell? ⟨bb, 10, none⟩ = some (.slice B3' es2.length m3')) (first | with_reducible exact HK9.out | with_reducible exact HK8.out | with_reducible exact HK7.out | with_reducible exact HK6.out | with_reducible exact HK5.out | go_keep)
            (first
              | (go_at_call 78
                 (with_reducible refine (CR1.out _ ?_).mono ?_)
                 (first | with_reducible exact HTA.out | with_reducible exact HTA.out.drew)
                 rintro e w5 ⟨rfl, hb5⟩
                 have HN5 := Box.mk ((HS2.out.drew).below hb5)
                 have HA5 := Box.mk (HTA.out.drew.belo hb5)
                 have HB5 := Box.mk (HTB.out.drew.belo hb5)
                 have HX5 := Box.mk (HBA.out.drew.below hb5)
                 have HY5 := Box.mk (HBB.out.drew.below hb5)
                 have HK5 : Box ((w5.cell? ⟨ab, 0, none⟩ = some (.int .i64 e1.kind) ∧ w5.cell? ⟨ab, 1, none⟩ = some (.int .i64 e1.fn) ∧ w5.cell? ⟨ab, 2, none⟩ = some (.int .i64 e1.win) ∧ w5.cell? ⟨ab, 3, none⟩ = some (.int .i64 e1.off) ∧ w5.cell? ⟨ab, 4, none⟩ = some (.int .i64 e1.k) ∧ w5.cell? ⟨ab, 5, none⟩ = some (.int .i64 e1.num) ∧ w5.cell? ⟨ab, 6, none⟩ = some (.int .i64 e1.den) ∧ w5.cell? ⟨ab, 7, none⟩ = some (.string e1.name) ∧ w5.cell? ⟨ab, 8, none⟩ = some (.slice B1 e1.ms.length m1) ∧ w5.cell? ⟨ab, 9, none⟩ = some (.slice B2 e1.bys.length m2) ∧ w5.cell? ⟨ab, 10, none⟩ = some (.slice B3 es1.length m3)) ∧ w5.cell? ⟨bb, 0, none⟩ = some (.int .i64 e2.kind) ∧ w5.cell? ⟨bb, 1, none⟩ = some (.int .i64 e2.fn) ∧ w5.cell? ⟨bb, 2, none⟩ = some (.int .i64 e2.win) ∧ w5.cell? ⟨bb, 3, none⟩ = some (.int .i64 e2.off) ∧ w5.cell? ⟨bb, 4, none⟩ = some (.int .i64 e2.k) ∧ w5.cell? ⟨bb, 5, none⟩ = some (.int .i64 e2.num) ∧ w5.cell? ⟨bb, 6, none⟩ = some (.int .i64 e2.den) ∧ w5.cell? ⟨bb, 7, none⟩ = some (.string e2.name) ∧ w5.cell? ⟨bb, 8, none⟩ = some (.slice B1' e2.ms.length m1') ∧ w5.cell? ⟨bb, 9, none⟩ = some (.slice B2' e2.bys.length m2') ∧ w5.cell? ⟨bb, 10, none⟩ = some (.slice B3' es2.length m3')) := Box.mk (And.intro (blk11z HX5.out) (blk11z HY5.out))
                 clear hb5)
              | (go_at_call 78
                 (with_reducible refine (CR2.out _ ?_).mono ?_)
                 (first | with_reducible exact HB5.out | with_reducible exact HB5.out.drew)
                 rintro e w6 ⟨rfl, hb5⟩
                 have HN6 := Box.mk (HN5.out.below hb5)
                 have HA6 := Box.mk (HA5.out.belo hb5)
                 have HB6 := Box.mk (HB5.out.belo hb5)
                 have HX6 := Box.mk (HX5.out.below hb5)
                 have HY6 := Box.mk (HY5.out.below hb5)
                 have HK6 : Box ((w6.cell? ⟨ab, 0, none⟩ = some (.int .i64 e1.kind) ∧ w6.cell? ⟨ab, 1, none⟩ = some (.int .i64 e1.fn) ∧ w6.cell? ⟨ab, 2, none⟩ = some (.int .i64 e1.win) ∧ w6.cell? ⟨ab, 3, none⟩ = some (.int .i64 e1.off) ∧ w6.cell? ⟨ab, 4, none⟩ = some (.int .i64 e1.k) ∧ w6.cell? ⟨ab, 5, none⟩ = some (.int .i64 e1.num) ∧ w6.cell? ⟨ab, 6, none⟩ = some (.int .i64 e1.den) ∧ w6.cell? ⟨ab, 7, none⟩ = some (.string e1.name) ∧ w6.cell? ⟨ab, 8, none⟩ = some (.slice B1 e1.ms.length m1) ∧ w6.cell? ⟨ab, 9, none⟩ = some (.slice B2 e1.bys.length m2) ∧ w6.cell? ⟨ab, 10, none⟩ = some (.slice B3 es1.length m3)) ∧ w6.cell? ⟨bb, 0, none⟩ = some (.int .i64 e2.kind) ∧ w6.cell? ⟨bb, 1, none⟩ = some (.int .i64 e2.fn) ∧ w6.cell? ⟨bb, 2, none⟩ = some (.int .i64 e2.win) ∧ w6.cell? ⟨bb, 3, none⟩ = some (.int .i64 e2.off) ∧ w6.cell? ⟨bb, 4, none⟩ = some (.int .i64 e2.k) ∧ w6.cell? ⟨bb, 5, none⟩ = some (.int .i64 e2.num) ∧ w6.cell? ⟨bb, 6, none⟩ = some (.int .i64 e2.den) ∧ w6.cell? ⟨bb, 7, none⟩ = some (.string e2.name) ∧ w6.cell? ⟨bb, 8, none⟩ = some (.slice B1' e2.ms.length m1') ∧ w6.cell? ⟨bb, 9, none⟩ = some (.slice B2' e2.bys.length m2') ∧ w6.cell? ⟨bb, 10, none⟩ = some (.slice B3' es2.length m3')) := Box.mk (And.intro (blk11z HX6.out) (blk11z HY6.out))
                 clear hb5)
              | (go_at_call 79
                 (with_reducible refine (CW1.out _ ?_).mono ?_)
                 (first | with_reducible exact HA6.out | with_reducible exact HA6.out.drew)
                 rintro e w7 ⟨Y1, y1, z1, rfl, hy1, hs1, hb5⟩
                 have HN7 := Box.mk (HN6.out.below hb5)
                 have HA7 := Box.mk hs1
                 have HB7 := Box.mk (HB6.out.belo hb5)
                 have HX7 := Box.mk (HX6.out.below hb5)
                 have HY7 := Box.mk (HY6.out.below hb5)
                 have HK7 : Box ((w7.cell? ⟨ab, 0, none⟩ = some (.int .i64 e1.kind) ∧ w7.cell? ⟨ab, 1, none⟩ = some (.int .i64 e1.fn) ∧ w7.cell? ⟨ab, 2, none⟩ = some (.int .i64 e1.win) ∧ w7.cell? ⟨ab, 3, none⟩ = some (.int .i64 e1.off) ∧ w7.cell? ⟨ab, 4, none⟩ = some (.int .i64 e1.k) ∧ w7.cell? ⟨ab, 5, none⟩ = some (.int .i64 e1.num) ∧ w7.cell? ⟨ab, 6, none⟩ = some (.int .i64 e1.den) ∧ w7.cell? ⟨ab, 7, none⟩ = some (.string e1.name) ∧ w7.cell? ⟨ab, 8, none⟩ = some (.slice B1 e1.ms.length m1) ∧ w7.cell? ⟨ab, 9, none⟩ = some (.slice B2 e1.bys.length m2) ∧ w7.cell? ⟨ab, 10, none⟩ = some (.slice B3 es1.length m3)) ∧ w7.cell? ⟨bb, 0, none⟩ = some (.int .i64 e2.kind) ∧ w7.cell? ⟨bb, 1, none⟩ = some (.int .i64 e2.fn) ∧ w7.cell? ⟨bb, 2, none⟩ = some (.int .i64 e2.win) ∧ w7.cell? ⟨bb, 3, none⟩ = some (.int .i64 e2.off) ∧ w7.cell? ⟨bb, 4, none⟩ = some (.int .i64 e2.k) ∧ w7.cell? ⟨bb, 5, none⟩ = some (.int .i64 e2.num) ∧ w7.cell? ⟨bb, 6, none⟩ = some (.int .i64 e2.den) ∧ w7.cell? ⟨bb, 7, none⟩ = some (.string e2.name) ∧ w7.cell? ⟨bb, 8, none⟩ = some (.slice B1' e2.ms.length m1') ∧ w7.cell? ⟨bb, 9, none⟩ = some (.slice B2' e2.bys.length m2') ∧ w7.cell? ⟨bb, 10, none⟩ = some (.slice B3' es2.length m3')) := Box.mk (And.intro (blk11z HX7.out) (blk11z HY7.out))
                 clear hb5 hs1 hy1)
              | (go_at_call 79
                 (with_reducible refine (CW2.out _ ?_).mono ?_)
                 (first | with_reducible exact HB7.out | with_reducible exact HB7.out.drew)
                 rintro e w8 ⟨Y2, y2, z2, rfl, hy2, hs2, hb5⟩
                 have HN8 := Box.mk (HN7.out.below hb5)
                 have HA8 := Box.mk (HA7.out.below hb5)
                 have HB8 := Box.mk hs2
                 have HX8 := Box.mk (HX7.out.below hb5)
                 have HY8 := Box.mk (HY7.out.below hb5)
                 have HK8 : Box ((w8.cell? ⟨ab, 0, none⟩ = some (.int .i64 e1.kind) ∧ w8.cell? ⟨ab, 1, none⟩ = some (.int .i64 e1.fn) ∧ w8.cell? ⟨ab, 2, none⟩ = some (.int .i64 e1.win) ∧ w8.cell? ⟨ab, 3, none⟩ = some (.int .i64 e1.off) ∧ w8.cell? ⟨ab, 4, none⟩ = some (.int .i64 e1.k) ∧ w8.cell? ⟨ab, 5, none⟩ = some (.int .i64 e1.num) ∧ w8.cell? ⟨ab, 6, none⟩ = some (.int .i64 e1.den) ∧ w8.cell? ⟨ab, 7, none⟩ = some (.string e1.name) ∧ w8.cell? ⟨ab, 8, none⟩ = some (.slice B1 e1.ms.length m1) ∧ w8.cell? ⟨ab, 9, none⟩ = some (.slice B2 e1.bys.length m2) ∧ w8.cell? ⟨ab, 10, none⟩ = some (.slice B3 es1.length m3)) ∧ w8.cell? ⟨bb, 0, none⟩ = some (.int .i64 e2.kind) ∧ w8.cell? ⟨bb, 1, none⟩ = some (.int .i64 e2.fn) ∧ w8.cell? ⟨bb, 2, none⟩ = some (.int .i64 e2.win) ∧ w8.cell? ⟨bb, 3, none⟩ = some (.int .i64 e2.off) ∧ w8.cell? ⟨bb, 4, none⟩ = some (.int .i64 e2.k) ∧ w8.cell? ⟨bb, 5, none⟩ = some (.int .i64 e2.num) ∧ w8.cell? ⟨bb, 6, none⟩ = some (.int .i64 e2.den) ∧ w8.cell? ⟨bb, 7, none⟩ = some (.string e2.name) ∧ w8.cell? ⟨bb, 8, none⟩ = some (.slice B1' e2.ms.length m1') ∧ w8.cell? ⟨bb, 9, none⟩ = some (.slice B2' e2.bys.length m2') ∧ w8.cell? ⟨bb, 10, none⟩ = some (.slice B3' es2.length m3')) := Box.mk (And.intro (blk11z HX8.out) (blk11z HY8.out))
                 clear hb5 hs2 hy2)
              | (go_at_call 170
                 (with_reducible refine (equal_any _ _ _ _ _ _ l1 l2 _ HA8.out HB8.out).mono ?_)
                 rintro e w9 ⟨rfl, hb5⟩
                 rw [HSB.out]
                 have HN9 := Box.mk (HN8.out.below hb5)
                 have HX9 := Box.mk (HX8.out.below hb5)
                 have HY9 := Box.mk (HY8.out.below hb5)
                 have HK9 : Box ((w9.cell? ⟨ab, 0, none⟩ = some (.int .i64 e1.kind) ∧ w9.cell? ⟨ab, 1, none⟩ = some (.int .i64 e1.fn) ∧ w9.cell? ⟨ab, 2, none⟩ = some (.int .i64 e1.win) ∧ w9.cell? ⟨ab, 3, none⟩ = some (.int .i64 e1.off) ∧ w9.cell? ⟨ab, 4, none⟩ = some (.int .i64 e1.k) ∧ w9.cell? ⟨ab, 5, none⟩ = some (.int .i64 e1.num) ∧ w9.cell? ⟨ab, 6, none⟩ = some (.int .i64 e1.den) ∧ w9.cell? ⟨ab, 7, none⟩ = some (.string e1.name) ∧ w9.cell? ⟨ab, 8, none⟩ = some (.slice B1 e1.ms.length m1) ∧ w9.cell? ⟨ab, 9, none⟩ = some (.slice B2 e1.bys.length m2) ∧ w9.cell? ⟨ab, 10, none⟩ = some (.slice B3 es1.length m3)) ∧ w9.cell? ⟨bb, 0, none⟩ = some (.int .i64 e2.kind) ∧ w9.cell? ⟨bb, 1, none⟩ = some (.int .i64 e2.fn) ∧ w9.cell? ⟨bb, 2, none⟩ = some (.int .i64 e2.win) ∧ w9.cell? ⟨bb, 3, none⟩ = some (.int .i64 e2.off) ∧ w9.cell? ⟨bb, 4, none⟩ = some (.int .i64 e2.k) ∧ w9.cell? ⟨bb, 5, none⟩ = some (.int .i64 e2.num) ∧ w9.cell? ⟨bb, 6, none⟩ = some (.int .i64 e2.den) ∧ w9.cell? ⟨bb, 7, none⟩ = some (.string e2.name) ∧ w9.cell? ⟨bb, 8, none⟩ = some (.slice B1' e2.ms.length m1') ∧ w9.cell? ⟨bb, 9, none⟩ = some (.slice B2' e2.bys.length m2') ∧ w9.cell? ⟨bb, 10, none⟩ = some (.slice B3' es2.length m3')) := Box.mk (And.intro (blk11z HX9.out) (blk11z HY9.out))
                 clear hb5))
          all_goals
            go_wp2_with fail
            go_meet
            exact ⟨_, rfl, ⟨by rw [HL12.out.1, HL12.out.2, ← HEQ.out, HSB.out]; rfl⟩, HN9.out⟩
        · go_region_with (first | (go_at_call 78; (with_reducible refine (CR1.out _ ?_).mono ?_); (first | with_reducible exact HTA.out | with_reducible exact HTA.out.drew); rintro e w5 ⟨rfl, hb5⟩; have HN5 := Box.mk ((HS2.out.drew).below hb5); have HB5 := Box.mk (HTB.out.drew.belo hb5); have HX5 := Box.mk (HBA.out.drew.below hb5); have HY5 := Box.mk (HBB.out.drew.below hb5); have HK5 := Box.mk (And.intro (blk11z HX5.out) (blk11z HY5.out)); clear hb5; clear a0 a1 a2 a3 a4 a5 a6 a7 a8 a9 a10 b0 b1 b2 b3 b4 b5 b6 b7 b8 b9 b10; obtain ⟨⟨a0, a1, a2, a3, a4, a5, a6, a7, a8, a9, a10⟩, ⟨b0, b1, b2, b3, b4, b5, b6, b7, b8, b9, b10⟩⟩ := HK5.out) | (go_at_call 78; (with_reducible refine (CR2.out _ ?_).mono ?_); (first | with_reducible exact HB5.out | with_reducible exact HB5.out.drew); rintro e w6 ⟨rfl, hb5⟩; have HN6 := Box.mk (HN5.out.below hb5); clear hb5; clear a0 a1 a2 a3 a4 a5 a6 a7 a8 a9 a10 b0 b1 b2 b3 b4 b5 b6 b7 b8 b9 b10))
          all_goals
            go_wp2_with fail
            go_meet
            exact ⟨_, rfl, ⟨by rfl⟩, HN6.out⟩
      · go_region_with ((go_at_call 78; (with_reducible refine (CR1.out _ ?_).mono ?_); (first | with_reducible exact HTA.out | with_reducible exact HTA.out.drew); rintro e w5 ⟨rfl, hb5⟩; have HN5 := Box.mk ((HS2.out.drew).below hb5); have HB5 := Box.mk (HTB.out.drew.belo hb5); have HX5 := Box.mk (HBA.out.drew.below hb5); have HY5 := Box.mk (HBB.out.drew.below hb5); have HK5 := Box.mk (And.intro (blk11z HX5.out) (blk11z HY5.out)); clear hb5; clear a0 a1 a2 a3 a4 a5 a6 a7 a8 a9 a10 b0 b1 b2 b3 b4 b5 b6 b7 b8 b9 b10; obtain ⟨⟨a0, a1, a2, a3, a4, a5, a6, a7, a8, a9, a10⟩, ⟨b0, b1, b2, b3, b4, b5, b6, b7, b8, b9, b10⟩⟩ := HK5.out))
        all_goals
          go_wp2_with fail
          go_meet
          exact ⟨_, rfl, ⟨by rfl⟩, HN5.out⟩
    case rest =>
      clear HS2 HTA HTB HBA HBB HK CR1 CR2 a0 a1 a2 a3 a4 a5 a6 a7 a8 a9 a10 b0 b1 b2 b3 b4 b5 b6 b7 b8 b9 b10
      obtain ⟨q, rfl, hq, hS⟩ := hcut
      rename World => wd
      have HS := Box.mk hS
      clear hS
      cases q
      · have HB0 : Box (binM d [.node e1 es1, .node e2 es2] [x, y] = if d.fn = 2 then limU (addU x y) else if d.fn = 3 then limU (subU x y) else if x = y then (x, 0) else (u0, 7)) := ⟨by
          unfold binM
          simp only
          rw [if_neg]
          rw [HRA.out, HRB.out]
          rintro ⟨rfl, rfl, h⟩
          have := hq.out
          rw [decide_eq_false h] at this
          cases this⟩
        have c1 := (blk11z HS.out.Q).2.1
        obtain ⟨v0, v1, v2, v3, v4, v5⟩ := blk6 HS.out.V
        by_cases h2 : d.fn = 2
        · have h2b : (d.fn == 2) = true := by simpa using h2
          have HBM : Box (binM d [.node e1 es1, .node e2 es2] [x, y] = limU (addU x y)) := ⟨by rw [HB0.out, if_pos h2]⟩
          go_upto_region 6 with (fail)
          go_region_with (first
            | (go_at_call 171; (with_reducible refine (uMul (m0 := (addU x y).1) (m1 := (addU x y).2.1) (m2 := (addU x y).2.2) _ rfl rfl rfl).mono ?_); rintro e w5 ⟨rfl, hb5⟩; have HM5 := Box.mk (HS.out.drew.below hb5); clear hb5)
            | (go_at_call 169; refine (limited_any g _ (addU x y) _ (by first | exact HM5.out.T | exact HM5.out.drew.T)).mono ?_; rintro e w6 ⟨rfl, hT5, ho5⟩; have HS5 := Box.mk (HM5.out.next hgw HPG.out (by first | exact ho5) hT5); clear hT5 ho5; obtain ⟨r0, r1, r2⟩ := HS5.out.R.c3; have rf := HS5.out.R.frozen))
          all_goals
            go_wp2_with fail
            exact bodyPost_ret (v := uV (limU (addU x y)).1) (by simp [results, Tryz.results126, go_sem, r0, r1, r2, rf]) rfl (by rw [HBM.out]; exact HS5.out.fin hgw _ _ _ _)
        have h2b : (d.fn == 2) = false := by simpa using h2
        by_cases h3 : d.fn = 3
        · have h3b : (d.fn == 3) = true := by simpa using h3
          have HBM : Box (binM d [.node e1 es1, .node e2 es2] [x, y] = limU (subU x y)) := ⟨by rw [HB0.out, if_neg h2, if_pos h3]⟩
          go_upto_region 8 with (fail)
          go_region_with (first
            | (go_at_call 172; (with_reducible refine (uDiv (m0 := (subU x y).1) (m1 := (subU x y).2.1) (m2 := (subU x y).2.2) _ rfl rfl rfl).mono ?_); rintro e w5 ⟨rfl, hb5⟩; have HM5 := Box.mk (HS.out.drew.below hb5); clear hb5)
            | (go_at_call 169; refine (limited_any g _ (subU x y) _ (by first | exact HM5.out.T | exact HM5.out.drew.T)).mono ?_; rintro e w6 ⟨rfl, hT5, ho5⟩; have HS5 := Box.mk (HM5.out.next hgw HPG.out (by first | exact ho5) hT5); clear hT5 ho5; obtain ⟨r0, r1, r2⟩ := HS5.out.R.c3; have rf := HS5.out.R.frozen))
          all_goals
            go_wp2_with fail
            exact bodyPost_ret (v := uV (limU (subU x y)).1) (by simp [results, Tryz.results126, go_sem, r0, r1, r2, rf]) rfl (by rw [HBM.out]; exact HS5.out.fin hgw _ _ _ _)
        have h3b : (d.fn == 3) = false := by simpa using h3
        by_cases he : x = y
        · have hq := fun W : World => (eq_units x y W).trans (by rw [decide_eq_true he])
          have HBM : Box (binM d [.node e1 es1, .node e2 es2] [x, y] = (x, 0)) := ⟨by rw [HB0.out, if_neg h2, if_neg h3, if_pos he]⟩
          clear he
          obtain ⟨r0, r1, r2⟩ := HS.out.R.c3
          have rf := HS.out.R.frozen
          go_wp2_with fail
          exact bodyPost_ret (v := uV x) (by simp [results, Tryz.results126, go_sem, r0, r1, r2, rf]) rfl (by rw [HBM.out]; exact HS.out.fin hgw _ _ _ _)
        · have hq := fun W : World => (eq_units x y W).trans (by rw [decide_eq_false he])
          have HBM : Box (binM d [.node e1 es1, .node e2 es2] [x, y] = (u0, 7)) := ⟨by rw [HB0.out, if_neg h2, if_neg h3, if_neg he]⟩
          clear he
          go_wp2_with fail
          refine (fail_any g _ _ _ HS.out.T).mono ?_
          rintro e w5 ⟨rfl, hT5, ho5⟩
          have HS5 := Box.mk (HS.out.next hgw HPG.out ho5 hT5)
          clear hT5 ho5
          obtain ⟨r0, r1, r2⟩ := HS5.out.R.c3
          have rf := HS5.out.R.frozen
          go_wp2_with fail
          exact bodyPost_ret (v := zeroU) (by simp [results, Tryz.results126, go_sem, r0, r1, r2, rf]) rfl (by rw [HBM.out]; exact HS5.out.fin hgw _ _ _ _)
      · have HBM : Box (binM d [.node e1 es1, .node e2 es2] [x, y] = (u0, 7)) := ⟨by
          unfold binM
          simp only
          rw [if_pos]
          rw [HRA.out, HRB.out]
          have := hq.out
          cases ra <;> cases rb <;> simp at this <;> exact ⟨rfl, rfl, this⟩⟩
        go_wp2_with fail
        refine (fail_any g _ _ _ HS.out.T).mono ?_
        rintro e w5 ⟨rfl, hT5, ho5⟩
        have HS5 := Box.mk (HS.out.next hgw HPG.out ho5 hT5)
        clear hT5 ho5
        obtain ⟨r0, r1, r2⟩ := HS5.out.R.c3
        have rf := HS5.out.R.frozen
        go_wp2_with fail
        exact bodyPost_ret (v := zeroU) (by simp [results, Tryz.results126, go_sem, r0, r1, r2, rf]) rfl (by rw [HBM.out]; exact HS5.out.fin hgw _ _ _ _)
end
end Go.Proofs.YtcifgobinleldaaGreatDoor
