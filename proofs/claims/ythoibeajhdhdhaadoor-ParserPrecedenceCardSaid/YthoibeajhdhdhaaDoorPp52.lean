/- Contracts, packed: Jt. -/
import Derived.Test.YthoibeajhdhdhaaDoorPp33
import Derived.Test.YthoibeajhdhdhaaDoorPp48
import Derived.Test.YthoibeajhdhdhaaDoorPp50
import Derived.Test.YthoibeajhdhdhaaDoorPp51
set_option linter.unusedVariables false
set_option linter.unusedSimpArgs false
namespace Go.Proofs.YthoibeajhdhdhaaDoor
section
open Go.RowKit FracM

set_option maxHeartbeats 8000000 in
set_option maxRecDepth 100000 in
theorem parserPrecedence_walk (a b : Int) (w : World) (hw : LibP w) (a1 : -9223372036854775808 ≤ a) (a2 : a ≤ 9223372036854775807) (b1 : -9223372036854775808 ≤ b) (b2 : b ≤ 9223372036854775807) :
    Calls Tryd.prog 4 #[.int .i64 a, .int .i64 b] w fun e w' => e = .returned (.bool true) ∧ Below w.heap.size w w' := by
  have HW := Box.mk hw
  clear hw
  go_enter Tryd.func4, Tryd.ntmps4
  go_upto_region 3 with (go_at_call 12; refine (around_any _ _ _ (by omega) (by omega) (by omega) (by omega)).mono ?_; rintro e w' ⟨rfl, rfl⟩)
  obtain ⟨n, hn, hn4⟩ : ∃ n : Nat, around a 4 = (n : Int) ∧ n < 4 := ⟨(around a 4).toNat, by have := around_bd a 4 (by omega); omega, by have := around_bd a 4 (by omega); omega⟩
  obtain ⟨m, hm, hm4⟩ : ∃ m : Nat, around b 4 = (m : Int) ∧ m < 4 := ⟨(around b 4).toNat, by have := around_bd b 4 (by omega); omega, by have := around_bd b 4 (by omega); omega⟩
  rw [hn, hm]
  clear hn hm
  go_upto_region 7 with (fail)
  have HP := Box.mk (PA.new w 9)
  show Code.wp _ _ _ _ (wPA w 9)
  generalize wPA w 9 = W at HP ⊢
  generalize hg3 : w.heap.size + 1 + 1 + 1 = g3 at HP ⊢
  generalize hg2 : w.heap.size + 1 + 1 = g2 at HP ⊢
  generalize hg1 : w.heap.size + 1 = g1 at HP ⊢
  generalize hg0 : w.heap.size = g0 at HP ⊢
  have HWz : Box (W.heap.size = g0 + 4) := ⟨HP.out.2.2⟩
  have HB0 : Box (Below w.heap.size w W) := ⟨by rw [hg0]; exact HP.out.2.1⟩
  have HPA : Box (PA 9 W g0 g1 g2 g3) := ⟨HP.out.1⟩
  clear HP
  obtain ⟨p0, p1, p2, p3, p4, p5, p6, p7, p8, p9, p10⟩ := px_cells HPA.out.a
  obtain ⟨q0, q1, q2, q3, q4, q5, q6, q7, q8, q9, q10⟩ := px_cells HPA.out.b
  obtain ⟨r0, r1, r2, r3, r4, r5, r6, r7, r8, r9, r10⟩ := px_cells (HPA.out.c.alloc (.cells #[Value.int .i64 1, Value.int .i64 0, Value.int .i64 0, Value.int .i64 0, Value.int .i64 0, Value.int .i64 0, Value.int .i64 0, Value.string ⟨#[97]⟩, Value.slice none 0 0, Value.slice none 0 0, Value.slice none 0 0, Value.int .i64 1, Value.int .i64 0, Value.int .i64 0, Value.int .i64 0, Value.int .i64 0, Value.int .i64 0, Value.int .i64 0, Value.string ⟨#[98]⟩, Value.slice none 0 0, Value.slice none 0 0, Value.slice none 0 0] 29))
  go_upto_region 8 with (fail)
  have HL := Box.mk (left_new W n m hn4 hm4)
  show Code.wp _ _ _ _ (wLeft W n m)
  have HPA1 := Box.mk (HPA.out.next HL.out.2.1)
  have HB1 : Box (Below w.heap.size w (wLeft W n m)) := ⟨bthen HB0.out HL.out.2.1 (Nat.le_refl _)⟩
  have HLT := Box.mk HL.out.1
  clear p0 p1 p2 p3 p4 p5 p6 p7 p8 p9 p10 q0 q1 q2 q3 q4 q5 q6 q7 q8 q9 q10 r0 r1 r2 r3 r4 r5 r6 r7 r8 r9 r10 HPA HB0 HL
  generalize wLeft W n m = W1 at HPA1 HB1 HLT ⊢
  generalize W.heap.size + 1 + 1 = gl at HLT ⊢
  generalize W.heap.size + 1 = kl at HLT ⊢
  obtain ⟨p0, p1, p2, p3, p4, p5, p6, p7, p8, p9, p10⟩ := px_cells HPA1.out.a
  obtain ⟨q0, q1, q2, q3, q4, q5, q6, q7, q8, q9, q10⟩ := px_cells HPA1.out.b
  obtain ⟨r0, r1, r2, r3, r4, r5, r6, r7, r8, r9, r10⟩ := px_cells HPA1.out.c
  go_upto_region 9 with (fail)
  have HR := Box.mk (right_new W1 n m hn4 hm4)
  show Code.wp _ _ _ _ (wRight W1 n m)
  have HPA2 := Box.mk (HPA1.out.next HR.out.2.1)
  have HB2 : Box (Below w.heap.size w (wRight W1 n m)) := ⟨bthen HB1.out HR.out.2.1 (Nat.le_refl _)⟩
  have HLT2 := Box.mk (HLT.out.next HR.out.2.1)
  have HRT := Box.mk HR.out.1
  have HLR : Box (gl < W1.heap.size) := ⟨HLT.out.box.lt⟩
  clear p0 p1 p2 p3 p4 p5 p6 p7 p8 p9 p10 q0 q1 q2 q3 q4 q5 q6 q7 q8 q9 q10 r0 r1 r2 r3 r4 r5 r6 r7 r8 r9 r10 HPA1 HB1 HR HLT
  generalize wRight W1 n m = W2 at HPA2 HB2 HLT2 HRT ⊢
  generalize hgr : W1.heap.size + 1 + 1 = gr at HRT ⊢
  generalize W1.heap.size + 1 = kr at HRT ⊢
  obtain ⟨p0, p1, p2, p3, p4, p5, p6, p7, p8, p9, p10⟩ := blk11z (d := pbN m) HLT2.out.box
  simp only [pbN] at p0 p1 p2 p3 p4 p5 p6 p7 p8 p9 p10
  go_upto_region 10 with (fail)
  have HS0 : Box (Ss 9 w W2 g0 [(gl, leftT n m, (nilV, nilV, k2 kl)), (gr, rightT n m, (nilV, nilV, k2 kr))]) := ⟨HB2.out, HPA2.out.l, fun x hx => by
    simp only [List.mem_cons, List.not_mem_nil, or_false] at hx
    rcases hx with rfl | rfl
    · exact HLT2.out
    · exact HRT.out⟩
  clear p0 p1 p2 p3 p4 p5 p6 p7 p8 p9 p10 HLR
  have HS1 : Box (Ss 9 w (W2.alloc (.cells (ndC (pbN m) nilV nilV (k2 kl)) 29)) g0 [(gl, leftT n m, (nilV, nilV, k2 kl)), (gr, rightT n m, (nilV, nilV, k2 kr)), (W2.heap.size, leftT n m, (nilV, nilV, k2 kl))]) := ⟨by
    have h := HS0.out.cons (HLT2.out.tr) (below_drewN W2 0)
    exact ⟨h.below, h.ops, fun x hx => h.tb x (by simp only [List.mem_cons, List.not_mem_nil, or_false] at hx ⊢; rcases hx with h | h | h <;> simp [h])⟩⟩
  have HZ : Box (g0 < W2.heap.size ∧ gl < W2.heap.size ∧ gr < W2.heap.size ∧ w.heap.size ≤ W2.heap.size) := ⟨HPA2.out.l.lt, HLT2.out.box.lt, HRT.out.box.lt, HB2.out.size⟩
  have HLo : Box (TreeAt (W2.alloc (.cells (ndC (pbN m) nilV nilV (k2 kl)) 29)) (fun b _ => b < W2.heap.size) (leftT n m) (nilV, nilV, k2 kl)) := ⟨HLT2.out.tr.low.belo (bel1 _ _)⟩
  have HRo : Box (TreeAt (W2.alloc (.cells (ndC (pbN m) nilV nilV (k2 kl)) 29)) (fun b _ => b < W2.heap.size) (rightT n m) (nilV, nilV, k2 kr)) := ⟨HRT.out.tr.low.belo (bel1 _ _)⟩
  show Code.wp _ _ _ _ (W2.alloc (.cells (ndC (pbN m) nilV nilV (k2 kl)) 29))
  generalize W2.alloc (.cells (ndC (pbN m) nilV nilV (k2 kl)) 29) = W3 at HS1 HLo HRo ⊢
  generalize W2.heap.size = gw at HS1 HZ HLo HRo ⊢
  clear HPA2 HB2 HLT2 HRT HS0
  go_cut [55] (fun v wx => v = .bool (decide (n < 2 ∧ 2 ≤ m)) ∧ wx = W3)
  case first =>
    rcases Nat.lt_or_ge n 2 with h1 | h1 <;> rcases Nat.lt_or_ge m 2 with h2 | h2
    all_goals
      go_wp2_with fail
      go_meet
      exact ⟨by first | (rw [decide_eq_true (show n < 2 ∧ 2 ≤ m from ⟨by omega, by omega⟩)]; first | done | rw [decide_eq_true (show (2 : Int) ≤ (m : Int) by omega)]) | (rw [decide_eq_false (show ¬(n < 2 ∧ 2 ≤ m) by omega)]; first | done | rw [decide_eq_false (show ¬((2 : Int) ≤ (m : Int)) by omega)]), rfl⟩
  case rest =>
    obtain ⟨rfl, rfl⟩ := hcut
    go_upto_if 55 with (fail)
    go_cut [] (fun wx => ∃ kw, Box (Ss 9 w wx g0 [(gl, leftT n m, (nilV, nilV, k2 kl)), (gr, rightT n m, (nilV, nilV, k2 kr)), (gw, wantT n m, (nilV, nilV, k2 kw))]))
    case first =>
      by_cases hc : n < 2 ∧ 2 ≤ m
      · rw [decide_eq_true hc]
        have hfz := (HS1.out.tb _ (List.mem_cons_of_mem _ (List.mem_cons_of_mem _ (List.mem_cons_self ..)))).box.frozen
        obtain ⟨p0, p1, p2, p3, p4, p5, p6, p7, p8, p9, p10⟩ := blk11z (d := pbN n) (HS1.out.tb _ (List.mem_cons_of_mem _ (List.mem_cons_self ..))).box
        simp only [pbN] at p0 p1 p2 p3 p4 p5 p6 p7 p8 p9 p10
        obtain ⟨q0, q1, q2, q3, q4, q5, q6, q7, q8, q9, q10⟩ := blk11z (d := pbN m) (HS1.out.tb _ (List.mem_cons_of_mem _ (List.mem_cons_of_mem _ (List.mem_cons_self ..)))).box
        simp only [pbN] at q0 q1 q2 q3 q4 q5 q6 q7 q8 q9 q10
        go_wp2_with fail
        go_meet
        exact ⟨kr, ⟨want_alt HS1.out HLo.out HRo.out HZ.out.1 HZ.out.2.1 HZ.out.2.2.1 HZ.out.2.2.2 hc⟩⟩
      · rw [decide_eq_false hc]
        go_wp2_with fail
        go_meet
        exact ⟨kl, ⟨by rw [show wantT n m = leftT n m from if_neg hc]; exact HS1.out⟩⟩
    case rest =>
      obtain ⟨kw, HS⟩ := hcut
      clear HS1 HLo HRo HZ HWz
      have i1 : (0 : Int) ≤ (n : Int) := by omega
      have i2 : (n : Int) < 4 := by omega
      have i3 : (0 : Int) ≤ (m : Int) := by omega
      have i4 : (m : Int) < 4 := by omega
      have c1 := ops_cell HS.out.ops hn4
      have c2 := ops_cell HS.out.ops hm4
      obtain ⟨x1, x2, x3, x4, e1, e2, e3, e4, CP⟩ := prec_x ⟨#[97]⟩ ⟨#[98]⟩ ⟨#[99]⟩ (wantT n m) (prec_at hn4 hm4).1 (by decide) (by decide) (by decide)
      go_upto_region 12 with (fail)
      go_cut [14, 15, 16] (fun x y z wx => y = .int .i64 0 ∧ z = .int .i64 0 ∧ ∃ g s, x = .pointer (some ⟨g, 0, none⟩) ∧ Box (Ss 9 w wx g0 ((g, wantT n m, s) :: [(gl, leftT n m, (nilV, nilV, k2 kl)), (gr, rightT n m, (nilV, nilV, k2 kr)), (gw, wantT n m, (nilV, nilV, k2 kw))])))
      case first =>
        go_region_held3 (fun w' => w'.cell? ⟨g0, n, none⟩ = some (.string (opB n)) ∧ w'.cell? ⟨g0, m, none⟩ = some (.string (opB m)))
          (first | with_reducible exact ⟨c1, c2⟩ | with_reducible exact ⟨c3, c4⟩ | with_reducible exact ⟨c5, c6⟩ | go_keep)
          (first
            | (go_at_call 8; (with_reducible refine (CP.out _ ?_).mono ?_); (exact (HW.out.below HS.out.drew.below).v); rintro e w5 ⟨mv, bv, kv, rfl, hT, hb⟩; obtain ⟨T, hTe⟩ : ∃ T, wantT n m = T := ⟨_, rfl⟩; rw [hTe] at hT ⊢; obtain ⟨d, ks⟩ := T; obtain ⟨A1, n1, rfl, l1⟩ := hT.nod.ms.form; obtain ⟨A2, n2, rfl, l2⟩ := hT.nod.bys.form; obtain ⟨A3, n3, rfl, l3⟩ := hT.nod.kform; simp only [Tree.d]; have HX := Box.mk (HS.out.drew.cons' hTe hT hb); have hfz := (Blk.new w5 #[Value.int .i64 0, Value.int .i64 0, Value.int .i64 0, Value.int .i64 0, Value.int .i64 0, Value.int .i64 0, Value.int .i64 0, Value.string ⟨#[]⟩, Value.slice none 0 0, Value.slice none 0 0, Value.slice none 0 0] 29).frozen; obtain ⟨z0, z1, z2, z3, z4, z5, z6, z7, z8, z9, z10⟩ := zx_cells (Blk.new w5 #[Value.int .i64 0, Value.int .i64 0, Value.int .i64 0, Value.int .i64 0, Value.int .i64 0, Value.int .i64 0, Value.int .i64 0, Value.string ⟨#[]⟩, Value.slice none 0 0, Value.slice none 0 0, Value.slice none 0 0] 29); have HX2 := Box.mk ((HS.out.drew.next hb).put (bel1 w5 (.cells #[Value.int .i64 0, Value.int .i64 0, Value.int .i64 0, Value.int .i64 0, Value.int .i64 0, Value.int .i64 0, Value.int .i64 0, Value.string ⟨#[]⟩, Value.slice none 0 0, Value.slice none 0 0, Value.slice none 0 0] 29)) (Blk.new w5 #[Value.int .i64 0, Value.int .i64 0, Value.int .i64 0, Value.int .i64 0, Value.int .i64 0, Value.int .i64 0, Value.int .i64 0, Value.string ⟨#[]⟩, Value.slice none 0 0, Value.slice none 0 0, Value.slice none 0 0] 29) hTe (hT.low.belo (bel1 w5 (.cells #[Value.int .i64 0, Value.int .i64 0, Value.int .i64 0, Value.int .i64 0, Value.int .i64 0, Value.int .i64 0, Value.int .i64 0, Value.string ⟨#[]⟩, Value.slice none 0 0, Value.slice none 0 0, Value.slice none 0 0] 29))) (fun b _ hx => by omega)); have c5 := ops_cell HX2.out.ops hn4; have c6 := ops_cell HX2.out.ops hm4; have c3 : w5.cell? ⟨g0, n, none⟩ = some (.string (opB n)) := ops_cell (HS.out.drew.ops.below hb) hn4; have c4 : w5.cell? ⟨g0, m, none⟩ = some (.string (opB m)) := ops_cell (HS.out.drew.ops.below hb) hm4; clear hT hb)
            | (go_at_call 8; (with_reducible refine (CP.out _ ?_).mono ?_); (exact ((HW.out.below HS.out.below).below (bel1 wc (.cells #[Value.int .i64 0, Value.int .i64 0, Value.int .i64 0, Value.int .i64 0, Value.int .i64 0, Value.int .i64 0, Value.int .i64 0, Value.string ⟨#[]⟩, Value.slice none 0 0, Value.slice none 0 0, Value.slice none 0 0] 29)).drew).v); rintro e w5 ⟨mv, bv, kv, rfl, hT, hb⟩; have hTb := hT.mono' (Q := fun b _ => wc.heap.size < b) (fun b e _ hx => by have hzz : (wc.alloc (.cells #[Value.int .i64 0, Value.int .i64 0, Value.int .i64 0, Value.int .i64 0, Value.int .i64 0, Value.int .i64 0, Value.int .i64 0, Value.string ⟨#[]⟩, Value.slice none 0 0, Value.slice none 0 0, Value.slice none 0 0] 29)).drew.heap.size = wc.heap.size + 1 := (by show (wc.alloc (.cells #[Value.int .i64 0, Value.int .i64 0, Value.int .i64 0, Value.int .i64 0, Value.int .i64 0, Value.int .i64 0, Value.int .i64 0, Value.string ⟨#[]⟩, Value.slice none 0 0, Value.slice none 0 0, Value.slice none 0 0] 29)).heap.size = _; simp); omega); obtain ⟨T, hTe⟩ : ∃ T, wantT n m = T := ⟨_, rfl⟩; rw [hTe] at hT hTb ⊢; obtain ⟨d, ks⟩ := T; obtain ⟨A1, n1, rfl, l1⟩ := hT.nod.ms.form; obtain ⟨A2, n2, rfl, l2⟩ := hT.nod.bys.form; obtain ⟨A3, n3, rfl, l3⟩ := hT.nod.kform; simp only [Tree.d]; have hbb : Below wc.heap.size wc w5 := (bel1 wc (.cells #[Value.int .i64 0, Value.int .i64 0, Value.int .i64 0, Value.int .i64 0, Value.int .i64 0, Value.int .i64 0, Value.int .i64 0, Value.string ⟨#[]⟩, Value.slice none 0 0, Value.slice none 0 0, Value.slice none 0 0] 29)).drew.trans (hb.mono (by show _ ≤ (wc.alloc (.cells #[Value.int .i64 0, Value.int .i64 0, Value.int .i64 0, Value.int .i64 0, Value.int .i64 0, Value.int .i64 0, Value.int .i64 0, Value.string ⟨#[]⟩, Value.slice none 0 0, Value.slice none 0 0, Value.slice none 0 0] 29)).heap.size; simp)); have hzb : Blk w5 wc.heap.size 29 #[Value.int .i64 0, Value.int .i64 0, Value.int .i64 0, Value.int .i64 0, Value.int .i64 0, Value.int .i64 0, Value.int .i64 0, Value.string ⟨#[]⟩, Value.slice none 0 0, Value.slice none 0 0, Value.slice none 0 0] := Blk.below (w := (wc.alloc (.cells #[Value.int .i64 0, Value.int .i64 0, Value.int .i64 0, Value.int .i64 0, Value.int .i64 0, Value.int .i64 0, Value.int .i64 0, Value.string ⟨#[]⟩, Value.slice none 0 0, Value.slice none 0 0, Value.slice none 0 0] 29)).drew) (Blk.new wc #[Value.int .i64 0, Value.int .i64 0, Value.int .i64 0, Value.int .i64 0, Value.int .i64 0, Value.int .i64 0, Value.int .i64 0, Value.string ⟨#[]⟩, Value.slice none 0 0, Value.slice none 0 0, Value.slice none 0 0] 29) hb; have hfz := hzb.frozen; obtain ⟨z0, z1, z2, z3, z4, z5, z6, z7, z8, z9, z10⟩ := zx_cells hzb; have HX := Box.mk (HS.out.put hbb hzb hTe hTb (fun b _ hx => by omega)); have c3 : w5.cell? ⟨g0, n, none⟩ = some (.string (opB n)) := ops_cell (HS.out.ops.below hbb) hn4; have c4 : w5.cell? ⟨g0, m, none⟩ = some (.string (opB m)) := ops_cell (HS.out.ops.below hbb) hm4; have c5 := ops_cell HX.out.ops hn4; have c6 := ops_cell HX.out.ops hm4; clear hT hb hTb hbb hzb))
        all_goals
          go_wp2_with fail
          go_meet
          first | exact ⟨rfl, rfl, _, _, rfl, HX⟩ | exact ⟨rfl, rfl, _, _, rfl, HX2⟩
      case rest =>
        obtain ⟨rfl, rfl, gx, sgx, rfl, HS2⟩ := hcut
        clear HS c1 c2 e1 e2 e3 e4 CP
        have HS := Box.mk HS2.out
        clear HS2
        have c1 := ops_cell HS.out.ops hn4
        have c2 := ops_cell HS.out.ops hm4
        obtain ⟨x1, x2, x3, x4, e1, e2, e3, e4, CP⟩ := prec_x ⟨#[40, 97]⟩ ⟨#[98, 41]⟩ ⟨#[99]⟩ (leftT n m) (prec_at hn4 hm4).2.1 (by decide) (by decide) (by decide)
        go_upto_region 13 with (fail)
        go_cut [17, 18, 19] (fun x y z wx => y = .int .i64 0 ∧ z = .int .i64 0 ∧ ∃ g s, x = .pointer (some ⟨g, 0, none⟩) ∧ Box (Ss 9 w wx g0 ((g, leftT n m, s) :: ((gx, wantT n m, sgx) :: [(gl, leftT n m, (nilV, nilV, k2 kl)), (gr, rightT n m, (nilV, nilV, k2 kr)), (gw, wantT n m, (nilV, nilV, k2 kw))]))))
        case first =>
          go_region_held3 (fun w' => w'.cell? ⟨g0, n, none⟩ = some (.string (opB n)) ∧ w'.cell? ⟨g0, m, none⟩ = some (.string (opB m)))
            (first | with_reducible exact ⟨c1, c2⟩ | with_reducible exact ⟨c3, c4⟩ | with_reducible exact ⟨c5, c6⟩ | go_keep)
            (first
              | (go_at_call 8; (with_reducible refine (CP.out _ ?_).mono ?_); (exact (HW.out.below HS.out.drew.below).v); rintro e w5 ⟨mv, bv, kv, rfl, hT, hb⟩; obtain ⟨T, hTe⟩ : ∃ T, leftT n m = T := ⟨_, rfl⟩; rw [hTe] at hT ⊢; obtain ⟨d, ks⟩ := T; obtain ⟨A1, n1, rfl, l1⟩ := hT.nod.ms.form; obtain ⟨A2, n2, rfl, l2⟩ := hT.nod.bys.form; obtain ⟨A3, n3, rfl, l3⟩ := hT.nod.kform; simp only [Tree.d]; have HX := Box.mk (HS.out.drew.cons' hTe hT hb); have hfz := (Blk.new w5 #[Value.int .i64 0, Value.int .i64 0, Value.int .i64 0, Value.int .i64 0, Value.int .i64 0, Value.int .i64 0, Value.int .i64 0, Value.string ⟨#[]⟩, Value.slice none 0 0, Value.slice none 0 0, Value.slice none 0 0] 29).frozen; obtain ⟨z0, z1, z2, z3, z4, z5, z6, z7, z8, z9, z10⟩ := zx_cells (Blk.new w5 #[Value.int .i64 0, Value.int .i64 0, Value.int .i64 0, Value.int .i64 0, Value.int .i64 0, Value.int .i64 0, Value.int .i64 0, Value.string ⟨#[]⟩, Value.slice none 0 0, Value.slice none 0 0, Value.slice none 0 0] 29); have HX2 := Box.mk ((HS.out.drew.next hb).put (bel1 w5 (.cells #[Value.int .i64 0, Value.int .i64 0, Value.int .i64 0, Value.int .i64 0, Value.int .i64 0, Value.int .i64 0, Value.int .i64 0, Value.string ⟨#[]⟩, Value.slice none 0 0, Value.slice none 0 0, Value.slice none 0 0] 29)) (Blk.new w5 #[Value.int .i64 0, Value.int .i64 0, Value.int .i64 0, Value.int .i64 0, Value.int .i64 0, Value.int .i64 0, Value.int .i64 0, Value.string ⟨#[]⟩, Value.slice none 0 0, Value.slice none 0 0, Value.slice none 0 0] 29) hTe (hT.low.belo (bel1 w5 (.cells #[Value.int .i64 0, Value.int .i64 0, Value.int .i64 0, Value.int .i64 0, Value.int .i64 0, Value.int .i64 0, Value.int .i64 0, Value.string ⟨#[]⟩, Value.slice none 0 0, Value.slice none 0 0, Value.slice none 0 0] 29))) (fun b _ hx => by omega)); have c5 := ops_cell HX2.out.ops hn4; have c6 := ops_cell HX2.out.ops hm4; have c3 : w5.cell? ⟨g0, n, none⟩ = some (.string (opB n)) := ops_cell (HS.out.drew.ops.below hb) hn4; have c4 : w5.cell? ⟨g0, m, none⟩ = some (.string (opB m)) := ops_cell (HS.out.drew.ops.below hb) hm4; clear hT hb)
              | (go_at_call 8; (with_reducible refine (CP.out _ ?_).mono ?_); (exact ((HW.out.below HS.out.below).below (bel1 wc (.cells #[Value.int .i64 0, Value.int .i64 0, Value.int .i64 0, Value.int .i64 0, Value.int .i64 0, Value.int .i64 0, Value.int .i64 0, Value.string ⟨#[]⟩, Value.slice none 0 0, Value.slice none 0 0, Value.slice none 0 0] 29)).drew).v); rintro e w5 ⟨mv, bv, kv, rfl, hT, hb⟩; have hTb := hT.mono' (Q := fun b _ => wc.heap.size < b) (fun b e _ hx => by have hzz : (wc.alloc (.cells #[Value.int .i64 0, Value.int .i64 0, Value.int .i64 0, Value.int .i64 0, Value.int .i64 0, Value.int .i64 0, Value.int .i64 0, Value.string ⟨#[]⟩, Value.slice none 0 0, Value.slice none 0 0, Value.slice none 0 0] 29)).drew.heap.size = wc.heap.size + 1 := (by show (wc.alloc (.cells #[Value.int .i64 0, Value.int .i64 0, Value.int .i64 0, Value.int .i64 0, Value.int .i64 0, Value.int .i64 0, Value.int .i64 0, Value.string ⟨#[]⟩, Value.slice none 0 0, Value.slice none 0 0, Value.slice none 0 0] 29)).heap.size = _; simp); omega); obtain ⟨T, hTe⟩ : ∃ T, leftT n m = T := ⟨_, rfl⟩; rw [hTe] at hT hTb ⊢; obtain ⟨d, ks⟩ := T; obtain ⟨A1, n1, rfl, l1⟩ := hT.nod.ms.form; obtain ⟨A2, n2, rfl, l2⟩ := hT.nod.bys.form; obtain ⟨A3, n3, rfl, l3⟩ := hT.nod.kform; simp only [Tree.d]; have hbb : Below wc.heap.size wc w5 := (bel1 wc (.cells #[Value.int .i64 0, Value.int .i64 0, Value.int .i64 0, Value.int .i64 0, Value.int .i64 0, Value.int .i64 0, Value.int .i64 0, Value.string ⟨#[]⟩, Value.slice none 0 0, Value.slice none 0 0, Value.slice none 0 0] 29)).drew.trans (hb.mono (by show _ ≤ (wc.alloc (.cells #[Value.int .i64 0, Value.int .i64 0, Value.int .i64 0, Value.int .i64 0, Value.int .i64 0, Value.int .i64 0, Value.int .i64 0, Value.string ⟨#[]⟩, Value.slice none 0 0, Value.slice none 0 0, Value.slice none 0 0] 29)).heap.size; simp)); have hzb : Blk w5 wc.heap.size 29 #[Value.int .i64 0, Value.int .i64 0, Value.int .i64 0, Value.int .i64 0, Value.int .i64 0, Value.int .i64 0, Value.int .i64 0, Value.string ⟨#[]⟩, Value.slice none 0 0, Value.slice none 0 0, Value.slice none 0 0] := Blk.below (w := (wc.alloc (.cells #[Value.int .i64 0, Value.int .i64 0, Value.int .i64 0, Value.int .i64 0, Value.int .i64 0, Value.int .i64 0, Value.int .i64 0, Value.string ⟨#[]⟩, Value.slice none 0 0, Value.slice none 0 0, Value.slice none 0 0] 29)).drew) (Blk.new wc #[Value.int .i64 0, Value.int .i64 0, Value.int .i64 0, Value.int .i64 0, Value.int .i64 0, Value.int .i64 0, Value.int .i64 0, Value.string ⟨#[]⟩, Value.slice none 0 0, Value.slice none 0 0, Value.slice none 0 0] 29) hb; have hfz := hzb.frozen; obtain ⟨z0, z1, z2, z3, z4, z5, z6, z7, z8, z9, z10⟩ := zx_cells hzb; have HX := Box.mk (HS.out.put hbb hzb hTe hTb (fun b _ hx => by omega)); have c3 : w5.cell? ⟨g0, n, none⟩ = some (.string (opB n)) := ops_cell (HS.out.ops.below hbb) hn4; have c4 : w5.cell? ⟨g0, m, none⟩ = some (.string (opB m)) := ops_cell (HS.out.ops.below hbb) hm4; have c5 := ops_cell HX.out.ops hn4; have c6 := ops_cell HX.out.ops hm4; clear hT hb hTb hbb hzb))
          all_goals
            go_wp2_with fail
            go_meet
            first | exact ⟨rfl, rfl, _, _, rfl, HX⟩ | exact ⟨rfl, rfl, _, _, rfl, HX2⟩
        case rest =>
          obtain ⟨rfl, rfl, gy, sgy, rfl, HS2⟩ := hcut
          clear HS c1 c2 e1 e2 e3 e4 CP
          have HS := Box.mk HS2.out
          clear HS2
          have c1 := ops_cell HS.out.ops hn4
          have c2 := ops_cell HS.out.ops hm4
          obtain ⟨x1, x2, x3, x4, e1, e2, e3, e4, CP⟩ := prec_x ⟨#[97]⟩ ⟨#[40, 98]⟩ ⟨#[99, 41]⟩ (rightT n m) (prec_at hn4 hm4).2.2.1 (by decide) (by decide) (by decide)
          go_upto_region 14 with (fail)
          go_cut [20, 21, 22] (fun x y z wx => y = .int .i64 0 ∧ z = .int .i64 0 ∧ ∃ g s, x = .pointer (some ⟨g, 0, none⟩) ∧ Box (Ss 9 w wx g0 ((g, rightT n m, s) :: ((gy, leftT n m, sgy) :: ((gx, wantT n m, sgx) :: [(gl, leftT n m, (nilV, nilV, k2 kl)), (gr, rightT n m, (nilV, nilV, k2 kr)), (gw, wantT n m, (nilV, nilV, k2 kw))])))))
          case first =>
            go_region_held3 (fun w' => w'.cell? ⟨g0, n, none⟩ = some (.string (opB n)) ∧ w'.cell? ⟨g0, m, none⟩ = some (.string (opB m)))
              (first | with_reducible exact ⟨c1, c2⟩ | with_reducible exact ⟨c3, c4⟩ | with_reducible exact ⟨c5, c6⟩ | go_keep)
              (first
                | (go_at_call 8; (with_reducible refine (CP.out _ ?_).mono ?_); (exact (HW.out.below HS.out.drew.below).v); rintro e w5 ⟨mv, bv, kv, rfl, hT, hb⟩; obtain ⟨T, hTe⟩ : ∃ T, rightT n m = T := ⟨_, rfl⟩; rw [hTe] at hT ⊢; obtain ⟨d, ks⟩ := T; obtain ⟨A1, n1, rfl, l1⟩ := hT.nod.ms.form; obtain ⟨A2, n2, rfl, l2⟩ := hT.nod.bys.form; obtain ⟨A3, n3, rfl, l3⟩ := hT.nod.kform; simp only [Tree.d]; have HX := Box.mk (HS.out.drew.cons' hTe hT hb); have hfz := (Blk.new w5 #[Value.int .i64 0, Value.int .i64 0, Value.int .i64 0, Value.int .i64 0, Value.int .i64 0, Value.int .i64 0, Value.int .i64 0, Value.string ⟨#[]⟩, Value.slice none 0 0, Value.slice none 0 0, Value.slice none 0 0] 29).frozen; obtain ⟨z0, z1, z2, z3, z4, z5, z6, z7, z8, z9, z10⟩ := zx_cells (Blk.new w5 #[Value.int .i64 0, Value.int .i64 0, Value.int .i64 0, Value.int .i64 0, Value.int .i64 0, Value.int .i64 0, Value.int .i64 0, Value.string ⟨#[]⟩, Value.slice none 0 0, Value.slice none 0 0, Value.slice none 0 0] 29); have HX2 := Box.mk ((HS.out.drew.next hb).put (bel1 w5 (.cells #[Value.int .i64 0, Value.int .i64 0, Value.int .i64 0, Value.int .i64 0, Value.int .i64 0, Value.int .i64 0, Value.int .i64 0, Value.string ⟨#[]⟩, Value.slice none 0 0, Value.slice none 0 0, Value.slice none 0 0] 29)) (Blk.new w5 #[Value.int .i64 0, Value.int .i64 0, Value.int .i64 0, Value.int .i64 0, Value.int .i64 0, Value.int .i64 0, Value.int .i64 0, Value.string ⟨#[]⟩, Value.slice none 0 0, Value.slice none 0 0, Value.slice none 0 0] 29) hTe (hT.low.belo (bel1 w5 (.cells #[Value.int .i64 0, Value.int .i64 0, Value.int .i64 0, Value.int .i64 0, Value.int .i64 0, Value.int .i64 0, Value.int .i64 0, Value.string ⟨#[]⟩, Value.slice none 0 0, Value.slice none 0 0, Value.slice none 0 0] 29))) (fun b _ hx => by omega)); have c5 := ops_cell HX2.out.ops hn4; have c6 := ops_cell HX2.out.ops hm4; have c3 : w5.cell? ⟨g0, n, none⟩ = some (.string (opB n)) := ops_cell (HS.out.drew.ops.below hb) hn4; have c4 : w5.cell? ⟨g0, m, none⟩ = some (.string (opB m)) := ops_cell (HS.out.drew.ops.below hb) hm4; clear hT hb)
                | (go_at_call 8; (with_reducible refine (CP.out _ ?_).mono ?_); (exact ((HW.out.below HS.out.below).below (bel1 wc (.cells #[Value.int .i64 0, Value.int .i64 0, Value.int .i64 0, Value.int .i64 0, Value.int .i64 0, Value.int .i64 0, Value.int .i64 0, Value.string ⟨#[]⟩, Value.slice none 0 0, Value.slice none 0 0, Value.slice none 0 0] 29)).drew).v); rintro e w5 ⟨mv, bv, kv, rfl, hT, hb⟩; have hTb := hT.mono' (Q := fun b _ => wc.heap.size < b) (fun b e _ hx => by have hzz : (wc.alloc (.cells #[Value.int .i64 0, Value.int .i64 0, Value.int .i64 0, Value.int .i64 0, Value.int .i64 0, Value.int .i64 0, Value.int .i64 0, Value.string ⟨#[]⟩, Value.slice none 0 0, Value.slice none 0 0, Value.slice none 0 0] 29)).drew.heap.size = wc.heap.size + 1 := (by show (wc.alloc (.cells #[Value.int .i64 0, Value.int .i64 0, Value.int .i64 0, Value.int .i64 0, Value.int .i64 0, Value.int .i64 0, Value.int .i64 0, Value.string ⟨#[]⟩, Value.slice none 0 0, Value.slice none 0 0, Value.slice none 0 0] 29)).heap.size = _; simp); omega); obtain ⟨T, hTe⟩ : ∃ T, rightT n m = T := ⟨_, rfl⟩; rw [hTe] at hT hTb ⊢; obtain ⟨d, ks⟩ := T; obtain ⟨A1, n1, rfl, l1⟩ := hT.nod.ms.form; obtain ⟨A2, n2, rfl, l2⟩ := hT.nod.bys.form; obtain ⟨A3, n3, rfl, l3⟩ := hT.nod.kform; simp only [Tree.d]; have hbb : Below wc.heap.size wc w5 := (bel1 wc (.cells #[Value.int .i64 0, Value.int .i64 0, Value.int .i64 0, Value.int .i64 0, Value.int .i64 0, Value.int .i64 0, Value.int .i64 0, Value.string ⟨#[]⟩, Value.slice none 0 0, Value.slice none 0 0, Value.slice none 0 0] 29)).drew.trans (hb.mono (by show _ ≤ (wc.alloc (.cells #[Value.int .i64 0, Value.int .i64 0, Value.int .i64 0, Value.int .i64 0, Value.int .i64 0, Value.int .i64 0, Value.int .i64 0, Value.string ⟨#[]⟩, Value.slice none 0 0, Value.slice none 0 0, Value.slice none 0 0] 29)).heap.size; simp)); have hzb : Blk w5 wc.heap.size 29 #[Value.int .i64 0, Value.int .i64 0, Value.int .i64 0, Value.int .i64 0, Value.int .i64 0, Value.int .i64 0, Value.int .i64 0, Value.string ⟨#[]⟩, Value.slice none 0 0, Value.slice none 0 0, Value.slice none 0 0] := Blk.below (w := (wc.alloc (.cells #[Value.int .i64 0, Value.int .i64 0, Value.int .i64 0, Value.int .i64 0, Value.int .i64 0, Value.int .i64 0, Value.int .i64 0, Value.string ⟨#[]⟩, Value.slice none 0 0, Value.slice none 0 0, Value.slice none 0 0] 29)).drew) (Blk.new wc #[Value.int .i64 0, Value.int .i64 0, Value.int .i64 0, Value.int .i64 0, Value.int .i64 0, Value.int .i64 0, Value.int .i64 0, Value.string ⟨#[]⟩, Value.slice none 0 0, Value.slice none 0 0, Value.slice none 0 0] 29) hb; have hfz := hzb.frozen; obtain ⟨z0, z1, z2, z3, z4, z5, z6, z7, z8, z9, z10⟩ := zx_cells hzb; have HX := Box.mk (HS.out.put hbb hzb hTe hTb (fun b _ hx => by omega)); have c3 : w5.cell? ⟨g0, n, none⟩ = some (.string (opB n)) := ops_cell (HS.out.ops.below hbb) hn4; have c4 : w5.cell? ⟨g0, m, none⟩ = some (.string (opB m)) := ops_cell (HS.out.ops.below hbb) hm4; have c5 := ops_cell HX.out.ops hn4; have c6 := ops_cell HX.out.ops hm4; clear hT hb hTb hbb hzb))
            all_goals
              go_wp2_with fail
              go_meet
              first | exact ⟨rfl, rfl, _, _, rfl, HX⟩ | exact ⟨rfl, rfl, _, _, rfl, HX2⟩
          case rest =>
            obtain ⟨rfl, rfl, gz, sgz, rfl, HS2⟩ := hcut
            clear HS c1 c2 e1 e2 e3 e4 CP
            have HS := Box.mk HS2.out
            clear HS2
            have HE : Box (eqT (wantT n m) (wantT n m) = true ∧ eqT (leftT n m) (leftT n m) = true ∧ eqT (rightT n m) (rightT n m) = true ∧ eqT (leftT n m) (rightT n m) = false) := ⟨eqT_refl _, eqT_refl _, eqT_refl _, (prec_at hn4 hm4).2.2.2⟩
            generalize (nilV, nilV, k2 kl) = sgl at HS
            generalize (nilV, nilV, k2 kr) = sgr at HS
            generalize (nilV, nilV, k2 kw) = sgw at HS
            generalize wantT n m = TW at HS HE
            generalize leftT n m = TL at HS HE
            generalize rightT n m = TR at HS HE
            obtain ⟨dW, kW⟩ := TW
            obtain ⟨dL, kL⟩ := TL
            obtain ⟨dR, kR⟩ := TR
            obtain ⟨q1, q2, q3⟩ := sgz
            obtain ⟨A1, An1, rfl, -⟩ := HS.out.six.1.tr.nod.ms.form
            obtain ⟨A2, An2, rfl, -⟩ := HS.out.six.1.tr.nod.bys.form
            obtain ⟨A3, An3, rfl, -⟩ := HS.out.six.1.tr.nod.kform
            obtain ⟨q1, q2, q3⟩ := sgy
            obtain ⟨B1, Bn1, rfl, -⟩ := HS.out.six.2.1.tr.nod.ms.form
            obtain ⟨B2, Bn2, rfl, -⟩ := HS.out.six.2.1.tr.nod.bys.form
            obtain ⟨B3, Bn3, rfl, -⟩ := HS.out.six.2.1.tr.nod.kform
            obtain ⟨q1, q2, q3⟩ := sgx
            obtain ⟨C1, Cn1, rfl, -⟩ := HS.out.six.2.2.1.tr.nod.ms.form
            obtain ⟨C2, Cn2, rfl, -⟩ := HS.out.six.2.2.1.tr.nod.bys.form
            obtain ⟨C3, Cn3, rfl, -⟩ := HS.out.six.2.2.1.tr.nod.kform
            obtain ⟨q1, q2, q3⟩ := sgl
            obtain ⟨D1, Dn1, rfl, -⟩ := HS.out.six.2.2.2.1.tr.nod.ms.form
            obtain ⟨D2, Dn2, rfl, -⟩ := HS.out.six.2.2.2.1.tr.nod.bys.form
            obtain ⟨D3, Dn3, rfl, -⟩ := HS.out.six.2.2.2.1.tr.nod.kform
            obtain ⟨q1, q2, q3⟩ := sgr
            obtain ⟨E1, En1, rfl, -⟩ := HS.out.six.2.2.2.2.1.tr.nod.ms.form
            obtain ⟨E2, En2, rfl, -⟩ := HS.out.six.2.2.2.2.1.tr.nod.bys.form
            obtain ⟨E3, En3, rfl, -⟩ := HS.out.six.2.2.2.2.1.tr.nod.kform
            obtain ⟨q1, q2, q3⟩ := sgw
            obtain ⟨F1, Fn1, rfl, -⟩ := HS.out.six.2.2.2.2.2.tr.nod.ms.form
            obtain ⟨F2, Fn2, rfl, -⟩ := HS.out.six.2.2.2.2.2.tr.nod.bys.form
            obtain ⟨F3, Fn3, rfl, -⟩ := HS.out.six.2.2.2.2.2.tr.nod.kform
            have CE1 : Box (∀ W', TreeAt W' AnyP (.node dW kW) (.slice C1 dW.ms.length Cn1, .slice C2 dW.bys.length Cn2, .slice C3 kW.length Cn3) → TreeAt W' AnyP (.node dW kW) (.slice F1 dW.ms.length Fn1, .slice F2 dW.bys.length Fn2, .slice F3 kW.length Fn3) → Calls Tryd.prog 9 #[.agg (ndC dW (.slice C1 dW.ms.length Cn1) (.slice C2 dW.bys.length Cn2) (.slice C3 kW.length Cn3)), .agg (ndC dW (.slice F1 dW.ms.length Fn1) (.slice F2 dW.bys.length Fn2) (.slice F3 kW.length Fn3))] W' (RetB (.bool true) W')) := ⟨fun W' h1 h2 => by have h := pequal_any (.node dW kW) (.node dW kW) AnyP AnyP W' _ _ h1 h2; rw [HE.out.1] at h; exact h⟩
            have CE2 : Box (∀ W', TreeAt W' AnyP (.node dL kL) (.slice B1 dL.ms.length Bn1, .slice B2 dL.bys.length Bn2, .slice B3 kL.length Bn3) → TreeAt W' AnyP (.node dL kL) (.slice D1 dL.ms.length Dn1, .slice D2 dL.bys.length Dn2, .slice D3 kL.length Dn3) → Calls Tryd.prog 9 #[.agg (ndC dL (.slice B1 dL.ms.length Bn1) (.slice B2 dL.bys.length Bn2) (.slice B3 kL.length Bn3)), .agg (ndC dL (.slice D1 dL.ms.length Dn1) (.slice D2 dL.bys.length Dn2) (.slice D3 kL.length Dn3))] W' (RetB (.bool true) W')) := ⟨fun W' h1 h2 => by have h := pequal_any (.node dL kL) (.node dL kL) AnyP AnyP W' _ _ h1 h2; rw [HE.out.2.1] at h; exact h⟩
            have CE3 : Box (∀ W', TreeAt W' AnyP (.node dR kR) (.slice A1 dR.ms.length An1, .slice A2 dR.bys.length An2, .slice A3 kR.length An3) → TreeAt W' AnyP (.node dR kR) (.slice E1 dR.ms.length En1, .slice E2 dR.bys.length En2, .slice E3 kR.length En3) → Calls Tryd.prog 9 #[.agg (ndC dR (.slice A1 dR.ms.length An1) (.slice A2 dR.bys.length An2) (.slice A3 kR.length An3)), .agg (ndC dR (.slice E1 dR.ms.length En1) (.slice E2 dR.bys.length En2) (.slice E3 kR.length En3))] W' (RetB (.bool true) W')) := ⟨fun W' h1 h2 => by have h := pequal_any (.node dR kR) (.node dR kR) AnyP AnyP W' _ _ h1 h2; rw [HE.out.2.2.1] at h; exact h⟩
            have CE4 : Box (∀ W', TreeAt W' AnyP (.node dL kL) (.slice D1 dL.ms.length Dn1, .slice D2 dL.bys.length Dn2, .slice D3 kL.length Dn3) → TreeAt W' AnyP (.node dR kR) (.slice E1 dR.ms.length En1, .slice E2 dR.bys.length En2, .slice E3 kR.length En3) → Calls Tryd.prog 9 #[.agg (ndC dL (.slice D1 dL.ms.length Dn1) (.slice D2 dL.bys.length Dn2) (.slice D3 kL.length Dn3)), .agg (ndC dR (.slice E1 dR.ms.length En1) (.slice E2 dR.bys.length En2) (.slice E3 kR.length En3))] W' (RetB (.bool false) W')) := ⟨fun W' h1 h2 => by have h := pequal_any (.node dL kL) (.node dR kR) AnyP AnyP W' _ _ h1 h2; rw [HE.out.2.2.2] at h; exact h⟩
            clear HE
            go_upto_region 15 with (fail)
            generalize hwc : wc = WC at HS ⊢
            clear hwc
            obtain ⟨p0, p1, p2, p3, p4, p5, p6, p7, p8, p9, p10⟩ := blk11z (d := dW) HS.out.six.2.2.1.box
            obtain ⟨q0, q1, q2, q3, q4, q5, q6, q7, q8, q9, q10⟩ := blk11z (d := dW) HS.out.six.2.2.2.2.2.box
            go_wp2_with fail
            (with_reducible refine (CE1.out _ ?_ ?_).mono ?_)
            · exact HS.out.six.2.2.1.tr
            · exact HS.out.six.2.2.2.2.2.tr
            rintro e w5 ⟨rfl, hb5⟩
            have HB : Box (Ss 9 w w5 g0 [(gz, .node dR kR, (.slice A1 dR.ms.length An1, .slice A2 dR.bys.length An2, .slice A3 kR.length An3)), (gy, .node dL kL, (.slice B1 dL.ms.length Bn1, .slice B2 dL.bys.length Bn2, .slice B3 kL.length Bn3)), (gx, .node dW kW, (.slice C1 dW.ms.length Cn1, .slice C2 dW.bys.length Cn2, .slice C3 kW.length Cn3)), (gl, .node dL kL, (.slice D1 dL.ms.length Dn1, .slice D2 dL.bys.length Dn2, .slice D3 kL.length Dn3)), (gr, .node dR kR, (.slice E1 dR.ms.length En1, .slice E2 dR.bys.length En2, .slice E3 kR.length En3)), (gw, .node dW kW, (.slice F1 dW.ms.length Fn1, .slice F2 dW.bys.length Fn2, .slice F3 kW.length Fn3))]) := ⟨HS.out.next hb5⟩
            clear HS hb5 p0 q0 p1 q1 p2 q2 p3 q3 p4 q4 p5 q5 p6 q6 p7 q7 p8 q8 p9 q9 p10 q10
            have HS := Box.mk HB.out
            clear HB
            obtain ⟨p0, p1, p2, p3, p4, p5, p6, p7, p8, p9, p10⟩ := blk11z (d := dL) HS.out.six.2.1.box
            obtain ⟨q0, q1, q2, q3, q4, q5, q6, q7, q8, q9, q10⟩ := blk11z (d := dL) HS.out.six.2.2.2.1.box
            go_wp2_with fail
            (with_reducible refine (CE2.out _ ?_ ?_).mono ?_)
            · exact HS.out.six.2.1.tr
            · exact HS.out.six.2.2.2.1.tr
            rintro e w6 ⟨rfl, hb5⟩
            have HB : Box (Ss 9 w w6 g0 [(gz, .node dR kR, (.slice A1 dR.ms.length An1, .slice A2 dR.bys.length An2, .slice A3 kR.length An3)), (gy, .node dL kL, (.slice B1 dL.ms.length Bn1, .slice B2 dL.bys.length Bn2, .slice B3 kL.length Bn3)), (gx, .node dW kW, (.slice C1 dW.ms.length Cn1, .slice C2 dW.bys.length Cn2, .slice C3 kW.length Cn3)), (gl, .node dL kL, (.slice D1 dL.ms.length Dn1, .slice D2 dL.bys.length Dn2, .slice D3 kL.length Dn3)), (gr, .node dR kR, (.slice E1 dR.ms.length En1, .slice E2 dR.bys.length En2, .slice E3 kR.length En3)), (gw, .node dW kW, (.slice F1 dW.ms.length Fn1, .slice F2 dW.bys.length Fn2, .slice F3 kW.length Fn3))]) := ⟨HS.out.next hb5⟩
            clear HS hb5 p0 q0 p1 q1 p2 q2 p3 q3 p4 q4 p5 q5 p6 q6 p7 q7 p8 q8 p9 q9 p10 q10
            have HS := Box.mk HB.out
            clear HB
            obtain ⟨p0, p1, p2, p3, p4, p5, p6, p7, p8, p9, p10⟩ := blk11z (d := dR) HS.out.six.1.box
            obtain ⟨q0, q1, q2, q3, q4, q5, q6, q7, q8, q9, q10⟩ := blk11z (d := dR) HS.out.six.2.2.2.2.1.box
            go_wp2_with fail
            (with_reducible refine (CE3.out _ ?_ ?_).mono ?_)
            · exact HS.out.six.1.tr
            · exact HS.out.six.2.2.2.2.1.tr
            rintro e w7 ⟨rfl, hb5⟩
            have HB : Box (Ss 9 w w7 g0 [(gz, .node dR kR, (.slice A1 dR.ms.length An1, .slice A2 dR.bys.length An2, .slice A3 kR.length An3)), (gy, .node dL kL, (.slice B1 dL.ms.length Bn1, .slice B2 dL.bys.length Bn2, .slice B3 kL.length Bn3)), (gx, .node dW kW, (.slice C1 dW.ms.length Cn1, .slice C2 dW.bys.length Cn2, .slice C3 kW.length Cn3)), (gl, .node dL kL, (.slice D1 dL.ms.length Dn1, .slice D2 dL.bys.length Dn2, .slice D3 kL.length Dn3)), (gr, .node dR kR, (.slice E1 dR.ms.length En1, .slice E2 dR.bys.length En2, .slice E3 kR.length En3)), (gw, .node dW kW, (.slice F1 dW.ms.length Fn1, .slice F2 dW.bys.length Fn2, .slice F3 kW.length Fn3))]) := ⟨HS.out.next hb5⟩
            clear HS hb5 p0 q0 p1 q1 p2 q2 p3 q3 p4 q4 p5 q5 p6 q6 p7 q7 p8 q8 p9 q9 p10 q10
            have HS := Box.mk HB.out
            clear HB
            obtain ⟨p0, p1, p2, p3, p4, p5, p6, p7, p8, p9, p10⟩ := blk11z (d := dL) HS.out.six.2.2.2.1.box
            obtain ⟨q0, q1, q2, q3, q4, q5, q6, q7, q8, q9, q10⟩ := blk11z (d := dR) HS.out.six.2.2.2.2.1.box
            go_wp2_with fail
            (with_reducible refine (CE4.out _ ?_ ?_).mono ?_)
            · exact HS.out.six.2.2.2.1.tr
            · exact HS.out.six.2.2.2.2.1.tr
            rintro e w8 ⟨rfl, hb5⟩
            have HB : Box (Ss 9 w w8 g0 [(gz, .node dR kR, (.slice A1 dR.ms.length An1, .slice A2 dR.bys.length An2, .slice A3 kR.length An3)), (gy, .node dL kL, (.slice B1 dL.ms.length Bn1, .slice B2 dL.bys.length Bn2, .slice B3 kL.length Bn3)), (gx, .node dW kW, (.slice C1 dW.ms.length Cn1, .slice C2 dW.bys.length Cn2, .slice C3 kW.length Cn3)), (gl, .node dL kL, (.slice D1 dL.ms.length Dn1, .slice D2 dL.bys.length Dn2, .slice D3 kL.length Dn3)), (gr, .node dR kR, (.slice E1 dR.ms.length En1, .slice E2 dR.bys.length En2, .slice E3 kR.length En3)), (gw, .node dW kW, (.slice F1 dW.ms.length Fn1, .slice F2 dW.bys.length Fn2, .slice F3 kW.length Fn3))]) := ⟨HS.out.next hb5⟩
            clear HS hb5 p0 q0 p1 q1 p2 q2 p3 q3 p4 q4 p5 q5 p6 q6 p7 q7 p8 q8 p9 q9 p10 q10
            have HS := Box.mk HB.out
            clear HB
            go_wp2_with fail
            refine (lives_true _ (HW.out.below HS.out.below)).mono ?_
            rintro e w9 ⟨rfl, hb5⟩
            have hbf := bthen HS.out.below hb5 (Nat.le_refl _)
            go_wp2_with fail
            go_ret
            exact ⟨rfl, hbf⟩
end
end Go.Proofs.YthoibeajhdhdhaaDoor
