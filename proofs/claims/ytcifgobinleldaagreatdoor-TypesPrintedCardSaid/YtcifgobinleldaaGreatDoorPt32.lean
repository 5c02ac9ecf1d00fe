/- Contracts, packed: Re. -/
import Derived.Test.YtcifgobinleldaaGreatDoorPt20
import Derived.Test.YtcifgobinleldaaGreatDoorPt31
import Derived.ProofKit
import Derived.OpenShut
set_option linter.unusedVariables false
set_option linter.unusedSimpArgs false
namespace Go.Proofs.YtcifgobinleldaaGreatDoor
section
section
open Go.RowKit FracM

/-- the units of the first kids are us -/
def UnRel (D : List Dc) (ks : List Tree) (us : List U3) : Prop := (unitL D ks).1 = us ++ (unitL D (ks.drop us.length)).1 ∧ (unitL D ks).2 = (unitL D (ks.drop us.length)).2
theorem un_nil (D : List Dc) (ks : List Tree) : UnRel D ks [] := ⟨by simp, by simp⟩
theorem un_step0 {D : List Dc} {ks : List Tree} {t : Tree} {q : U3} (hx : ks[0]? = some t) (hq : unitM D t = (q, 0)) : UnRel D ks [q] := by
  cases ks with
  | nil => simp at hx
  | cons a ks => simp at hx; subst hx; simp [UnRel, unitL, hq]
theorem un_step1 {D : List Dc} {ks : List Tree} {t : Tree} {q ua : U3} (h : UnRel D ks [ua]) (hx : ks[1]? = some t) (hq : unitM D t = (q, 0)) : UnRel D ks [ua, q] := by
  obtain ⟨h1, h2⟩ := h
  match ks, hx with
  | a :: b :: ks, hx =>
    simp at hx; subst hx
    simp [unitL, hq] at h1 h2
    constructor
    · rw [unitL] at *; simp [unitL, hq] at h1 ⊢; exact h1
    · rw [unitL] at *; simp [unitL, hq] at h2 ⊢; exact h2
theorem un_bad0 {D : List Dc} {d : Nd} {ks : List Tree} {t : Tree} {q : U3} {er : Int} (hx : ks[0]? = some t) (hq : unitM D t = (q, er)) (h : er ≠ 0) : unitM D (.node d ks) = (u0, er) := by
  cases ks with
  | nil => simp at hx
  | cons a ks => simp at hx; subst hx; rw [unitM_bad (by rw [hq]; exact h), hq]
theorem un_bad1 {D : List Dc} {d : Nd} {ks : List Tree} {t : Tree} {q ua : U3} {er : Int} (h : UnRel D ks [ua]) (hx : ks[1]? = some t) (hq : unitM D t = (q, er)) (h0 : er ≠ 0) : unitM D (.node d ks) = (u0, er) := by
  obtain ⟨h1, h2⟩ := h
  match ks, hx with
  | a :: b :: ks, hx =>
    simp at hx; subst hx
    have e2 : (unitL D (a :: b :: ks)).2 = er := by
      rw [h2]; simp [unitL, hq, h0]
    rw [unitM, e2, if_neg h0]
theorem un_end {D : List Dc} {d : Nd} {ks : List Tree} {us : List U3} (h : UnRel D ks us) (hl : us.length = ks.length) : unitM D (.node d ks) = finM D d ks us := by
  obtain ⟨h1, h2⟩ := h
  rw [hl, List.drop_length] at h1 h2
  rw [unitM, h2, h1]
  simp [unitL]
theorem bset3o {B : Nat} {w w' : World} {g : Nat} (o : Nat) (h : Below B w w') (hg : B ≤ g) (u0 u1 u2 : Value) : Below B w (((w'.setCell ⟨g, o, none⟩ u0).setCell ⟨g, o + 1, none⟩ u1).setCell ⟨g, o + 2, none⟩ u2) := ((h.setCell (p := ⟨g, o, none⟩) hg _).setCell (p := ⟨g, o + 1, none⟩) hg _).setCell (p := ⟨g, o + 2, none⟩) hg _
def UnitOk (t : Tree) : Prop := ∀ (P : Nat → Nat → Prop) (w : World) (g : Nat) (dv : Value) (D : List Dx) (s : Sl), TreeAt w P t s → DecsAt w P dv D → Blk w g 133 #[dv, .int .i64 0] → (∀ b e, P b e → b < w.heap.size ∧ b ≠ g) → chk t = 0 → D.length ≤ 1000 →
  Calls Tryz.prog 77 #[.pointer (some ⟨g, 0, none⟩), .agg (ndC t.d s.1 s.2.1 s.2.2)] w (RetT g (uV (unitM (dcs D) t).1) #[dv, .int .i64 (unitM (dcs D) t).2] w)
set_option maxHeartbeats 8000000 in
set_option maxRecDepth 100000 in
theorem unit_any : ∀ t, UnitOk t := by
  refine Tree.ind ?_
  intro d ks ih P w g dv D ⟨mv, bv, kv⟩ hT hD hg hP hc hDl
  unfold UnitOk at ih
  obtain ⟨hc1, hck⟩ := chk_ok hc
  have hsh := shape_cases (chk1_shape hc1)
  have hl2 : ks.length ≤ 2 := by omega
  have HSH := Box.mk hsh
  have HCK := Box.mk hck
  have IH := Box.mk ih
  have hgw := hg.lt
  have HPG : Box (∀ b e, P b e → b ≠ g) := ⟨fun b e h => (hP b e h).2⟩
  have HPL : Box (∀ b e, P b e → b < w.heap.size) := ⟨fun b e h => (hP b e h).1⟩
  have HS := Box.mk (S2.start hg hT hD)
  obtain ⟨A1, n1, rfl, l1⟩ := hT.nod.ms.form
  obtain ⟨A2, n2, rfl, l2⟩ := hT.nod.bys.form
  obtain ⟨A3, n3, rfl, l3⟩ := hT.nod.kform
  have hzW : ((w.alloc (.cells (ndC d (.slice A1 d.ms.length n1) (.slice A2 d.bys.length n2) (.slice A3 ks.length n3)) 33)).alloc (.cells #[.int .i64 0, .int .i64 0, .int .i64 0] 61)).heap.size = w.heap.size + 2 := by simp
  clear hT hD hg hP hc hc1 hck ih hsh
  simp only [Tree.d]
  go_enter Tryz.func77, Tryz.ntmps77
  go_upto_region 1 with (fail)
  generalize ((w.alloc (.cells (ndC d (.slice A1 d.ms.length n1) (.slice A2 d.bys.length n2) (.slice A3 ks.length n3)) 33)).alloc (.cells #[.int .i64 0, .int .i64 0, .int .i64 0] 61)) = W at HS hzW ⊢
  have HKB : Box (Blk (W.alloc (.cells #[.int .i64 0, .int .i64 0, .int .i64 0, .int .i64 0, .int .i64 0, .int .i64 0] 189)) (w.heap.size + 2) 189 (u2C u0 u0)) := ⟨Blk.newAt (w := W) #[.int .i64 0, .int .i64 0, .int .i64 0, .int .i64 0, .int .i64 0, .int .i64 0] 189 hzW⟩
  have HS2 := Box.mk (HS.out.below (bel1 W (.cells #[.int .i64 0, .int .i64 0, .int .i64 0, .int .i64 0, .int .i64 0, .int .i64 0] 189)))
  clear HS
  have HS := Box.mk HS2.out
  clear HS2
  go_upto_region 2 with (fail)
  generalize W.alloc (.cells #[.int .i64 0, .int .i64 0, .int .i64 0, .int .i64 0, .int .i64 0, .int .i64 0] 189) = W2 at HS HKB ⊢
  clear hzW
  obtain ⟨c0, c1, c2, c3, c4, c5, c6, c7, c8, c9, c10⟩ := blk11z HS.out.Q
  go_wp2_with fail
  clear c0 c1 c2 c3 c4 c5 c6 c7 c8 c9 c10
  go_loopw [11] (fun v wr => ∃ (k : Nat) (us : List U3), k ≤ ks.length ∧ v = .int .i64 k ∧ us.length = k ∧ Box (UnRel (dcs D) ks us) ∧ Blk wr (w.heap.size + 2) 189 (u2C (us.getD 0 u0) (us.getD 1 u0)) ∧ S2 g w wr P d ks (.slice A1 d.ms.length n1) (.slice A2 d.bys.length n2) (.slice A3 ks.length n3) dv D 0) (fun v _ => ks.length - (intOf v).toNat)
  case atStart => exact ⟨0, [], by omega, rfl, rfl, ⟨un_nil _ _⟩, HKB.out, HS.out⟩
  case round =>
    clear HS HKB
    obtain ⟨k, us, hk, rfl, hul, HU, hkb, hS⟩ := hrel
    have HS := Box.mk hS
    have HKB := Box.mk hkb
    have hwr := hkb.lt
    clear hS hkb
    by_cases hlt : k < ks.length
    · have hlt2 : (k : Int) < (ks.length : Int) := by omega
      have hk2 : k = 0 ∨ k = 1 := by omega
      rcases hk2 with rfl | rfl
      · obtain rfl := List.eq_nil_of_length_eq_zero hul
        simp only [List.getD_nil] at HKB
        obtain ⟨e, es, b, off, B1, m1, B2, m2, B3, m3, hx, hA, hb, hpb, h11, hT'⟩ := kid2 HS.out.nod 0 hlt
        subst hA
        obtain ⟨k0, k1, k2, k3, k4, k5, k6, k7, k8, k9, k10⟩ := h11
        simp only [Nat.zero_mul, Nat.one_mul, Nat.add_zero] at k0 k1 k2 k3 k4 k5 k6 k7 k8 k9 k10
        have HX := Box.mk hx
        have HT := Box.mk hT'
        clear hT' hx hpb hb
        go_upto_region 5 with (fail)
        have HS4 := Box.mk (HS.out.below (bel1 wr (.cells (ndC e (.slice B1 e.ms.length m1) (.slice B2 e.bys.length m2) (.slice B3 es.length m3)) 33)))
        have HK4 := Box.mk (HKB.out.below (bel1 wr (.cells (ndC e (.slice B1 e.ms.length m1) (.slice B2 e.bys.length m2) (.slice B3 es.length m3)) 33)))
        have HT4 := Box.mk (HT.out.belo (bel1 wr (.cells (ndC e (.slice B1 e.ms.length m1) (.slice B2 e.bys.length m2) (.slice B3 es.length m3)) 33)))
        have HV4 : Box (Blk (wr.alloc (.cells (ndC e (.slice B1 e.ms.length m1) (.slice B2 e.bys.length m2) (.slice B3 es.length m3)) 33)) wr.heap.size 33 (ndC e (.slice B1 e.ms.length m1) (.slice B2 e.bys.length m2) (.slice B3 es.length m3))) := ⟨Blk.new _ _ _⟩
        have hz4 : wr.heap.size ≤ (wr.alloc (.cells (ndC e (.slice B1 e.ms.length m1) (.slice B2 e.bys.length m2) (.slice B3 es.length m3)) 33)).heap.size := by simp
        clear HS HKB HT k0 k1 k2 k3 k4 k5 k6 k7 k8 k9 k10
        generalize wr.alloc (.cells (ndC e (.slice B1 e.ms.length m1) (.slice B2 e.bys.length m2) (.slice B3 es.length m3)) 33) = W4 at *
        generalize wr.heap.size = vb at *
        obtain ⟨a0, a1, a2, a3, a4, a5, a6, a7, a8, a9, a10⟩ := blk11z HV4.out
        go_wp2_with fail
        refine (IH.out (.node e es) (List.mem_of_getElem? HX.out) P W4 g dv D (.slice B1 e.ms.length m1, .slice B2 e.bys.length m2, .slice B3 es.length m3) HT4.out HS4.out.decs HS4.out.T (fun b e h => ⟨by have := HPL.out b e h; omega, HPG.out b e h⟩) (HCK.out _ (List.mem_of_getElem? HX.out)) hDl).mono ?_
        rintro e5 w5 ⟨rfl, hT5, ho5⟩
        obtain ⟨q, er, HQ⟩ : ∃ q er, Box (unitM (dcs D) (.node e es) = (q, er)) := ⟨_, _, ⟨rfl⟩⟩
        rw [HQ.out] at hT5 ⊢
        simp only at hT5 ⊢
        have HS5 := Box.mk (HS4.out.next hgw HPG.out ho5 hT5)
        have HK5 := Box.mk (ho5.blk HK4.out (by omega))
        have hz5 := ho5.size
        clear hT5 ho5 HS4 HK4 HT4 HV4 a0 a1 a2 a3 a4 a5 a6 a7 a8 a9 a10
        obtain ⟨v0, v1, v2, v3, v4, v5⟩ := blk6 HK5.out
        have vf := HK5.out.frozen
        go_upto_region 6 with (fail)
        have HB6 : Box (Below (w.heap.size + 2) w5 (((w5.setCell ⟨w.heap.size + 2, 0, none⟩ (.int .i64 q.1)).setCell ⟨w.heap.size + 2, 1, none⟩ (.int .i64 q.2.1)).setCell ⟨w.heap.size + 2, 2, none⟩ (.int .i64 q.2.2))) := ⟨bset3o 0 (Below.refl _ _) (Nat.le_refl _) _ _ _⟩
        have HS6 := Box.mk (HS5.out.from_ hgw HPL.out HB6.out)
        have HK6 : Box (Blk (((w5.setCell ⟨w.heap.size + 2, 0, none⟩ (.int .i64 q.1)).setCell ⟨w.heap.size + 2, 1, none⟩ (.int .i64 q.2.1)).setCell ⟨w.heap.size + 2, 2, none⟩ (.int .i64 q.2.2)) (w.heap.size + 2) 189 (u2C q u0)) := ⟨(((HK5.out).set 0 (.int .i64 q.1)).set 1 (.int .i64 q.2.1)).set 2 (.int .i64 q.2.2)⟩
        generalize (((w5.setCell ⟨w.heap.size + 2, 0, none⟩ (.int .i64 q.1)).setCell ⟨w.heap.size + 2, 1, none⟩ (.int .i64 q.2.1)).setCell ⟨w.heap.size + 2, 2, none⟩ (.int .i64 q.2.2)) = W6 at HS6 HK6 ⊢
        clear HS5 HK5 HB6 v0 v1 v2 v3 v4 v5 vf
        obtain ⟨t0, t1⟩ := HS6.out.T.c2
        by_cases h0 : er = 0
        · subst h0
          go_wp2_with fail
          go_roundw
          case rel => exact ⟨1, [q], by omega, rfl, rfl, ⟨un_step0 HX.out HQ.out⟩, HK6.out, HS6.out⟩
          case measure => simp [intOf]; omega
        · have h1 : (er != 0) = true := by simpa using h0
          have h2 : (er == 0) = false := by simpa using h0
          have HM : Box (unitM (dcs D) (.node d ks) = (u0, er)) := ⟨un_bad0 HX.out HQ.out h0⟩
          obtain ⟨r0, r1, r2⟩ := HS6.out.R.c3
          have rf := HS6.out.R.frozen
          go_wp2_with fail
          exact bodyPost_ret (v := zeroU) (by simp [results, Tryz.results77, go_sem, r0, r1, r2, rf]) rfl (by rw [HM.out]; exact HS6.out.fin hgw _ _ _ _)
      · obtain ⟨ua, rfl⟩ : ∃ ua, us = [ua] := by
          match us, hul with
          | [x], _ => exact ⟨x, rfl⟩
        simp only [List.getD_cons_zero, List.getD_cons_succ, List.getD_nil] at HKB
        obtain ⟨e, es, b, off, B1, m1, B2, m2, B3, m3, hx, hA, hb, hpb, h11, hT'⟩ := kid2 HS.out.nod 1 hlt
        subst hA
        obtain ⟨k0, k1, k2, k3, k4, k5, k6, k7, k8, k9, k10⟩ := h11
        simp only [Nat.zero_mul, Nat.one_mul, Nat.add_zero] at k0 k1 k2 k3 k4 k5 k6 k7 k8 k9 k10
        have HX := Box.mk hx
        have HT := Box.mk hT'
        clear hT' hx hpb hb
        go_upto_region 5 with (fail)
        have HS4 := Box.mk (HS.out.below (bel1 wr (.cells (ndC e (.slice B1 e.ms.length m1) (.slice B2 e.bys.length m2) (.slice B3 es.length m3)) 33)))
        have HK4 := Box.mk (HKB.out.below (bel1 wr (.cells (ndC e (.slice B1 e.ms.length m1) (.slice B2 e.bys.length m2) (.slice B3 es.length m3)) 33)))
        have HT4 := Box.mk (HT.out.belo (bel1 wr (.cells (ndC e (.slice B1 e.ms.length m1) (.slice B2 e.bys.length m2) (.slice B3 es.length m3)) 33)))
        have HV4 : Box (Blk (wr.alloc (.cells (ndC e (.slice B1 e.ms.length m1) (.slice B2 e.bys.length m2) (.slice B3 es.length m3)) 33)) wr.heap.size 33 (ndC e (.slice B1 e.ms.length m1) (.slice B2 e.bys.length m2) (.slice B3 es.length m3))) := ⟨Blk.new _ _ _⟩
        have hz4 : wr.heap.size ≤ (wr.alloc (.cells (ndC e (.slice B1 e.ms.length m1) (.slice B2 e.bys.length m2) (.slice B3 es.length m3)) 33)).heap.size := by simp
        clear HS HKB HT k0 k1 k2 k3 k4 k5 k6 k7 k8 k9 k10
        generalize wr.alloc (.cells (ndC e (.slice B1 e.ms.length m1) (.slice B2 e.bys.length m2) (.slice B3 es.length m3)) 33) = W4 at *
        generalize wr.heap.size = vb at *
        obtain ⟨a0, a1, a2, a3, a4, a5, a6, a7, a8, a9, a10⟩ := blk11z HV4.out
        go_wp2_with fail
        refine (IH.out (.node e es) (List.mem_of_getElem? HX.out) P W4 g dv D (.slice B1 e.ms.length m1, .slice B2 e.bys.length m2, .slice B3 es.length m3) HT4.out HS4.out.decs HS4.out.T (fun b e h => ⟨by have := HPL.out b e h; omega, HPG.out b e h⟩) (HCK.out _ (List.mem_of_getElem? HX.out)) hDl).mono ?_
        rintro e5 w5 ⟨rfl, hT5, ho5⟩
        obtain ⟨q, er, HQ⟩ : ∃ q er, Box (unitM (dcs D) (.node e es) = (q, er)) := ⟨_, _, ⟨rfl⟩⟩
        rw [HQ.out] at hT5 ⊢
        simp only at hT5 ⊢
        have HS5 := Box.mk (HS4.out.next hgw HPG.out ho5 hT5)
        have HK5 := Box.mk (ho5.blk HK4.out (by omega))
        have hz5 := ho5.size
        clear hT5 ho5 HS4 HK4 HT4 HV4 a0 a1 a2 a3 a4 a5 a6 a7 a8 a9 a10
        obtain ⟨v0, v1, v2, v3, v4, v5⟩ := blk6 HK5.out
        have vf := HK5.out.frozen
        go_upto_region 6 with (fail)
        have HB6 : Box (Below (w.heap.size + 2) w5 (((w5.setCell ⟨w.heap.size + 2, 3, none⟩ (.int .i64 q.1)).setCell ⟨w.heap.size + 2, 4, none⟩ (.int .i64 q.2.1)).setCell ⟨w.heap.size + 2, 5, none⟩ (.int .i64 q.2.2))) := ⟨bset3o 3 (Below.refl _ _) (Nat.le_refl _) _ _ _⟩
        have HS6 := Box.mk (HS5.out.from_ hgw HPL.out HB6.out)
        have HK6 : Box (Blk (((w5.setCell ⟨w.heap.size + 2, 3, none⟩ (.int .i64 q.1)).setCell ⟨w.heap.size + 2, 4, none⟩ (.int .i64 q.2.1)).setCell ⟨w.heap.size + 2, 5, none⟩ (.int .i64 q.2.2)) (w.heap.size + 2) 189 (u2C ua q)) := ⟨(((HK5.out).set 3 (.int .i64 q.1)).set 4 (.int .i64 q.2.1)).set 5 (.int .i64 q.2.2)⟩
        generalize (((w5.setCell ⟨w.heap.size + 2, 3, none⟩ (.int .i64 q.1)).setCell ⟨w.heap.size + 2, 4, none⟩ (.int .i64 q.2.1)).setCell ⟨w.heap.size + 2, 5, none⟩ (.int .i64 q.2.2)) = W6 at HS6 HK6 ⊢
        clear HS5 HK5 HB6 v0 v1 v2 v3 v4 v5 vf
        obtain ⟨t0, t1⟩ := HS6.out.T.c2
        by_cases h0 : er = 0
        · subst h0
          go_wp2_with fail
          go_roundw
          case rel => exact ⟨2, [ua, q], by omega, rfl, rfl, ⟨un_step1 HU.out HX.out HQ.out⟩, HK6.out, HS6.out⟩
          case measure => simp [intOf]; omega
        · have h1 : (er != 0) = true := by simpa using h0
          have h2 : (er == 0) = false := by simpa using h0
          have HM : Box (unitM (dcs D) (.node d ks) = (u0, er)) := ⟨un_bad1 HU.out HX.out HQ.out h0⟩
          obtain ⟨r0, r1, r2⟩ := HS6.out.R.c3
          have rf := HS6.out.R.frozen
          go_wp2_with fail
          exact bodyPost_ret (v := zeroU) (by simp [results, Tryz.results77, go_sem, r0, r1, r2, rf]) rfl (by rw [HM.out]; exact HS6.out.fin hgw _ _ _ _)
    · have HM : Box (unitM (dcs D) (.node d ks) = finM (dcs D) d ks us) := ⟨un_end HU.out (by omega)⟩
      obtain ⟨c0, c1, c2, c3, c4, c5, c6, c7, c8, c9, c10⟩ := blk11z HS.out.Q
      rcases HSH.out with ⟨hkd, hl⟩ | ⟨hkd, hl, -, -⟩ | ⟨hkd, hl, hf1, hf2⟩ | ⟨hkd, hl, hf1, hf2⟩
      · have kq1 : (d.kind == 1) = false := by rw [hkd]; rfl
        have kq2 : (d.kind == 2) = false := by rw [hkd]; rfl
        have kq3 : (d.kind == 3) = false := by rw [hkd]; rfl
        have HM2 : Box (unitM (dcs D) (.node d ks) = (u0, 0)) := ⟨by rw [HM.out]; unfold finM; rw [if_neg (by omega), if_neg (by omega), if_neg (by omega)]⟩
        obtain ⟨r0, r1, r2⟩ := HS.out.R.c3
        have rf := HS.out.R.frozen
        go_wp2_with fail
        exact bodyPost_ret (v := zeroU) (by simp [results, Tryz.results77, go_sem, r0, r1, r2, rf]) rfl (by rw [HM2.out]; exact HS.out.fin hgw _ _ _ _)
      · have kq1 : (d.kind == 1) = true := by rw [hkd]; rfl
        have kq2 : (d.kind == 2) = false := by rw [hkd]; rfl
        have kq3 : (d.kind == 3) = false := by rw [hkd]; rfl
        have HM2 : Box (unitM (dcs D) (.node d ks) = selU (hits (dcs D) d) d.fn) := ⟨by rw [HM.out]; unfold finM; rw [if_pos hkd]; rfl⟩
        clear hkd hl
        go_wp2_with fail
        refine (selected_any g d ks _ _ _ _ D P _ HS.out.T HS.out.nod.tree HS.out.decs (fun b e h => ⟨by have := HPL.out b e h; omega, HPG.out b e h⟩) hDl).mono ?_
        rintro e5 w5 ⟨rfl, hT5, ho5⟩
        clear c0 c1 c2 c3 c4 c5 c6 c7 c8 c9 c10
        have HS5 := Box.mk (HS.out.next hgw HPG.out ho5 hT5)
        clear hT5 ho5
        obtain ⟨r0, r1, r2⟩ := HS5.out.R.c3
        have rf := HS5.out.R.frozen
        go_wp2_with fail
        exact bodyPost_ret (v := uV (selU (hits (dcs D) d) d.fn).1) (by simp [results, Tryz.results77, go_sem, r0, r1, r2, rf]) rfl (by rw [HM2.out]; exact HS5.out.fin hgw _ _ _ _)
      · have kq1 : (d.kind == 1) = false := by rw [hkd]; rfl
        have kq2 : (d.kind == 2) = true := by rw [hkd]; rfl
        have kq3 : (d.kind == 3) = false := by rw [hkd]; rfl
        obtain ⟨e, es, b, off, B1, m1, B2, m2, B3, m3, hx, hA, hb, hpb, h11, hT'⟩ := kid2 HS.out.nod 0 (by omega)
        subst hA
        obtain ⟨k0, k1, k2, k3, k4, k5, k6, k7, k8, k9, k10⟩ := h11
        simp only [Nat.zero_mul, Nat.add_zero] at k0 k1 k2 k3 k4 k5 k6 k7 k8 k9 k10
        have HK1 := Box.mk (one_of hl hx)
        have HCK1 := Box.mk (HCK.out _ (List.mem_of_getElem? hx))
        have HT1 := Box.mk hT'
        obtain ⟨ua, rfl⟩ : ∃ ua, us = [ua] := by
          match us, (show us.length = 1 by omega) with
          | [x], _ => exact ⟨x, rfl⟩
        simp only [List.getD_cons_zero, List.getD_cons_succ, List.getD_nil] at HKB
        have HM3 : Box (unitM (dcs D) (.node d ks) = if rlB (.node e es) then (u0, 7) else if d.fn = 3 then (u0, 0) else (ua, 0)) := ⟨by rw [HM.out]; unfold finM; rw [if_neg (by omega), if_pos hkd, HK1.out, rlL, rlL]; simp⟩
        have hl0 : (0 : Nat) < ks.length := by omega
        have hl00 : (0 : Int) < (ks.length : Int) := by omega
        obtain ⟨rb, HRB⟩ : ∃ z, Box (rlB (.node e es) = z) := ⟨_, ⟨rfl⟩⟩
        clear hkd hT' hx hpb HM
        go_wp2_with fail
        refine (rowless_any (.node e es) P _ (.slice B1 e.ms.length m1, .slice B2 e.bys.length m2, .slice B3 es.length m3) HT1.out HCK1.out).mono ?_
        rintro e5 w5 ⟨rfl, hb5⟩
        rw [HRB.out]
        have HS5' := Box.mk (HS.out.below hb5)
        have HKB5 := Box.mk (HKB.out.below hb5)
        clear hb5 HS HKB k0 k1 k2 k3 k4 k5 k6 k7 k8 k9 k10 c0 c1 c2 c3 c4 c5 c6 c7 c8 c9 c10
        cases rb
        · have HM4 : Box (unitM (dcs D) (.node d ks) = if d.fn = 3 then (u0, 0) else (ua, 0)) := ⟨by rw [HM3.out, HRB.out]; rfl⟩
          obtain ⟨c0, c1, c2, c3, c4, c5, c6, c7, c8, c9, c10⟩ := blk11z HS5'.out.Q
          obtain ⟨v0, v1, v2, v3, v4, v5⟩ := blk6 HKB5.out
          by_cases hf : d.fn = 3
          · have hfb : (d.fn == 3) = true := by simpa using hf
            have HM2 : Box (unitM (dcs D) (.node d ks) = (u0, 0)) := ⟨by rw [HM4.out, if_pos hf]⟩
            obtain ⟨r0, r1, r2⟩ := HS5'.out.R.c3
            have rf := HS5'.out.R.frozen
            go_wp2_with fail
            exact bodyPost_ret (v := zeroU) (by simp [results, Tryz.results77, go_sem, r0, r1, r2, rf]) rfl (by rw [HM2.out]; exact HS5'.out.fin hgw _ _ _ _)
          · have hfb : (d.fn == 3) = false := by simpa using hf
            have HM2 : Box (unitM (dcs D) (.node d ks) = (ua, 0)) := ⟨by rw [HM4.out, if_neg hf]⟩
            obtain ⟨r0, r1, r2⟩ := HS5'.out.R.c3
            have rf := HS5'.out.R.frozen
            go_wp2_with fail
            exact bodyPost_ret (v := uV ua) (by simp [results, Tryz.results77, go_sem, r0, r1, r2, rf]) rfl (by rw [HM2.out]; exact HS5'.out.fin hgw _ _ _ _)
        · have HM2 : Box (unitM (dcs D) (.node d ks) = (u0, 7)) := ⟨by rw [HM3.out, HRB.out]; rfl⟩
          go_wp2_with fail
          refine (fail_any g _ _ _ HS5'.out.T).mono ?_
          rintro e5 w6 ⟨rfl, hT5, ho5⟩
          have HS5 := Box.mk (HS5'.out.next hgw HPG.out ho5 hT5)
          clear hT5 ho5
          obtain ⟨r0, r1, r2⟩ := HS5.out.R.c3
          have rf := HS5.out.R.frozen
          go_wp2_with fail
          exact bodyPost_ret (v := zeroU) (by simp [results, Tryz.results77, go_sem, r0, r1, r2, rf]) rfl (by rw [HM2.out]; exact HS5.out.fin hgw _ _ _ _)
      · have kq1 : (d.kind == 1) = false := by rw [hkd]; rfl
        have kq2 : (d.kind == 2) = false := by rw [hkd]; rfl
        have kq3 : (d.kind == 3) = true := by rw [hkd]; rfl
        obtain ⟨ua, ub, rfl⟩ : ∃ ua ub, us = [ua, ub] := by
          match us, (show us.length = 2 by omega) with
          | [x, y], _ => exact ⟨x, y, rfl⟩
        simp only [List.getD_cons_zero, List.getD_cons_succ, List.getD_nil] at HKB
        have HM2 : Box (unitM (dcs D) (.node d ks) = binM d ks [ua, ub]) := ⟨by rw [HM.out]; unfold finM; rw [if_neg (by omega), if_neg (by omega), if_pos hkd]⟩
        obtain ⟨v0, v1, v2, v3, v4, v5⟩ := blk6 HKB.out
        have HL := Box.mk hl
        clear hkd HM hl hul
        go_wp2_with fail
        refine (binary_any g d ks _ _ _ _ ua ub P _ HS.out.T HS.out.nod.tree (fun b e h => ⟨by have := HPL.out b e h; omega, HPG.out b e h⟩) HL.out HCK.out hf1 hf2).mono ?_
        rintro e5 w5 ⟨rfl, hT5, ho5⟩
        clear c0 c1 c2 c3 c4 c5 c6 c7 c8 c9 c10 v0 v1 v2 v3 v4 v5
        have HS5 := Box.mk (HS.out.next hgw HPG.out ho5 hT5)
        clear hT5 ho5
        obtain ⟨r0, r1, r2⟩ := HS5.out.R.c3
        have rf := HS5.out.R.frozen
        go_wp2_with fail
        exact bodyPost_ret (v := uV (binM d ks [ua, ub]).1) (by simp [results, Tryz.results77, go_sem, r0, r1, r2, rf]) rfl (by rw [HM2.out]; exact HS5.out.fin hgw _ _ _ _)
end
section
open Go.RowKit FracM

def LowP (B : Nat) : Nat → Nat → Prop := fun b _ => b < B
structure O3 (w W : World) (d : Nd) (ks : List Tree) (mv bv kv dv : Value) (D : List Dx) : Prop where
  below : Below w.heap.size w W
  Q : Blk W w.heap.size 33 (ndC d mv bv kv)
  R : Blk W (w.heap.size + 1) 61 #[.int .i64 0, .int .i64 0, .int .i64 0]
  nod : Nod W (LowP w.heap.size) d ks mv bv kv
  decs : DecsAt W (LowP w.heap.size) dv D
theorem O3.next {w W W' : World} {d : Nd} {ks : List Tree} {mv bv kv dv : Value} {D : List Dx} (h : O3 w W d ks mv bv kv dv D) (hb : Below W.heap.size W W') : O3 w W' d ks mv bv kv dv D := ⟨bthen h.below hb (Nat.le_refl _), h.Q.below hb, h.R.below hb, h.nod.below hb, h.decs.keep (Agree.of_below hb)⟩
theorem O3.only {w W W' : World} {g : Nat} {d : Nd} {ks : List Tree} {mv bv kv dv : Value} {D : List Dx} (h : O3 w W d ks mv bv kv dv D) (ho : Only g W W') (hg : w.heap.size + 1 < g) : O3 w W' d ks mv bv kv dv D :=
  ⟨h.below.trans (ho.below (by omega) h.below.size), ho.blk h.Q (by omega), ho.blk h.R (by omega), h.nod.keep (Agree.of_only ho fun b e hp => by have : b < w.heap.size := hp; omega), h.decs.keep (Agree.of_only ho fun b e hp => by have : b < w.heap.size := hp; omega)⟩
theorem O3.start {w : World} {P : Nat → Nat → Prop} {d : Nd} {ks : List Tree} {mv bv kv dv : Value} {D : List Dx} (hT : TreeAt w P (.node d ks) (mv, bv, kv)) (hD : DecsAt w P dv D) : O3 w ((w.alloc (.cells (ndC d mv bv kv) 33)).alloc (.cells #[.int .i64 0, .int .i64 0, .int .i64 0] 61)) d ks mv bv kv dv D :=
  ⟨bel2 _ _ _, (Blk.new _ _ _).alloc _, Blk.newAt _ _ (by simp), ((hT.mono (Q := LowP w.heap.size) fun _ _ hb _ => hb).belo (bel2 _ _ _)).nod, (hD.mono (Q := LowP w.heap.size) fun _ _ hb _ => hb).keep (Agree.of_below (bel2 _ _ _))⟩
theorem lim_bad {x u : U3} {er : Int} (h : limU x = (u, er)) (he : er ≠ 0) : u = u0 := by
  unfold limU at h
  split at h
  · cases h; exact absurd rfl he
  · cases h; rfl
theorem sel_bad {us : List U3} {fn : Int} {u : U3} {er : Int} (h : selU us fn = (u, er)) (he : er ≠ 0) : u = u0 := by
  cases us with
  | nil => simp [selU] at h; exact h.1.symm
  | cons v us =>
    unfold selU at h
    simp only at h
    split at h
    · cases h; rfl
    · split at h
      · cases h; rfl
      · exact lim_bad h he
theorem fin_bad {D : List Dc} {d : Nd} {ks : List Tree} {us : List U3} {u : U3} {er : Int} (h : finM D d ks us = (u, er)) (he : er ≠ 0) : u = u0 := by
  unfold finM at h
  split at h
  · exact sel_bad h he
  · split at h
    · split at h
      · cases h; rfl
      · split at h
        · cases h; rfl
        · cases h; exact absurd rfl he
    · split at h
      · unfold binM at h
        split at h
        · split at h
          · cases h; rfl
          · split at h
            · exact lim_bad h he
            · split at h
              · exact lim_bad h he
              · split at h
                · cases h; exact absurd rfl he
                · cases h; rfl
        · cases h; rfl
      · cases h; rfl
theorem unit_bad {D : List Dc} {t : Tree} {u : U3} {er : Int} (h : unitM D t = (u, er)) (he : er ≠ 0) : unitM D t = (u0, er) := by
  obtain ⟨d, ks⟩ := t
  rw [h]
  rw [unitM] at h
  split at h
  · rw [fin_bad h he]
  · have := congrArg Prod.fst h
    simp only at this
    rw [this]
theorem ofM_bad {D : List Dc} {t : Tree} {q : Int} (h : validE t = q) (h0 : q ≠ 0) : ofM D t = (u0, q) := by unfold ofM; rw [h, if_neg h0]
theorem ofM_ok {D : List Dc} {t : Tree} (h : validE t = 0) : ofM D t = unitM D t := by unfold ofM; rw [if_pos h]
theorem validE_chk {t : Tree} (h : validE t = 0) : chk t = 0 := by
  unfold validE at h
  split at h
  · cases h
  · exact h
set_option maxHeartbeats 2000000 in
set_option maxRecDepth 100000 in
theorem of_any (t : Tree) (P : Nat → Nat → Prop) (w : World) (s : Sl) (dv : Value) (D : List Dx) (hT : TreeAt w P t s) (hD : DecsAt w P dv D) (hw : WordsG w) (hDl : D.length ≤ 1000) :
    Calls Tryz.prog 33 #[dv, .agg (ndC t.d s.1 s.2.1 s.2.2)] w (RetB (.tuple #[uV (ofM (dcs D) t).1, .int .i64 (ofM (dcs D) t).2]) w) := by
  obtain ⟨d, ks⟩ := t
  obtain ⟨mv, bv, kv⟩ := s
  have HW := Box.mk hw
  have HB := Box.mk (O3.start hT hD)
  obtain ⟨A1, n1, rfl, -⟩ := hT.nod.ms.form
  obtain ⟨A2, n2, rfl, -⟩ := hT.nod.bys.form
  obtain ⟨A3, n3, rfl, -⟩ := hT.nod.kform
  obtain ⟨AD, nD, rfl, -⟩ := hD.1.form
  clear hT hD hw
  simp only [Tree.d]
  go_enter Tryz.func33, Tryz.ntmps33
  go_upto_region 1 with (fail)
  generalize ((w.alloc (.cells (ndC d (.slice A1 d.ms.length n1) (.slice A2 d.bys.length n2) (.slice A3 ks.length n3)) 33)).alloc (.cells #[.int .i64 0, .int .i64 0, .int .i64 0] 61)) = W at HB ⊢
  obtain ⟨c0, c1, c2, c3, c4, c5, c6, c7, c8, c9, c10⟩ := blk11z HB.out.Q
  go_wp2_with fail
  refine (pvalid_any (.node d ks) _ _ (.slice A1 d.ms.length n1, .slice A2 d.bys.length n2, .slice A3 ks.length n3) HB.out.nod.tree (HW.out.below HB.out.below)).mono ?_
  rintro e w1 ⟨rfl, hb⟩
  clear c0 c1 c2 c3 c4 c5 c6 c7 c8 c9 c10
  have HB2 := Box.mk (HB.out.next hb); clear HB hb
  obtain ⟨q, HQ⟩ : ∃ z, Box (validE (.node d ks) = z) := ⟨_, ⟨rfl⟩⟩
  rw [HQ.out]
  by_cases h0 : q = 0
  · subst h0
    have HOF : Box (ofM (dcs D) (.node d ks) = unitM (dcs D) (.node d ks)) := ⟨ofM_ok HQ.out⟩
    go_upto_region 5 with (fail)
    have hG : w.heap.size + 1 < w1.heap.size := HB2.out.R.lt
    have HT : Box (Blk (w1.alloc (.cells #[.slice AD D.length nD, .int .i64 0] 133)) w1.heap.size 133 #[.slice AD D.length nD, .int .i64 0]) := ⟨Blk.new _ _ _⟩
    have HB := Box.mk (HB2.out.next (bel1 w1 (.cells #[.slice AD D.length nD, .int .i64 0] 133))); clear HB2
    generalize w1.heap.size = G at *
    generalize w1.alloc (.cells #[.slice AD D.length nD, .int .i64 0] 133) = W1 at *
    obtain ⟨c0, c1, c2, c3, c4, c5, c6, c7, c8, c9, c10⟩ := blk11z HB.out.Q
    have HUN := Box.mk (unit_any (.node d ks))
    unfold UnitOk at HUN
    go_wp2_with fail
    refine (HUN.out (LowP w.heap.size) _ G _ D (.slice A1 d.ms.length n1, .slice A2 d.bys.length n2, .slice A3 ks.length n3) HB.out.nod.tree HB.out.decs HT.out (fun b e hp => ⟨by have h1 : b < w.heap.size := hp; have := HB.out.below.size; omega, by have : b < w.heap.size := hp; omega⟩) (validE_chk HQ.out) hDl).mono ?_
    rintro e w2 ⟨rfl, hT, ho⟩
    obtain ⟨u, er, HU⟩ : ∃ u er, Box (unitM (dcs D) (.node d ks) = (u, er)) := ⟨_, _, ⟨rfl⟩⟩
    rw [HU.out] at hT ⊢
    simp only at hT ⊢
    clear c0 c1 c2 c3 c4 c5 c6 c7 c8 c9 c10
    have HB2 := Box.mk (HB.out.only ho hG)
    have HT2 := Box.mk hT
    clear HB HT hT ho
    go_upto_region 6 with (fail)
    have HB := Box.mk (HB2.out.next (bel1 w2 (.cells (uC u) 61)))
    have HT := Box.mk (HT2.out.alloc (.cells (uC u) 61))
    have HV : Box (Blk (w2.alloc (.cells (uC u) 61)) w2.heap.size 61 (uC u)) := ⟨Blk.new _ _ _⟩
    clear HB2 HT2
    generalize w2.alloc (.cells (uC u) 61) = W2 at *
    generalize w2.heap.size = N at *
    obtain ⟨t0, t1⟩ := HT.out.c2
    obtain ⟨v0, v1, v2⟩ := HV.out.c3
    obtain ⟨r0, r1, r2⟩ := HB.out.R.c3
    have rf := HB.out.R.frozen
    have nG : ¬ G = w.heap.size + 1 := by omega
    have nG2 : ¬ w.heap.size + 1 = G := by omega
    by_cases he : er = 0
    · subst he
      go_wp2_with fail
      exact bodyPost_ret (v := .tuple #[uV u, .int .i64 0]) (by simp [results, Tryz.results33, go_sem, r0, r1, r2, rf]) rfl ⟨by rw [HOF.out, HU.out], bset3 HB.out.below (by omega) _ _ _⟩
    · have h1 : (er != 0) = true := by simpa using he
      have h2 : (er == 0) = false := by simpa using he
      have HU0 : Box (unitM (dcs D) (.node d ks) = (u0, er)) := ⟨unit_bad HU.out he⟩
      go_wp2_with fail
      go_region
      all_goals
        go_wp2_with fail
        exact bodyPost_ret (v := .tuple #[zeroU, .int .i64 er]) (by simp [results, Tryz.results33, go_sem, r0, r1, r2, rf]) rfl ⟨by rw [HOF.out, HU0.out]; rfl, by first | exact bset3 HB.out.below (by omega) _ _ _ | exact bdrew (bset3 HB.out.below (by omega) _ _ _) 1⟩
  · have h1 : (q != 0) = true := by simpa using h0
    have h2 : (q == 0) = false := by simpa using h0
    have HOF : Box (ofM (dcs D) (.node d ks) = (u0, q)) := ⟨ofM_bad HQ.out h0⟩
    obtain ⟨r0, r1, r2⟩ := HB2.out.R.c3
    have rf := HB2.out.R.frozen
    go_wp2_with fail
    exact bodyPost_ret (v := .tuple #[zeroU, .int .i64 q]) (by simp [results, Tryz.results33, go_sem, r0, r1, r2, rf]) rfl ⟨by rw [HOF.out]; rfl, bset3 HB2.out.below (by omega) _ _ _⟩
end
end
end Go.Proofs.YtcifgobinleldaaGreatDoor
