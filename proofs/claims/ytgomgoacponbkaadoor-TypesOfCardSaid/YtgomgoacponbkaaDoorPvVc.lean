/- The reference 08's of, over all trees and declarations. -/
import Derived.Test.YtgomgoacponbkaaDoorPvVb
set_option linter.unusedVariables false
set_option linter.unusedSimpArgs false
namespace Go.Proofs.YtgomgoacponbkaaDoor
open Go.RowKit FracM

theorem un_step {D : List Dc} {ks : List Tree} {us : List U3} {t : Tree} {q : U3} (h : UnRel D ks us) (hx : ks[us.length]? = some t) (hq : unitM D t = (q, 0)) : UnRel D ks (us ++ [q]) := by
  obtain ⟨h1, h2⟩ := h
  rw [drop_at hx] at h1 h2
  simp [unitL, hq] at h1 h2
  constructor
  · rw [List.length_append]; simp [h1]
  · rw [List.length_append]; simp [h2]
theorem un_bad {D : List Dc} {d : Nd} {ks : List Tree} {us : List U3} {t : Tree} {q : U3} {er : Int} (h : UnRel D ks us) (hx : ks[us.length]? = some t) (hq : unitM D t = (q, er)) (h0 : er ≠ 0) : unitM D (.node d ks) = (u0, er) := by
  obtain ⟨h1, h2⟩ := h
  rw [drop_at hx] at h2
  have e2 : (unitL D ks).2 = er := by rw [h2]; simp [unitL, hq, h0]
  rw [unitM, e2, if_neg h0]
def ROfOk (t : Tree) : Prop := ∀ (P : Nat → Nat → Prop) (w : World) (s : Sl) (dv : Value) (D : List Dx), TreeAt w P t s → DecsAt w P dv D → chk t = 0 → D.length ≤ 1000 →
  Calls Tryd.prog 48 #[dv, .agg (ndC t.d s.1 s.2.1 s.2.2)] w (RetB (.tuple #[uV (unitM (dcs D) t).1, .int .i64 (unitM (dcs D) t).2]) w)
set_option maxHeartbeats 8000000 in
set_option maxRecDepth 100000 in
theorem rof_any : ∀ t, ROfOk t := by
  refine Tree.ind ?_
  intro d ks ih P w ⟨mv, bv, kv⟩ dv D hT hD hc hDl
  unfold ROfOk at ih
  obtain ⟨hc1, hck⟩ := chk_ok hc
  have hsh := shape_cases (chk1_shape hc1)
  have hl2 : ks.length ≤ 2 := by omega
  have HSH := Box.mk hsh
  have HCK := Box.mk hck
  have IH := Box.mk ih
  have HS := Box.mk (O3.start hT hD)
  obtain ⟨A1, n1, rfl, l1⟩ := hT.nod.ms.form
  obtain ⟨A2, n2, rfl, l2⟩ := hT.nod.bys.form
  obtain ⟨A3, n3, rfl, l3⟩ := hT.nod.kform
  obtain ⟨AD, nD, rfl, hdl⟩ := hD.1.form
  clear hT hD hc hc1 hck ih hsh
  simp only [Tree.d]
  go_enter Tryd.func48, Tryd.ntmps48
  go_upto_region 1 with (fail)
  generalize ((w.alloc (.cells (ndC d (.slice A1 d.ms.length n1) (.slice A2 d.bys.length n2) (.slice A3 ks.length n3)) 38)).alloc (.cells #[.int .i64 0, .int .i64 0, .int .i64 0] 23)) = W at HS ⊢
  obtain ⟨c0, c1, c2, c3, c4, c5, c6, c7, c8, c9, c10⟩ := blk11z HS.out.Q
  by_cases hkd : d.kind = 1
  · have kq1 : (d.kind == 1) = true := by rw [hkd]; rfl
    have hl0 : ks = [] := by
      have : ks.length = 0 := by have := HSH.out; omega
      exact List.eq_nil_of_length_eq_zero this
    have HM : Box (unitM (dcs D) (.node d ks) = selU (hits (dcs D) d) d.fn) := ⟨by subst hl0; rw [unitM]; simp only [unitL, if_true]; unfold finM; rw [if_pos hkd]; rfl⟩
    obtain ⟨u, er, HU⟩ : ∃ u er, Box (selU (hits (dcs D) d) d.fn = (u, er)) := ⟨_, _, ⟨rfl⟩⟩
    rw [HM.out, HU.out]
    clear hl0 hkd hl2
    go_wp2_with fail
    refine (rselected_any d ks _ _ _ _ D _ _ HS.out.nod.tree HS.out.decs hDl).mono ?_
    rintro e5 w5 ⟨rfl, hb5⟩
    rw [HU.out]
    have HS5 := Box.mk (HS.out.next hb5)
    clear hb5 HS c0 c1 c2 c3 c4 c5 c6 c7 c8 c9 c10
    obtain ⟨r0, r1, r2⟩ := HS5.out.R.c3
    have rf := HS5.out.R.frozen
    go_wp2_with fail
    exact bodyPost_ret (v := .tuple #[uV u, .int .i64 er]) (by simp [results, Tryd.results48, go_sem, r0, r1, r2, rf]) rfl ⟨by rw [HM.out, HU.out]; try rfl, bset3 HS5.out.below (by omega) _ _ _⟩
  have kq1 : (d.kind == 1) = false := by simpa using hkd
  go_wp2_with fail
  clear c0 c1 c2 c3 c4 c5 c6 c7 c8 c9 c10
  go_loopw [6, 7] (fun u v wr => ∃ (k : Nat) (us : List U3), k ≤ ks.length ∧ v = .int .i64 k ∧ us.length = k ∧ Box (UnRel (dcs D) ks us) ∧ OwnU wr (w.heap.size + 2) u us ∧ O3 w wr d ks (.slice A1 d.ms.length n1) (.slice A2 d.bys.length n2) (.slice A3 ks.length n3) (.slice AD D.length nD) D) (fun _ v _ => ks.length - (intOf v).toNat)
  case atStart => exact ⟨0, [], by omega, rfl, rfl, ⟨un_nil _ _⟩, World.ownsRow_nil _ _ _ _, HS.out⟩
  case round =>
    clear HS
    obtain ⟨k, us, hk, rfl, hul, HU, hown, hS⟩ := hrel
    have HS := Box.mk hS
    have HO := Box.mk hown
    have hwr := hS.R.lt
    clear hS hown
    have c10 := (blk11z HS.out.Q).2.2.2.2.2.2.2.2.2.2
    by_cases hlt : k < ks.length
    · have hlt2 : (k : Int) < (ks.length : Int) := by omega
      obtain ⟨e, es, b, off, B1, m1, B2, m2, B3, m3, hx, hA, hb, hpb, h11, hT'⟩ := kid2 HS.out.nod k hlt
      subst hA
      obtain ⟨k0, k1, k2, k3, k4, k5, k6, k7, k8, k9, k10⟩ := h11
      have HX := Box.mk hx
      have HT := Box.mk hT'
      obtain ⟨j0, hj, hy0, hy1, hy2⟩ := info_parts unitInfo
      have HJ := Box.mk (And.intro hj (And.intro hy0 (And.intro hy1 hy2)))
      clear hj hy0 hy1 hy2 hT' hx hpb hb
      go_wp2_with fail
      refine (IH.out (.node e es) (List.mem_of_getElem? HX.out) _ _ (.slice B1 e.ms.length m1, .slice B2 e.bys.length m2, .slice B3 es.length m3) (.slice AD D.length nD) D HT.out HS.out.decs (HCK.out _ (List.mem_of_getElem? HX.out)) hDl).mono ?_
      rintro e5 w5 ⟨rfl, hb5⟩
      obtain ⟨q, er, HQ⟩ : ∃ q er, Box (unitM (dcs D) (.node e es) = (q, er)) := ⟨_, _, ⟨rfl⟩⟩
      rw [HQ.out]
      have HS5 := Box.mk (HS.out.next hb5)
      have HO5 := Box.mk (HO.out.below hb5)
      clear hb5 HS HO HT k0 k1 k2 k3 k4 k5 k6 k7 k8 k9 k10 c10
      go_upto_region 8 with (fail)
      have HS6 := Box.mk (HS5.out.next (bel1 w5 (.cells (uC q) 23)))
      have HO6 := Box.mk (HO5.out.below (bel1 w5 (.cells (uC q) 23)))
      have HV6 : Box (Blk (w5.alloc (.cells (uC q) 23)) w5.heap.size 23 (uC q)) := ⟨Blk.new _ _ _⟩
      clear HS5 HO5
      generalize w5.alloc (.cells (uC q) 23) = W6 at *
      generalize w5.heap.size = vb at *
      obtain ⟨v0, v1, v2⟩ := HV6.out.c3
      by_cases h0 : er = 0
      · subst h0
        have hz6 := HS6.out.R.lt
        go_wp2_with (at_builtin; refine wpList_append_lies _ rfl _ _ 62 rfl (w.heap.size + 2) 23 j0 _ 3 24 Tryd.underlying62 HJ.out.1 HJ.out.2.1 HJ.out.2.2.1 HJ.out.2.2.2 rfl (by decide) u6 us.length (us.flatMap uL) rfl (by exact World.ownsRow.alloc HO6.out _) ⟨W6.heap.size, 0, none⟩ 1 1 (uL q) rfl rfl (cells3u _ _ _) (u_one _) (by decide) (by unfold maxLen; omega) (by omega) (by simp; omega) _ rfl ?_; intro g8 cap8 w8 hown8 hg8 hat8 hlt8)
        have HB8 : Box (Below (w.heap.size + 2) W6 w8) := ⟨((Below.refl _ _).alloc (by omega) _).trans (grow_lt (World.ownsRow.alloc HO6.out _) hg8 (by simp; omega))⟩
        have HO8 : Box (OwnU w8 (w.heap.size + 2) (.slice (some ⟨g8, 0, none⟩) (us.length + 1) cap8) (us ++ [q])) := ⟨by unfold OwnU; rw [List.flatMap_append]; simpa using hown8⟩
        clear hown8 hg8 hat8 hlt8 v0 v1 v2
        go_wp2_with fail
        go_roundw
        case rel => exact ⟨k + 1, us ++ [q], by omega, by go_num, by simp; omega, ⟨un_step HU.out (by rw [hul]; exact HX.out) HQ.out⟩, by have := HO8.out; rw [hul] at this; exact this, HS6.out.from_ HB8.out⟩
        case measure => simp [intOf]; omega
      · have h1 : (er != 0) = true := by simpa using h0
        have h2 : (er == 0) = false := by simpa using h0
        have HM : Box (unitM (dcs D) (.node d ks) = (u0, er)) := ⟨un_bad HU.out (by rw [hul]; exact HX.out) HQ.out h0⟩
        clear v0 v1 v2
        obtain ⟨r0, r1, r2⟩ := HS6.out.R.c3
        have rf := HS6.out.R.frozen
        go_wp2_with fail
        exact bodyPost_ret (v := .tuple #[zeroU, .int .i64 er]) (by simp [results, Tryd.results48, go_sem, r0, r1, r2, rf]) rfl ⟨by rw [HM.out]; try rfl, bset3 HS6.out.below (by omega) _ _ _⟩
    · have HM : Box (unitM (dcs D) (.node d ks) = finM (dcs D) d ks us) := ⟨un_end HU.out (by omega)⟩
      rw [HM.out]
      obtain ⟨A5, c5', hv5⟩ := HO.out.form
      subst hv5
      obtain ⟨c0, c1, c2, c3, c4, c5, c6, c7, c8, c9, c10'⟩ := blk11z HS.out.Q
      clear c10'
      rcases HSH.out with ⟨hkd', hl⟩ | ⟨hkd', hl, -, -⟩ | ⟨hkd', hl, hf1, hf2⟩ | ⟨hkd', hl, hf1, hf2⟩
      · have kq2 : (d.kind == 2) = false := by rw [hkd']; rfl
        have kq3 : (d.kind == 3) = false := by rw [hkd']; rfl
        have HF : Box (finM (dcs D) d ks us = (u0, 0)) := ⟨by unfold finM; rw [if_neg (by omega), if_neg (by omega), if_neg (by omega)]⟩
        clear hkd' hl
        obtain ⟨r0, r1, r2⟩ := HS.out.R.c3
        have rf := HS.out.R.frozen
        go_wp2_with fail
        exact bodyPost_ret (v := .tuple #[zeroU, .int .i64 0]) (by simp [results, Tryd.results48, go_sem, r0, r1, r2, rf]) rfl ⟨by rw [HM.out, HF.out]; try rfl, bset3 HS.out.below (by omega) _ _ _⟩
      · exact absurd hkd' hkd
      · have kq2 : (d.kind == 2) = true := by rw [hkd']; rfl
        have kq3 : (d.kind == 3) = false := by rw [hkd']; rfl
        obtain ⟨ua, rfl⟩ : ∃ ua, us = [ua] := by
          match us, (show us.length = 1 by omega) with
          | [x], _ => exact ⟨x, rfl⟩
        obtain ⟨e, es, b, off, B1, m1, B2, m2, B3, m3, hx, hA, hb, hpb, h11, hT'⟩ := kid2 HS.out.nod 0 (by omega)
        subst hA
        obtain ⟨k0, k1, k2, k3, k4, k5, k6, k7, k8, k9, k10⟩ := h11
        simp only [Nat.zero_mul, Nat.add_zero] at k0 k1 k2 k3 k4 k5 k6 k7 k8 k9 k10
        have h1 : ks = [.node e es] := by
          match ks, hl, hx with
          | [x], _, hx => simp at hx; rw [hx]
        obtain ⟨rb, HRB⟩ : ∃ z, Box (rlB (.node e es) = z) := ⟨_, ⟨rfl⟩⟩
        have HF0 : Box (finM (dcs D) d ks [ua] = if rb then (u0, 7) else if d.fn = 3 then (u0, 0) else (ua, 0)) := ⟨by unfold finM; rw [if_neg (by omega), if_pos hkd', h1, rlL, rlL, Bool.and_true, HRB.out]; rfl⟩
        have CN : Box (∀ W, TreeAt W (LowP w.heap.size) (.node e es) (.slice B1 e.ms.length m1, .slice B2 e.bys.length m2, .slice B3 es.length m3) → Calls Tryd.prog 54 #[.agg (ndC e (.slice B1 e.ms.length m1) (.slice B2 e.bys.length m2) (.slice B3 es.length m3))] W (RetB (.bool rb) W)) := ⟨fun W h => by rw [← HRB.out]; exact number_any _ _ W (.slice B1 e.ms.length m1, .slice B2 e.bys.length m2, .slice B3 es.length m3) h (HCK.out _ (List.mem_of_getElem? hx))⟩
        have HT := Box.mk hT'
        have hl0 : (0 : Int) < (ks.length : Int) := by omega
        have hul2 : (0 : Int) < (([ua] : List U3).length : Int) := by simp
        clear hT' hx hpb hb h1 hkd' hl
        go_wp2_with fail
        refine (CN.out _ HT.out).mono ?_
        rintro e5 w5 ⟨rfl, hb5⟩
        have HS5 := Box.mk (HS.out.next hb5)
        have HO5 := Box.mk (HO.out.below hb5)
        clear hb5 HS HO HT CN k0 k1 k2 k3 k4 k5 k6 k7 k8 k9 k10 c0 c1 c2 c3 c4 c5 c6 c7 c8 c9 c10
        cases rb
        · obtain ⟨c0, c1, c2, c3, c4, c5, c6, c7, c8, c9, c10⟩ := blk11z HS5.out.Q
          by_cases hf : d.fn = 3
          · have hfb : (d.fn == 3) = true := by simpa using hf
            have HF : Box (finM (dcs D) d ks [ua] = (u0, 0)) := ⟨by rw [HF0.out]; simp [hf]⟩
            clear hf
            obtain ⟨r0, r1, r2⟩ := HS5.out.R.c3
            have rf := HS5.out.R.frozen
            go_wp2_with fail
            exact bodyPost_ret (v := .tuple #[zeroU, .int .i64 0]) (by simp [results, Tryd.results48, go_sem, r0, r1, r2, rf]) rfl ⟨by rw [HM.out, HF.out]; try rfl, bset3 HS5.out.below (by omega) _ _ _⟩
          · have hfb : (d.fn == 3) = false := by simpa using hf
            have HF : Box (finM (dcs D) d ks [ua] = (ua, 0)) := ⟨by rw [HF0.out]; simp [hf]⟩
            obtain ⟨b, rfl, hb1, hb2, x0, x1, x2⟩ := HO5.out.at_ 0 ua rfl
            simp only [Nat.zero_mul, Nat.zero_add] at x0 x1 x2
            clear hf
            obtain ⟨r0, r1, r2⟩ := HS5.out.R.c3
            have rf := HS5.out.R.frozen
            go_wp2_with fail
            exact bodyPost_ret (v := .tuple #[uV ua, .int .i64 0]) (by simp [results, Tryd.results48, go_sem, r0, r1, r2, rf]) rfl ⟨by rw [HM.out, HF.out]; try rfl, bset3 HS5.out.below (by omega) _ _ _⟩
        · have HF : Box (finM (dcs D) d ks [ua] = (u0, 7)) := ⟨by rw [HF0.out]; rfl⟩
          obtain ⟨r0, r1, r2⟩ := HS5.out.R.c3
          have rf := HS5.out.R.frozen
          go_wp2_with fail
          exact bodyPost_ret (v := .tuple #[zeroU, .int .i64 7]) (by simp [results, Tryd.results48, go_sem, r0, r1, r2, rf]) rfl ⟨by rw [HM.out, HF.out]; try rfl, bset3 HS5.out.below (by omega) _ _ _⟩
      · have kq2 : (d.kind == 2) = false := by rw [hkd']; rfl
        have kq3 : (d.kind == 3) = true := by rw [hkd']; rfl
        have hlen : us.length = 2 := by omega
        rw [hlen] at HO ⊢
        obtain ⟨ua, ub, rfl⟩ : ∃ ua ub, us = [ua, ub] := by
          match us, (show us.length = 2 by omega) with
          | [x, y], _ => exact ⟨x, y, rfl⟩
        have HF : Box (finM (dcs D) d ks [ua, ub] = binM d ks [ua, ub]) := ⟨by unfold finM; rw [if_neg (by omega), if_neg (by omega), if_pos hkd']⟩
        obtain ⟨b, rfl, hb1, hb2, x0, x1, x2⟩ := HO.out.at_ 0 ua rfl
        obtain ⟨b', hA', -, -, y0, y1, y2⟩ := HO.out.at_ 1 ub rfl
        cases hA'
        simp only [Nat.zero_mul, Nat.zero_add, Nat.one_mul] at x0 x1 x2 y0 y1 y2
        obtain ⟨u, er, HU⟩ : ∃ u er, Box (binM d ks [ua, ub] = (u, er)) := ⟨_, _, ⟨rfl⟩⟩
        rw [HF.out, HU.out]
        have CC : Box (∀ W, O3 w W d ks (.slice A1 d.ms.length n1) (.slice A2 d.bys.length n2) (.slice A3 ks.length n3) (.slice AD D.length nD) D → Calls Tryd.prog 65 #[.agg (ndC d (.slice A1 d.ms.length n1) (.slice A2 d.bys.length n2) (.slice A3 ks.length n3)), uV ua, uV ub] W (RetB (.tuple #[uV u, .int .i64 er]) W)) := ⟨fun W h => by
          have := rcombined_any d ks _ _ _ ua ub _ W h.nod.tree hl HCK.out hf1 hf2
          rw [HU.out] at this
          exact this⟩
        have HSD := Box.mk HS.out.drew
        clear hkd' hl
        go_upto_region 12 with (fail)
        have HK : Box ((wr.cell? ⟨w.heap.size, 0, none⟩ = some (.int .i64 d.kind) ∧ wr.cell? ⟨w.heap.size, 1, none⟩ = some (.int .i64 d.fn) ∧ wr.cell? ⟨w.heap.size, 2, none⟩ = some (.int .i64 d.win) ∧ wr.cell? ⟨w.heap.size, 3, none⟩ = some (.int .i64 d.off) ∧ wr.cell? ⟨w.heap.size, 4, none⟩ = some (.int .i64 d.k) ∧ wr.cell? ⟨w.heap.size, 5, none⟩ = some (.int .i64 d.num) ∧ wr.cell? ⟨w.heap.size, 6, none⟩ = some (.int .i64 d.den) ∧ wr.cell? ⟨w.heap.size, 7, none⟩ = some (.string d.name) ∧ wr.cell? ⟨w.heap.size, 8, none⟩ = some (.slice A1 d.ms.length n1) ∧ wr.cell? ⟨w.heap.size, 9, none⟩ = some (.slice A2 d.bys.length n2) ∧ wr.cell? ⟨w.heap.size, 10, none⟩ = some (.slice A3 ks.length n3)) ∧ (wr.cell? ⟨b, 0, none⟩ = some (.int .i64 ua.1) ∧ wr.cell? ⟨b, 1, none⟩ = some (.int .i64 ua.2.1) ∧ wr.cell? ⟨b, 2, none⟩ = some (.int .i64 ua.2.2)) ∧ wr.cell? ⟨b, 3, none⟩ = some (.int .i64 ub.1) ∧ wr.cell? ⟨b, 3 + 1, none⟩ = some (.int .i64 ub.2.1) ∧ wr.cell? ⟨b, 3 + 2, none⟩ = some (.int .i64 ub.2.2)) := Box.mk ⟨blk11z HS.out.Q, ⟨x0, x1, x2⟩, y0, y1, y2⟩
        have hbn : b ≠ w.heap.size + 1 := by omega
        have hbn2 : w.heap.size + 1 ≠ b := by omega
        go_region_held3 (fun w' => (w'.cell? ⟨w.heap.size, 0, none⟩ = some (.int .i64 d.kind) ∧ w'.cell? ⟨w.heap.size, 1, none⟩ = some (.int .i64 d.fn) ∧ w'.cell? ⟨w.heap.size, 2, none⟩ = some (.int .i64 d.win) ∧ w'.cell? ⟨w.heap.size, 3, none⟩ = some (.int .i64 d.off) ∧ w'.cell? ⟨w.heap.size, 4, none⟩ = some (.int .i64 d.k) ∧ w'.cell? ⟨w.heap.size, 5, none⟩ = some (.int .i64 d.num) ∧ w'.cell? ⟨w.heap.size, 6, none⟩ = some (.int .i64 d.den) ∧ w'.cell? ⟨w.heap.size, 7, none⟩ = some (.string d.name) ∧ w'.cell? ⟨w.heap.size, 8, none⟩ = some (.slice A1 d.ms.length n1) ∧ w'.cell? ⟨w.heap.size, 9, none⟩ = some (.slice A2 d.bys.length n2) ∧ w'.cell? ⟨w.heap.size, 10, none⟩ = some (.slice A3 ks.length n3)) ∧ (w'.cell? ⟨b, 0, none⟩ = some (.int .i64 ua.1) ∧ w'.cell? ⟨b, 1, none⟩ = some (.int .i64 ua.2.1) ∧ w'.cell? ⟨b, 2, none⟩ = some (.int .i64 ua.2.2)) ∧ w'.cell? ⟨b, 3, none⟩ = some (.int .i64 ub.1) ∧ w'.cell? ⟨b, 3 + 1, none⟩ = some (.int .i64 ub.2.1) ∧ w'.cell? ⟨b, 3 + 2, none⟩ = some (.int .i64 ub.2.2)) (first | with_reducible exact HK5.out | with_reducible exact HK.out | go_keep)
          ((go_at_call 65
            (with_reducible refine (CC.out _ ?_).mono ?_)
            (first | with_reducible exact HS.out | with_reducible exact HSD.out)
            rintro e5 w5 ⟨rfl, hb5⟩
            have HB5 : Box (Below wr.heap.size wr w5) := Box.mk (by first | exact hb5 | exact bthen (below_drewN wr 1) hb5 (Nat.le_refl _))
            clear hb5
            have HS5 := Box.mk (HS.out.next HB5.out)
            have HK5 : Box ((w5.cell? ⟨w.heap.size, 0, none⟩ = some (.int .i64 d.kind) ∧ w5.cell? ⟨w.heap.size, 1, none⟩ = some (.int .i64 d.fn) ∧ w5.cell? ⟨w.heap.size, 2, none⟩ = some (.int .i64 d.win) ∧ w5.cell? ⟨w.heap.size, 3, none⟩ = some (.int .i64 d.off) ∧ w5.cell? ⟨w.heap.size, 4, none⟩ = some (.int .i64 d.k) ∧ w5.cell? ⟨w.heap.size, 5, none⟩ = some (.int .i64 d.num) ∧ w5.cell? ⟨w.heap.size, 6, none⟩ = some (.int .i64 d.den) ∧ w5.cell? ⟨w.heap.size, 7, none⟩ = some (.string d.name) ∧ w5.cell? ⟨w.heap.size, 8, none⟩ = some (.slice A1 d.ms.length n1) ∧ w5.cell? ⟨w.heap.size, 9, none⟩ = some (.slice A2 d.bys.length n2) ∧ w5.cell? ⟨w.heap.size, 10, none⟩ = some (.slice A3 ks.length n3)) ∧ (w5.cell? ⟨b, 0, none⟩ = some (.int .i64 ua.1) ∧ w5.cell? ⟨b, 1, none⟩ = some (.int .i64 ua.2.1) ∧ w5.cell? ⟨b, 2, none⟩ = some (.int .i64 ua.2.2)) ∧ w5.cell? ⟨b, 3, none⟩ = some (.int .i64 ub.1) ∧ w5.cell? ⟨b, 3 + 1, none⟩ = some (.int .i64 ub.2.1) ∧ w5.cell? ⟨b, 3 + 2, none⟩ = some (.int .i64 ub.2.2)) := Box.mk ⟨blk11z HS5.out.Q, ⟨bat HB5.out hb2 HK.out.2.1.1, bat HB5.out hb2 HK.out.2.1.2.1, bat HB5.out hb2 HK.out.2.1.2.2⟩, bat HB5.out hb2 HK.out.2.2.1, bat HB5.out hb2 HK.out.2.2.2.1, bat HB5.out hb2 HK.out.2.2.2.2⟩
            obtain ⟨r0, r1, r2⟩ := HS5.out.R.c3
            have rf := HS5.out.R.frozen))
        all_goals
          go_wp2_with fail
          exact bodyPost_ret (v := .tuple #[uV u, .int .i64 er]) (by simp [results, Tryd.results48, go_sem, r0, r1, r2, rf]) rfl ⟨by rw [HM.out, HF.out, HU.out], by first | exact bset3 HS5.out.below (by omega) _ _ _ | exact bdrew (bset3 HS5.out.below (by omega) _ _ _) 1⟩
end Go.Proofs.YtgomgoacponbkaaDoor
