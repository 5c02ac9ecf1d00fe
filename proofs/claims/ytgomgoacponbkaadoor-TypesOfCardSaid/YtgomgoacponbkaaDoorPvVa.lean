/- The reference 08's Selects and selected, over declarations and trees. -/
import Derived.Test.YtgomgoacponbkaaDoorPk31
set_option linter.unusedVariables false
set_option linter.unusedSimpArgs false
namespace Go.Proofs.YtgomgoacponbkaaDoor
open Go.RowKit FracM

theorem O3.from_ {w W W' : World} {d : Nd} {ks : List Tree} {mv bv kv dv : Value} {D : List Dx} (h : O3 w W d ks mv bv kv dv D) (hb : Below (w.heap.size + 2) W W') : O3 w W' d ks mv bv kv dv D :=
  ⟨h.below.trans (hb.mono (by omega)), (hb.block _ (by omega)).trans h.Q, (hb.block _ (by omega)).trans h.R, h.nod.keep (Agree.of_lt hb fun b e hp => by have : b < w.heap.size := hp; omega), h.decs.keep (Agree.of_lt hb fun b e hp => by have : b < w.heap.size := hp; omega)⟩
theorem O3.drew {w W : World} {d : Nd} {ks : List Tree} {mv bv kv dv : Value} {D : List Dx} (h : O3 w W d ks mv bv kv dv D) : O3 w W.drew d ks mv bv kv dv D := h.next (below_drewN W 1)
set_option maxHeartbeats 1000000 in
theorem rselects_any (d : Nd) (ks : List Tree) (mv bv kv : Value) (x : Dx) (P : Nat → Nat → Prop) (w : World) (hN : Nod w P d ks mv bv kv) (hx : DxOk w P x) :
    Calls Tryd.prog 81 #[.agg (ndC d mv bv kv), .agg (dcC x)] w (RetB (.bool (hitB d x.dc)) w) := by
  obtain ⟨⟨nm, ls, un⟩, lv, o⟩ := x
  obtain ⟨AL, nL, hlv, -⟩ := hx.1.form
  simp only at hlv
  subst hlv
  obtain ⟨A1, n1, hmv, -⟩ := hN.ms.form
  subst hmv
  have hb := bel2 w (.cells (ndC d (.slice A1 d.ms.length n1) bv kv) 38) (.cells (dcC ⟨(nm, ls, un), .slice AL ls.length nL, o⟩) 46)
  have HX := Box.mk (SeqP.keep hx.1 (Agree.of_below hb))
  have HM := Box.mk (hN.keep (Agree.of_below hb))
  have HQ : Box (Blk ((w.alloc (.cells (ndC d (.slice A1 d.ms.length n1) bv kv) 38)).alloc (.cells (dcC ⟨(nm, ls, un), .slice AL ls.length nL, o⟩) 46)) w.heap.size 38 (ndC d (.slice A1 d.ms.length n1) bv kv)) := ⟨(Blk.new _ _ _).alloc _⟩
  have HV : Box (Blk ((w.alloc (.cells (ndC d (.slice A1 d.ms.length n1) bv kv) 38)).alloc (.cells (dcC ⟨(nm, ls, un), .slice AL ls.length nL, o⟩) 46)) (w.heap.size + 1) 46 (dcC ⟨(nm, ls, un), .slice AL ls.length nL, o⟩)) := ⟨Blk.newAt _ _ (by simp)⟩
  have HB := Box.mk hb
  clear hb hN hx
  go_enter Tryd.func81, Tryd.ntmps81
  go_upto_region 1 with (fail)
  generalize ((w.alloc (.cells (ndC d (.slice A1 d.ms.length n1) bv kv) 38)).alloc (.cells (dcC ⟨(nm, ls, un), .slice AL ls.length nL, o⟩) 46)) = W at *
  obtain ⟨v0, v1, v2, v3, v4, v5, v6, v7, v8, v9, v10, v11⟩ := blk12 HV.out
  simp only [Nat.zero_add] at v0 v1
  clear v2 v3 v4 v5 v6 v7 v8 v9 v10 v11
  obtain ⟨c0, c1, c2, c3, c4, c5, c6, c7, c8, c9, c10⟩ := blk11 HQ.out
  simp only [Nat.zero_add] at c7 c8
  clear c0 c1 c2 c3 c4 c5 c6 c9 c10
  by_cases hn : (nm.toList == d.name.toList) = true
  · go_wp2_with fail
    refine (rmatch_any _ _ _ _ _ _ W.heap.size ls d.ms _ HX.out.seq HM.out.ms.seq).mono ?_
    rintro e w5 ⟨rfl, hb5⟩
    have HB5 := Box.mk (bthen HB.out hb5 (Nat.le_refl _))
    clear hb5 HB
    go_wp2_with fail
    go_ret
    exact ⟨ret_bool (by unfold hitB; simp only [hn, Bool.true_and]), HB5.out⟩
  · have hn2 : (nm.toList == d.name.toList) = false := by simpa using hn
    clear hn
    go_wp2_with fail
    go_ret
    exact ⟨ret_bool (by unfold hitB; simp only [hn2, Bool.false_and]), HB.out⟩
theorem lim_yes {u : U3} (h : okU u = true) : limU u = (u, 0) := by unfold limU; rw [if_pos h]
theorem lim_no {u : U3} (h : okU u = false) : limU u = (u0, 4) := by unfold limU; rw [if_neg (by rw [h]; simp)]
theorem ruv_u (u : U3) (q : Bool) (h : okU u = q) (w : World) : Calls Tryd.prog 29 #[uV u] w (RetB (.bool q) w) := by
  rw [← h, ← okU_inU]; exact ruv_any _ _ _ w
set_option maxHeartbeats 4000000 in
set_option maxRecDepth 100000 in
theorem rselected_any (d : Nd) (ks : List Tree) (mv bv kv dv : Value) (D : List Dx) (P : Nat → Nat → Prop) (w : World) (hT : TreeAt w P (.node d ks) (mv, bv, kv)) (hD : DecsAt w P dv D) (hDl : D.length ≤ 1000) :
    Calls Tryd.prog 64 #[dv, .agg (ndC d mv bv kv)] w (RetB (.tuple #[uV (selU (hits (dcs D) d) d.fn).1, .int .i64 (selU (hits (dcs D) d) d.fn).2]) w) := by
  have HS := Box.mk (O3.start hT hD)
  obtain ⟨A1, n1, rfl, l1⟩ := hT.nod.ms.form
  obtain ⟨A2, n2, rfl, -⟩ := hT.nod.bys.form
  obtain ⟨A3, n3, rfl, -⟩ := hT.nod.kform
  obtain ⟨AD, nD, rfl, hdl⟩ := hD.1.form
  clear hT hD
  go_enter Tryd.func64, Tryd.ntmps64
  go_upto_region 1 with (fail)
  generalize ((w.alloc (.cells (ndC d (.slice A1 d.ms.length n1) (.slice A2 d.bys.length n2) (.slice A3 ks.length n3)) 38)).alloc (.cells #[.int .i64 0, .int .i64 0, .int .i64 0] 23)) = W at HS ⊢
  generalize Value.slice A2 d.bys.length n2 = bv at *
  generalize Value.slice A3 ks.length n3 = kv at *
  go_wp2_with fail
  go_loopw [6, 7] (fun u v wr => ∃ (k : Nat) (us : List U3), k ≤ D.length ∧ v = .int .i64 k ∧ Box (us = hits (dcs (D.take k)) d) ∧ us.length ≤ k ∧ OwnU wr (w.heap.size + 2) u us ∧ O3 w wr d ks (.slice A1 d.ms.length n1) bv kv (.slice AD D.length nD) D) (fun _ v _ => D.length - (intOf v).toNat)
  case atStart => exact ⟨0, [], by omega, rfl, ⟨rfl⟩, by simp, World.ownsRow_nil _ _ _ _, HS.out⟩
  case round =>
    clear HS
    obtain ⟨k, us, hk, rfl, HU, hul, hown, hS⟩ := hrel
    have HS := Box.mk hS
    have HO := Box.mk hown
    have hwr := hS.R.lt
    clear hS hown
    by_cases hlt : k < D.length
    · have hlt2 : (k : Int) < (D.length : Int) := by omega
      obtain ⟨x, hx⟩ : ∃ x, D[k]? = some x := ⟨D[k], List.getElem?_eq_getElem _⟩
      obtain ⟨b, off, rfl, hb, hpb, x0, x1, x2, x3, x4, x5, x6, x7, x8, x9, x10, x11⟩ := HS.out.decs.at_ k x hx
      have hxo := HS.out.decs.2 x (List.mem_of_getElem? hx)
      have HX := Box.mk hx
      obtain ⟨⟨nm, ls, un⟩, lv, o⟩ := x
      have HXO := Box.mk hxo
      have HXC := Box.mk (And.intro x2 (And.intro x3 x4))
      obtain ⟨q, HQ⟩ : ∃ z, Box (hitB d (nm, ls, un) = z) := ⟨_, ⟨rfl⟩⟩
      have CS : Box (∀ W, O3 w W d ks (.slice A1 d.ms.length n1) bv kv (.slice (some ⟨b, off, none⟩) D.length nD) D → DxOk W (LowP w.heap.size) ⟨(nm, ls, un), lv, o⟩ → Calls Tryd.prog 81 #[.agg (ndC d (.slice A1 d.ms.length n1) bv kv), .agg (dcC ⟨(nm, ls, un), lv, o⟩)] W (RetB (.bool q) W)) := ⟨fun W h h2 => by rw [← HQ.out]; exact rselects_any d ks _ _ _ ⟨(nm, ls, un), lv, o⟩ _ W h.nod h2⟩
      have HXD : Box (DxOk wr.drew (LowP w.heap.size) ⟨(nm, ls, un), lv, o⟩) := ⟨HXO.out.1.keep (Agree.of_below (below_drewN wr 1)), HXO.out.2⟩
      have HSD := Box.mk HS.out.drew
      clear hx hxo
      simp only at x0 x1 x2 x3 x4 x5 x6 x7 x8 x9 x10 x11
      obtain ⟨c0, c1, c2, c3, c4, c5, c6, c7, c8, c9, c10⟩ := blk11z HS.out.Q
      cases q
      · go_upto_region 5 with (fail)
        go_region_with (go_at_call 81; (with_reducible refine (CS.out _ ?_ ?_).mono ?_); (first | with_reducible exact HS.out | with_reducible exact HSD.out); (first | with_reducible exact HXO.out | with_reducible exact HXD.out); rintro e w5 ⟨rfl, hb5⟩; have HB5 : Box (Below wr.heap.size wr w5) := ⟨by first | exact hb5 | exact bthen (below_drewN wr 1) hb5 (Nat.le_refl _)⟩; clear hb5)
        all_goals
          clear x0 x1 x2 x3 x4 x5 x6 x7 x8 x9 x10 x11 c0 c1 c2 c3 c4 c5 c6 c7 c8 c9 c10
          go_wp2_with fail
          go_roundw
          case rel => exact ⟨k + 1, us, by omega, by go_num, ⟨by rw [HU.out, hits_skip HX.out HQ.out]⟩, by omega, HO.out.below HB5.out, HS.out.next HB5.out⟩
          case measure => simp [intOf]; omega
      · obtain ⟨j0, hj, hy0, hy1, hy2⟩ := info_parts unitInfo
        have HJ := Box.mk (And.intro hj (And.intro hy0 (And.intro hy1 hy2)))
        clear hj hy0 hy1 hy2
        go_upto_region 5 with (fail)
        go_region_with (go_at_call 81; (with_reducible refine (CS.out _ ?_ ?_).mono ?_); (first | with_reducible exact HS.out | with_reducible exact HSD.out); (first | with_reducible exact HXO.out | with_reducible exact HXD.out); rintro e w5 ⟨rfl, hb5⟩; have HB5 : Box (Below wr.heap.size wr w5) := ⟨by first | exact hb5 | exact bthen (below_drewN wr 1) hb5 (Nat.le_refl _)⟩; clear hb5)
        all_goals
          clear x0 x1 x2 x3 x4 x5 x6 x7 x8 x9 x10 x11 c0 c1 c2 c3 c4 c5 c6 c7 c8 c9 c10
          have HO5 := Box.mk (HO.out.below HB5.out)
          have HS5 := Box.mk (HS.out.next HB5.out)
          have x2 := bat HB5.out hb HXC.out.1
          have x3 := bat HB5.out hb HXC.out.2.1
          have x4 := bat HB5.out hb HXC.out.2.2
          have hz5 := HS5.out.R.lt
          go_wp2_with (at_builtin; refine wpList_append_lies _ rfl _ _ 62 rfl (w.heap.size + 2) 23 j0 _ 3 24 Tryd.underlying62 HJ.out.1 HJ.out.2.1 HJ.out.2.2.1 HJ.out.2.2.2 rfl (by decide) u6 us.length (us.flatMap uL) rfl (by exact World.ownsRow.alloc HO5.out _) ⟨w5.heap.size, 0, none⟩ 1 1 (uL un) rfl rfl (cells3u _ _ _) (u_one _) (by decide) (by unfold maxLen; omega) (by omega) (by simp; omega) _ rfl ?_; intro g8 cap8 w6 hown6 hg6 hat6 hlt6)
          have HB6 : Box (Below (w.heap.size + 2) w5 w6) := ⟨((Below.refl _ _).alloc (by omega) _).trans (grow_lt (World.ownsRow.alloc HO5.out _) hg6 (by simp; omega))⟩
          have HO6 : Box (OwnU w6 (w.heap.size + 2) (.slice (some ⟨g8, 0, none⟩) (us.length + 1) cap8) (us ++ [un])) := ⟨by unfold OwnU; rw [List.flatMap_append]; simpa using hown6⟩
          clear hown6 hg6 hat6 hlt6 x2 x3 x4
          go_wp2_with fail
          go_roundw
          case rel => exact ⟨k + 1, us ++ [un], by omega, by go_num, ⟨by rw [HU.out, hits_take HX.out HQ.out]⟩, by simp; omega, HO6.out, HS5.out.from_ HB6.out⟩
          case measure => simp [intOf]; omega
    · have HUD : Box (hits (dcs D) d = us) := ⟨by rw [HU.out, List.take_of_length_le (by omega)]⟩
      rw [HUD.out]
      clear HU
      obtain ⟨A5, c5', hv5⟩ := HO.out.form
      subst hv5
      rcases Nat.eq_zero_or_pos us.length with h0 | h0
      · obtain rfl := List.eq_nil_of_length_eq_zero h0
        obtain ⟨r0, r1, r2⟩ := HS.out.R.c3
        have rf := HS.out.R.frozen
        go_wp2_with fail
        exact bodyPost_ret (v := .tuple #[zeroU, .int .i64 8]) (by simp [results, Tryd.results64, go_sem, r0, r1, r2, rf]) rfl ⟨by rw [HUD.out, show selU [] d.fn = (u0, 8) from rfl]; try rfl, bset3 HS.out.below (by omega) _ _ _⟩
      have hz : ((us.length : Int) == 0) = false := by rw [beq_eq_false_iff_ne]; omega
      have hz2 : ¬ (us.length : Int) = 0 := by omega
      go_wp2_with fail
      go_loopw [8] (fun v wr => ∃ k : Nat, k ≤ us.length ∧ v = .int .i64 k ∧ Box (∀ x ∈ us.take k, okU x = true) ∧ OwnU wr (w.heap.size + 2) (.slice A5 us.length c5') us ∧ O3 w wr d ks (.slice A1 d.ms.length n1) bv kv (.slice AD D.length nD) D) (fun v _ => us.length - (intOf v).toNat)
      case atStart => exact ⟨0, by omega, rfl, ⟨fun x hx => by simp at hx⟩, HO.out, HS.out⟩
      case round =>
        clear HS HO hlt
        obtain ⟨k, hk, rfl, HK, hown, hS⟩ := hrel
        have HS := Box.mk hS
        have HO := Box.mk hown
        have hwr := hS.R.lt
        clear hS hown
        by_cases hlt : k < us.length
        · have hlt2 : (k : Int) < (us.length : Int) := by omega
          obtain ⟨u, hu⟩ : ∃ u, us[k]? = some u := ⟨us[k], List.getElem?_eq_getElem _⟩
          obtain ⟨b, rfl, hb1, hb2, x0, x1, x2⟩ := HO.out.at_ k u hu
          have HUM := Box.mk hu
          clear hu
          obtain ⟨q, HQ⟩ : ∃ z, Box (okU u = z) := ⟨_, ⟨rfl⟩⟩
          go_wp2_with fail
          refine (ruv_u u q HQ.out _).mono ?_
          rintro e w5 ⟨rfl, hb5⟩
          have HS5 := Box.mk (HS.out.next hb5)
          have HO5 := Box.mk (HO.out.below hb5)
          clear hb5 HS HO x0 x1 x2
          cases q
          · obtain ⟨r0, r1, r2⟩ := HS5.out.R.c3
            have rf := HS5.out.R.frozen
            go_wp2_with fail
            exact bodyPost_ret (v := .tuple #[zeroU, .int .i64 4]) (by simp [results, Tryd.results64, go_sem, r0, r1, r2, rf]) rfl ⟨by rw [HUD.out, sel_four (List.mem_of_getElem? HUM.out) HQ.out]; try rfl, bset3 HS5.out.below (by omega) _ _ _⟩
          · go_wp2_with fail
            go_roundw
            case rel =>
              refine ⟨k + 1, by omega, by go_num, ⟨fun x hx => ?_⟩, HO5.out, HS5.out⟩
              rw [List.take_add_one, HUM.out] at hx
              rcases List.mem_append.1 hx with hx | hx
              · exact HK.out x hx
              · simp at hx; subst hx; exact HQ.out
            case measure => simp [intOf]; omega
        · have HALL : Box (∀ x ∈ us, okU x = true) := ⟨by have := HK.out; rw [List.take_of_length_le (by omega)] at this; exact this⟩
          obtain ⟨ua, hua⟩ : ∃ u, us[0]? = some u := ⟨us[0], List.getElem?_eq_getElem _⟩
          have HUA := Box.mk hua
          clear HK hua
          go_wp2_with fail
          go_loopw [9] (fun v wr => ∃ k : Nat, k ≤ us.length ∧ v = .int .i64 k ∧ Box (∀ x ∈ us.take k, x = ua) ∧ OwnU wr (w.heap.size + 2) (.slice A5 us.length c5') us ∧ O3 w wr d ks (.slice A1 d.ms.length n1) bv kv (.slice AD D.length nD) D) (fun v _ => us.length - (intOf v).toNat)
          case atStart => exact ⟨0, by omega, rfl, ⟨fun x hx => by simp at hx⟩, HO.out, HS.out⟩
          case round =>
            clear HS HO hlt
            obtain ⟨k, hk, rfl, HK, hown, hS⟩ := hrel
            have HS := Box.mk hS
            have HO := Box.mk hown
            have hwr := hS.R.lt
            clear hS hown
            by_cases hlt : k < us.length
            · have hlt2 : (k : Int) < (us.length : Int) := by omega
              have h02 : (0 : Int) < (us.length : Int) := by omega
              obtain ⟨u, hu⟩ : ∃ u, us[k]? = some u := ⟨us[k], List.getElem?_eq_getElem _⟩
              obtain ⟨b, rfl, hb1, hb2, x0, x1, x2⟩ := HO.out.at_ k u hu
              obtain ⟨b', hA', -, -, y0, y1, y2⟩ := HO.out.at_ 0 ua HUA.out
              cases hA'
              simp only [Nat.zero_mul, Nat.zero_add] at y0 y1 y2
              have HUM := Box.mk hu
              clear hu
              go_upto_region 17 with (fail)
              by_cases he : u = ua
              · have hq := fun W : World => (eq_units u ua W).trans (by rw [decide_eq_true he])
                have HE := Box.mk he
                clear he
                go_region
                all_goals
                  go_wp2_with fail
                  go_roundw
                  case rel =>
                    refine ⟨k + 1, by omega, by go_num, ⟨fun x hx => ?_⟩, HO.out.below (below_drewN _ 1), HS.out.drew⟩
                    rw [List.take_add_one, HUM.out] at hx
                    rcases List.mem_append.1 hx with hx | hx
                    · exact HK.out x hx
                    · simp at hx; subst hx; exact HE.out
                  case measure => simp [intOf]; omega
              · have hq := fun W : World => (eq_units u ua W).trans (by rw [decide_eq_false he])
                have HE := Box.mk he
                have HS5 := Box.mk (HS.out.next (below_drewN wr 1))
                clear he
                go_region
                all_goals
                  obtain ⟨r0, r1, r2⟩ := HS.out.R.c3
                  have rf := HS.out.R.frozen
                  go_wp2_with fail
                  exact bodyPost_ret (v := .tuple #[zeroU, .int .i64 7]) (by simp [results, Tryd.results64, go_sem, r0, r1, r2, rf]) rfl ⟨by rw [HUD.out, sel_seven HALL.out HUA.out (List.mem_of_getElem? HUM.out) HE.out]; try rfl, bset3 HS5.out.below (by omega) _ _ _⟩
            · have HEQ : Box (selU us d.fn = limU (if d.fn = 6 then (ua.1, ua.2.1, W64 (ua.2.2 - 1)) else ua)) := ⟨sel_fin HALL.out HUA.out (by have := HK.out; rw [List.take_of_length_le (by omega)] at this; exact this)⟩
              obtain ⟨b, rfl, hb1, hb2, x0, x1, x2⟩ := HO.out.at_ 0 ua HUA.out
              simp only [Nat.zero_mul, Nat.zero_add] at x0 x1 x2
              have h02 : (0 : Int) < (us.length : Int) := by omega
              go_upto_region 20 with (fail)
              have HS4 := Box.mk (HS.out.next (bel1 wr (.cells (uC ua) 23)))
              have HV4 : Box (Blk (wr.alloc (.cells (uC ua) 23)) wr.heap.size 23 (uC ua)) := ⟨Blk.new _ _ _⟩
              clear HS HO x0 x1 x2
              generalize wr.alloc (.cells (uC ua) 23) = W4 at *
              generalize wr.heap.size = vb at *
              obtain ⟨v0, v1, v2⟩ := HV4.out.c3
              have vf := HV4.out.frozen
              have c1 := (blk11 HS4.out.Q).2.1
              simp only [Nat.zero_add] at c1
              have hvb := HV4.out.lt
              go_upto_if 68 with (fail)
              go_cut [] (fun wx => ∃ v : U3, Box (v = (if d.fn = 6 then (ua.1, ua.2.1, W64 (ua.2.2 - 1)) else ua)) ∧ Blk wx vb 23 (uC v) ∧ O3 w wx d ks (.slice A1 d.ms.length n1) bv kv (.slice AD D.length nD) D)
              case first =>
                by_cases hf : d.fn = 6
                · have hf1 : (d.fn == 6) = true := by simpa using hf
                  obtain ⟨⟨p1, p2⟩, ⟨p3, p4⟩, p5, p6⟩ : (-3 ≤ ua.1 ∧ ua.1 ≤ 3) ∧ (-3 ≤ ua.2.1 ∧ ua.2.1 ≤ 3) ∧ -3 ≤ ua.2.2 ∧ ua.2.2 ≤ 3 := by
                    have h := HALL.out ua (List.mem_of_getElem? HUA.out)
                    unfold okU in3 at h
                    simp at h; omega
                  go_wp2_with fail
                  refine (ruDiv (m0 := ua.1) (m1 := ua.2.1) (m2 := ua.2.2 - 1) _ (by rw [Int.sub_zero]; exact W64_in (by omega) (by omega)) (by rw [Int.sub_zero]; exact W64_in (by omega) (by omega)) (W64_in (by omega) (by omega))).mono ?_
                  rintro e w5 ⟨rfl, hb5⟩
                  have HS5 := Box.mk (HS4.out.next hb5)
                  have HV5 := Box.mk (HV4.out.below hb5)
                  clear hb5 v0 v1 v2 vf c1
                  obtain ⟨v0, v1, v2⟩ := HV5.out.c3
                  have vf := HV5.out.frozen
                  go_wp2_with fail
                  go_meet
                  refine ⟨(ua.1, ua.2.1, ua.2.2 - 1), ⟨by rw [if_pos hf, W64_in (by omega) (by omega)]⟩, ((HV5.out.set 0 (.int .i64 ua.1)).set 1 (.int .i64 ua.2.1)).set 2 (.int .i64 (ua.2.2 - 1)), HS5.out.from_ (bset3 (Below.refl _ _) (by omega) _ _ _)⟩
                · have hf1 : (d.fn == 6) = false := by simpa using hf
                  go_wp2_with fail
                  go_meet
                  exact ⟨ua, ⟨by rw [if_neg hf]⟩, HV4.out, HS4.out⟩
              case rest =>
                clear HS4 HV4 v0 v1 v2 vf c1
                obtain ⟨v, hv, hblk, hS⟩ := hcut
                rename World => wd
                have HS := Box.mk hS
                have HV := Box.mk hblk
                clear hS hblk
                obtain ⟨v0, v1, v2⟩ := HV.out.c3
                obtain ⟨q, HQ⟩ : ∃ z, Box (okU v = z) := ⟨_, ⟨rfl⟩⟩
                go_wp2_with fail
                refine (ruv_u v q HQ.out _).mono ?_
                rintro e w5 ⟨rfl, hb5⟩
                have HS5 := Box.mk (HS.out.next hb5)
                have HV5 := Box.mk (HV.out.below hb5)
                clear hb5 HS HV v0 v1 v2
                obtain ⟨v0, v1, v2⟩ := HV5.out.c3
                cases q
                · have HL : Box (limU v = (u0, 4)) := ⟨lim_no HQ.out⟩
                  obtain ⟨r0, r1, r2⟩ := HS5.out.R.c3
                  have rf := HS5.out.R.frozen
                  go_wp2_with fail
                  exact bodyPost_ret (v := .tuple #[zeroU, .int .i64 4]) (by simp [results, Tryd.results64, go_sem, r0, r1, r2, rf]) rfl ⟨by rw [HUD.out, HEQ.out, ← hv.out, HL.out]; try rfl, bset3 HS5.out.below (by omega) _ _ _⟩
                · have HL : Box (limU v = (v, 0)) := ⟨lim_yes HQ.out⟩
                  obtain ⟨r0, r1, r2⟩ := HS5.out.R.c3
                  have rf := HS5.out.R.frozen
                  go_wp2_with fail
                  exact bodyPost_ret (v := .tuple #[uV v, .int .i64 0]) (by simp [results, Tryd.results64, go_sem, r0, r1, r2, rf]) rfl ⟨by rw [HUD.out, HEQ.out, ← hv.out, HL.out]; try rfl, bset3 HS5.out.below (by omega) _ _ _⟩
end Go.Proofs.YtgomgoacponbkaaDoor
