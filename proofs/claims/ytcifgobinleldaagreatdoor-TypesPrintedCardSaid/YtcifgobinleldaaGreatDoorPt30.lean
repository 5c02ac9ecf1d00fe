/- Contracts, packed: Rb. -/
import Derived.Test.YtcifgobinleldaaGreatDoorPt13
import Derived.Test.YtcifgobinleldaaGreatDoorPt29
set_option linter.unusedVariables false
set_option linter.unusedSimpArgs false
namespace Go.Proofs.YtcifgobinleldaaGreatDoor
section
open Go.RowKit FracM

theorem eq_units (u v : U3) (W : World) : (Op.equalIn 10000 61 (uV u) (uV v)).run Tryz.prog W = .ok (decide (u = v)) W := by
  obtain ⟨x, y, z⟩ := u
  obtain ⟨x', y', z'⟩ := v
  have h : (Op.equalIn 10000 61 (uV (x, y, z)) (uV (x', y', z'))).run Tryz.prog W = .ok ((x == x') && (y == y') && (z == z')) W := by
    obtain ⟨i, hi⟩ : ∃ i, Tryz.prog.info? 3 = some i := Option.isSome_iff_exists.1 (by kernel_rfl)
    have hc : Tryz.prog.cellsOf 3 = 1 := by kernel_rfl
    rw [show (10000 : Nat) = 9999 + 1 from rfl, run_equalIn_array W 9999 _ _ Tryz.underlying61 hi, hc, show List.range 3 = [0, 1, 2] from rfl]
    have h1 : ∀ x y : Int, ∀ w, (Op.equalIn 9999 3 (.int .i64 x) (.int .i64 y)).run Tryz.prog w = .ok (x == y) w := fun x y w => run_equalIn_int w 9998 _ _ _ _ _ Tryz.underlying3
    simp only [Op.eqItems, go_sem, h1]
    by_cases e1 : x = x' <;> by_cases e2 : y = y' <;> by_cases e3 : z = z' <;> simp [go_sem, h1, e1, e2, e3]
  refine h.trans (congrArg (fun b => Result.ok b W) ?_)
  rw [Bool.eq_iff_iff]; simp [and_assoc]
/-- a row of units -/
def OwnU (w : World) (B : Nat) (v : Value) (us : List U3) : Prop := w.ownsRow B 61 3 v us.length (us.flatMap uL)
theorem OwnU.at_ {w : World} {B : Nat} {A : Option Addr} {n c : Nat} {us : List U3} (h : OwnU w B (.slice A n c) us) (k : Nat) (u : U3) (hk : us[k]? = some u) : ∃ b, A = some ⟨b, 0, none⟩ ∧ B ≤ b ∧ b < w.heap.size ∧ w.cell? ⟨b, k * 3, none⟩ = some (.int .i64 u.1) ∧ w.cell? ⟨b, k * 3 + 1, none⟩ = some (.int .i64 u.2.1) ∧ w.cell? ⟨b, k * 3 + 2, none⟩ = some (.int .i64 u.2.2) := by
  have hlt : k < us.length := (List.getElem?_eq_some_iff.1 hk).1
  obtain ⟨_, A', c', hv, _, _, h2⟩ := SeqP.of_own (P := fun b e => B ≤ b) h fun b c hb _ => hb
  cases hv
  obtain ⟨b, off, rfl, hb, hp, hx⟩ := h2 (by omega)
  have ho : off = 0 := by
    rcases h.2 with ⟨hn, _⟩ | ⟨g', cap, cur, hv, _⟩
    · cases hn
    · cases hv; rfl
  subst ho
  have g := fun j (hj : j < 3) => flat_get uL 3 (fun _ => rfl) us k j _ hk hj
  refine ⟨b, rfl, hp, hb, ?_, ?_, ?_⟩
  · have := hx _ _ ((g 0 (by omega)).trans rfl); simpa using this
  · have := hx _ _ ((g 1 (by omega)).trans rfl); simpa using this
  · have := hx _ _ ((g 2 (by omega)).trans rfl); simpa using this
theorem OwnU.form {w : World} {B : Nat} {v : Value} {us : List U3} (h : OwnU w B v us) : ∃ A c, v = .slice A us.length c := own_form h
theorem OwnU.below {w w' : World} {B : Nat} {v : Value} {us : List U3} (h : OwnU w B v us) (hb : Below w.heap.size w w') : OwnU w' B v us := own_below h hb
theorem cells3u (w : World) (t : TypeId) (u : U3) : ∀ j v, (uL u)[j]? = some v → (w.alloc (.cells (uC u) t)).cell? ((⟨w.heap.size, 0, none⟩ : Addr).add j) = some v := cells3 w t _ _ _
theorem u_one (u : U3) : ∀ v ∈ uL u, v.oneCell' = true := by
  intro v hv
  simp [uL] at hv
  rcases hv with rfl | rfl | rfl <;> rfl
theorem sel_four {us : List U3} {fn : Int} {x : U3} (hx : x ∈ us) (h : okU x = false) : selU us fn = (u0, 4) := by
  cases us with
  | nil => simp at hx
  | cons u us =>
    unfold selU
    have : (u :: us).all okU = false := by
      rw [Bool.eq_false_iff]; intro ha
      rw [List.all_eq_true] at ha
      rw [ha x hx] at h; cases h
    simp only [this, if_true]
theorem sel_seven {u : U3} {us : List U3} {fn : Int} {x : U3} (ha : ∀ y ∈ us, okU y = true) (hu : us[0]? = some u) (hx : x ∈ us) (h : x ≠ u) : selU us fn = (u0, 7) := by
  cases us with
  | nil => simp at hx
  | cons v us =>
    simp at hu
    subst hu
    unfold selU
    have h1 : (v :: us).all okU = true := by rw [List.all_eq_true]; exact ha
    have h2 : us.all (fun y => y == v) = false := by
      rw [Bool.eq_false_iff]; intro hb
      rw [List.all_eq_true] at hb
      rcases List.mem_cons.1 hx with e | e
      · exact h e
      · exact h (eq_of_beq (hb x e))
    simp only [h1, h2, if_true]
    rfl
theorem sel_fin {u : U3} {us : List U3} {fn : Int} (ha : ∀ y ∈ us, okU y = true) (hu : us[0]? = some u) (hx : ∀ y ∈ us, y = u) : selU us fn = limU (if fn = 6 then (u.1, u.2.1, W64 (u.2.2 - 1)) else u) := by
  cases us with
  | nil => simp at hu
  | cons v us =>
    simp at hu
    subst hu
    unfold selU
    have h1 : (v :: us).all okU = true := by rw [List.all_eq_true]; exact ha
    have h2 : us.all (fun y => y == v) = true := by
      rw [List.all_eq_true]; intro y hy
      rw [hx y (by simp [hy])]; exact beq_self_eq_true v
    simp only [h1, h2]
    rfl
theorem hits_skip {D : List Dx} {d : Nd} {k : Nat} {x : Dx} (hx : D[k]? = some x) (h : hitB d x.dc = false) : hits (dcs (D.take (k + 1))) d = hits (dcs (D.take k)) d := by
  unfold hits dcs
  rw [List.take_add_one, hx]; simp [h]
theorem hits_take {D : List Dx} {d : Nd} {k : Nat} {x : Dx} (hx : D[k]? = some x) (h : hitB d x.dc = true) : hits (dcs (D.take (k + 1))) d = hits (dcs (D.take k)) d ++ [x.dc.2.2] := by
  unfold hits dcs
  rw [List.take_add_one, hx]; simp [h]
set_option maxHeartbeats 4000000 in
set_option maxRecDepth 100000 in
theorem selected_any (g : Nat) (d : Nd) (ks : List Tree) (mv bv kv dv : Value) (D : List Dx) (P : Nat → Nat → Prop) (w : World) (hg : Blk w g 133 #[dv, .int .i64 0]) (hT : TreeAt w P (.node d ks) (mv, bv, kv)) (hD : DecsAt w P dv D) (hP : ∀ b e, P b e → b < w.heap.size ∧ b ≠ g) (hDl : D.length ≤ 1000) :
    Calls Tryz.prog 124 #[.pointer (some ⟨g, 0, none⟩), .agg (ndC d mv bv kv)] w (RetT g (uV (selU (hits (dcs D) d) d.fn).1) #[dv, .int .i64 (selU (hits (dcs D) d) d.fn).2] w) := by
  have hgw := hg.lt
  have hPg : ∀ b e, P b e → b ≠ g := fun b e h => (hP b e h).2
  have hPl : ∀ b e, P b e → b < w.heap.size := fun b e h => (hP b e h).1
  have HPG := Box.mk hPg
  have HPL := Box.mk hPl
  have HS := Box.mk (S2.start hg hT hD)
  obtain ⟨A1, n1, rfl, l1⟩ := hT.nod.ms.form
  obtain ⟨A2, n2, rfl, -⟩ := hT.nod.bys.form
  obtain ⟨A3, n3, rfl, -⟩ := hT.nod.kform
  obtain ⟨AD, nD, rfl, hdl⟩ := hD.1.form
  clear hT hD hg hP
  go_enter Tryz.func124, Tryz.ntmps124
  go_upto_region 1 with (fail)
  generalize ((w.alloc (.cells (ndC d (.slice A1 d.ms.length n1) (.slice A2 d.bys.length n2) (.slice A3 ks.length n3)) 33)).alloc (.cells #[.int .i64 0, .int .i64 0, .int .i64 0] 61)) = W at HS ⊢
  generalize Value.slice A2 d.bys.length n2 = bv at *
  generalize Value.slice A3 ks.length n3 = kv at *
  obtain ⟨t0, t1⟩ := HS.out.T.c2
  clear hPg hPl
  go_wp2_with fail
  go_loopw [5, 19] (fun u v wr => ∃ (k : Nat) (us : List U3), k ≤ D.length ∧ v = .int .i64 k ∧ Box (us = hits (dcs (D.take k)) d) ∧ us.length ≤ k ∧ OwnU wr (w.heap.size + 2) u us ∧ S2 g w wr P d ks (.slice A1 d.ms.length n1) bv kv (.slice AD D.length nD) D 0) (fun _ v _ => D.length - (intOf v).toNat)
  case atStart => exact ⟨0, [], by omega, rfl, ⟨rfl⟩, by simp, World.ownsRow_nil _ _ _ _, HS.out⟩
  case round =>
    clear HS t0 t1
    obtain ⟨k, us, hk, rfl, HU, hul, hown, hS⟩ := hrel
    have HS := Box.mk hS
    have HO := Box.mk hown
    have hwr := hS.R.lt
    clear hS hown
    by_cases hlt : k < D.length
    · have hlt2 : (k : Int) < (D.length : Int) := by omega
      obtain ⟨x, hx⟩ : ∃ x, D[k]? = some x := ⟨D[k], List.getElem?_eq_getElem _⟩
      obtain ⟨b, off, rfl, hb, hpb, x0, x1, x2, x3, x4, x5, x6, x7, x8, x9, x10, x11⟩ := HS.out.decs.at_ k x hx
      have hxo := HS.out.decs.2 x (List.mem_of_getElem? hx)
      have HX := Box.mk hx
      obtain ⟨⟨nm, ls, un⟩, lv, o⟩ := x
      obtain ⟨AL, nL, hlv, -⟩ := hxo.1.form
      simp only at hlv
      subst hlv
      have HXO := Box.mk hxo.1
      clear hx hxo
      simp only at x0 x1 x2 x3 x4 x5 x6 x7 x8 x9 x10 x11
      go_upto_region 5 with (fail)
      have HS4 := Box.mk (HS.out.below (bel1 wr (.cells (dcC ⟨(nm, ls, un), .slice AL ls.length nL, o⟩) 63)))
      have HO4 := Box.mk (HO.out.below (bel1 wr (.cells (dcC ⟨(nm, ls, un), .slice AL ls.length nL, o⟩) 63)))
      have HX4 := Box.mk (SeqP.keep HXO.out (Agree.of_below (bel1 wr (.cells (dcC ⟨(nm, ls, un), .slice AL ls.length nL, o⟩) 63))))
      have HV4 : Box (Blk (wr.alloc (.cells (dcC ⟨(nm, ls, un), .slice AL ls.length nL, o⟩) 63)) wr.heap.size 63 (dcC ⟨(nm, ls, un), .slice AL ls.length nL, o⟩)) := ⟨Blk.new _ _ _⟩
      clear HS HO HXO x0 x1 x2 x3 x4 x5 x6 x7 x8 x9 x10 x11
      generalize wr.alloc (.cells (dcC ⟨(nm, ls, un), .slice AL ls.length nL, o⟩) 63) = W4 at *
      generalize wr.heap.size = vb at *
      obtain ⟨v0, v1, v2, v3, v4, v5, v6, v7, v8, v9, v10, v11⟩ := blk12 HV4.out
      simp only [Nat.zero_add] at v0 v1 v2 v3 v4
      clear v5 v6 v7 v8 v9 v10 v11
      obtain ⟨c0, c1, c2, c3, c4, c5, c6, c7, c8, c9, c10⟩ := blk11 HS4.out.Q
      simp only [Nat.zero_add] at c7 c8
      clear c0 c1 c2 c3 c4 c5 c6 c9 c10
      by_cases hn : (nm.toList == d.name.toList) = true
      · go_wp2_with fail
        refine (match_any _ _ _ _ _ _ W4.heap.size ls d.ms _ HX4.out.seq HS4.out.nod.ms.seq).mono ?_
        rintro e w5 ⟨rfl, hb5⟩
        have HS5 := Box.mk (HS4.out.below hb5)
        have HO5 := Box.mk (HO4.out.below hb5)
        have HV5 := Box.mk (HV4.out.below hb5)
        obtain ⟨q, HQ⟩ : ∃ z, Box (matchB ls d.ms = z) := ⟨_, ⟨rfl⟩⟩
        rw [HQ.out]
        clear hb5 HS4 HO4 HV4 HX4 v0 v1 v2 v3 v4 c7 c8
        cases q
        · have HH : Box (hitB d (nm, ls, un) = false) := ⟨by unfold hitB; simp only [hn, HQ.out]; rfl⟩
          go_wp2_with fail
          go_roundw
          case rel => exact ⟨k + 1, us, by omega, by go_num, ⟨by rw [HU.out, hits_skip HX.out HH.out]⟩, by omega, HO5.out, HS5.out⟩
          case measure => simp [intOf]; omega
        · have HH : Box (hitB d (nm, ls, un) = true) := ⟨by unfold hitB; simp only [hn, HQ.out]; rfl⟩
          obtain ⟨v0, v1, v2, v3, v4, v5, v6, v7, v8, v9, v10, v11⟩ := blk12 HV5.out
          simp only [Nat.zero_add] at v0 v1 v2 v3 v4
          clear v5 v6 v7 v8 v9 v10 v11
          obtain ⟨j0, hj, hy0, hy1, hy2⟩ := info_parts unitInfo
          have HJ := Box.mk (And.intro hj (And.intro hy0 (And.intro hy1 hy2)))
          clear hj hy0 hy1 hy2
          have hz5 := HS5.out.R.lt
          go_wp2_with (at_builtin; refine wpList_append_lies _ rfl _ _ 83 rfl (w.heap.size + 2) 61 j0 _ 3 24 Tryz.underlying83 HJ.out.1 HJ.out.2.1 HJ.out.2.2.1 HJ.out.2.2.2 rfl (by decide) u5 us.length (us.flatMap uL) rfl (by exact World.ownsRow.alloc HO5.out _) ⟨w5.heap.size, 0, none⟩ 1 1 (uL un) rfl rfl (cells3u _ _ _) (u_one _) (by decide) (by unfold maxLen; omega) (by omega) (by simp; omega) _ rfl ?_; intro g8 cap8 w6 hown6 hg6 hat6 hlt6)
          have HB6 : Box (Below (w.heap.size + 2) w5 w6) := ⟨((Below.refl _ _).alloc (by omega) _).trans (grow_lt (World.ownsRow.alloc HO5.out _) hg6 (by simp; omega))⟩
          have HO6 : Box (OwnU w6 (w.heap.size + 2) (.slice (some ⟨g8, 0, none⟩) (us.length + 1) cap8) (us ++ [un])) := ⟨by unfold OwnU; rw [List.flatMap_append]; simpa using hown6⟩
          clear hown6 hg6 hat6 hlt6
          go_wp2_with fail
          go_roundw
          case rel => exact ⟨k + 1, us ++ [un], by omega, by go_num, ⟨by rw [HU.out, hits_take HX.out HH.out]⟩, by simp; omega, HO6.out, HS5.out.from_ hgw HPL.out HB6.out⟩
          case measure => simp [intOf]; omega
      · have hn2 : (nm.toList == d.name.toList) = false := by simpa using hn
        have HH : Box (hitB d (nm, ls, un) = false) := ⟨by unfold hitB; simp only [hn2]; rfl⟩
        clear hn
        go_wp2_with fail
        go_roundw
        case rel => exact ⟨k + 1, us, by omega, by go_num, ⟨by rw [HU.out, hits_skip HX.out HH.out]⟩, by omega, HO4.out, HS4.out⟩
        case measure => simp [intOf]; omega
    · have HUD : Box (hits (dcs D) d = us) := ⟨by rw [HU.out, List.take_of_length_le (by omega)]⟩
      rw [HUD.out]
      clear HU
      obtain ⟨A5, c5', hv5⟩ := HO.out.form
      subst hv5
      have hPg := HPG.out
      rcases Nat.eq_zero_or_pos us.length with h0 | h0
      · obtain rfl := List.eq_nil_of_length_eq_zero h0
        go_wp2_with fail
        refine (fail_any g _ _ _ HS.out.T).mono ?_
        rintro e w5 ⟨rfl, hT5, ho5⟩
        have HS5 := Box.mk (HS.out.next hgw hPg ho5 hT5)
        clear hT5 ho5
        obtain ⟨r0, r1, r2⟩ := HS5.out.R.c3
        have rf := HS5.out.R.frozen
        go_wp2_with fail
        exact bodyPost_ret (v := zeroU) (by simp [results, Tryz.results124, go_sem, r0, r1, r2, rf]) rfl (by rw [HUD.out, show selU [] d.fn = (u0, 8) from rfl]; exact HS5.out.fin hgw _ _ _ _)
      have hz : ((us.length : Int) == 0) = false := by rw [beq_eq_false_iff_ne]; omega
      have hz2 : ¬ (us.length : Int) = 0 := by omega
      go_wp2_with fail
      go_loopw [50] (fun v wr => ∃ k : Nat, k ≤ us.length ∧ v = .int .i64 k ∧ Box (∀ x ∈ us.take k, okU x = true) ∧ OwnU wr (w.heap.size + 2) (.slice A5 us.length c5') us ∧ S2 g w wr P d ks (.slice A1 d.ms.length n1) bv kv (.slice AD D.length nD) D 0) (fun v _ => us.length - (intOf v).toNat)
      case atStart => exact ⟨0, by omega, rfl, ⟨fun x hx => by simp at hx⟩, HO.out, HS.out⟩
      case round =>
        clear HS HO hlt
        obtain ⟨k, hk, rfl, HK, hown, hS⟩ := hrel
        have HS := Box.mk hS
        have HO := Box.mk hown
        have hwr := hS.R.lt
        clear hS hown
        by_cases hlt : k < us.length
        · have hlt2 : (k : Int) < (us.length : Int) := by omega
          obtain ⟨u, hu⟩ : ∃ u, us[k]? = some u := ⟨us[k], List.getElem?_eq_getElem _⟩
          obtain ⟨b, rfl, hb1, hb2, x0, x1, x2⟩ := HO.out.at_ k u hu
          have HUM := Box.mk hu
          clear hu
          go_upto_region 13 with (fail)
          have HS4 := Box.mk (HS.out.below (bel1 wr (.cells (uC u) 61)))
          have HO4 := Box.mk (HO.out.below (bel1 wr (.cells (uC u) 61)))
          have HV4 : Box (Blk (wr.alloc (.cells (uC u) 61)) wr.heap.size 61 (uC u)) := ⟨Blk.new _ _ _⟩
          clear HS HO x0 x1 x2
          generalize wr.alloc (.cells (uC u) 61) = W4 at *
          generalize wr.heap.size = vb at *
          obtain ⟨v0, v1, v2⟩ := HV4.out.c3
          go_wp2_with fail
          refine (uv_any _ _ _ _).mono ?_
          rintro e w5 ⟨rfl, hb5⟩
          rw [okU_inU u]
          have HS5' := Box.mk (HS4.out.below hb5)
          have HO5 := Box.mk (HO4.out.below hb5)
          obtain ⟨q, HQ⟩ : ∃ z, Box (okU u = z) := ⟨_, ⟨rfl⟩⟩
          rw [HQ.out]
          clear hb5 HS4 HO4 HV4 v0 v1 v2
          cases q
          · go_wp2_with fail
            refine (fail_any g _ _ _ HS5'.out.T).mono ?_
            rintro e w5 ⟨rfl, hT5, ho5⟩
            have HS5 := Box.mk (HS5'.out.next hgw hPg ho5 hT5)
            clear hT5 ho5
            obtain ⟨r0, r1, r2⟩ := HS5.out.R.c3
            have rf := HS5.out.R.frozen
            go_wp2_with fail
            exact bodyPost_ret (v := zeroU) (by simp [results, Tryz.results124, go_sem, r0, r1, r2, rf]) rfl (by rw [HUD.out, sel_four (List.mem_of_getElem? HUM.out) HQ.out]; exact HS5.out.fin hgw _ _ _ _)
          · go_wp2_with fail
            go_roundw
            case rel =>
              refine ⟨k + 1, by omega, by go_num, ⟨fun x hx => ?_⟩, HO5.out, HS5'.out⟩
              rw [List.take_add_one, HUM.out] at hx
              rcases List.mem_append.1 hx with hx | hx
              · exact HK.out x hx
              · simp at hx; subst hx; exact HQ.out
            case measure => simp [intOf]; omega
        · have HALL : Box (∀ x ∈ us, okU x = true) := ⟨by have := HK.out; rw [List.take_of_length_le (by omega)] at this; exact this⟩
          obtain ⟨ua, hua⟩ : ∃ u, us[0]? = some u := ⟨us[0], List.getElem?_eq_getElem _⟩
          have HUA := Box.mk hua
          clear HK hua
          go_wp2_with fail
          go_loopw [64] (fun v wr => ∃ k : Nat, k ≤ us.length ∧ v = .int .i64 k ∧ Box (∀ x ∈ us.take k, x = ua) ∧ OwnU wr (w.heap.size + 2) (.slice A5 us.length c5') us ∧ S2 g w wr P d ks (.slice A1 d.ms.length n1) bv kv (.slice AD D.length nD) D 0) (fun v _ => us.length - (intOf v).toNat)
          case atStart => exact ⟨0, by omega, rfl, ⟨fun x hx => by simp at hx⟩, HO.out, HS.out⟩
          case round =>
            clear HS HO hlt
            obtain ⟨k, hk, rfl, HK, hown, hS⟩ := hrel
            have HS := Box.mk hS
            have HO := Box.mk hown
            have hwr := hS.R.lt
            clear hS hown
            by_cases hlt : k < us.length
            · have hlt2 : (k : Int) < (us.length : Int) := by omega
              have h02 : (0 : Int) < (us.length : Int) := by omega
              obtain ⟨u, hu⟩ : ∃ u, us[k]? = some u := ⟨us[k], List.getElem?_eq_getElem _⟩
              obtain ⟨b, rfl, hb1, hb2, x0, x1, x2⟩ := HO.out.at_ k u hu
              obtain ⟨b', hA', -, -, y0, y1, y2⟩ := HO.out.at_ 0 ua HUA.out
              cases hA'
              simp only [Nat.zero_mul, Nat.zero_add] at y0 y1 y2
              have HUM := Box.mk hu
              clear hu
              go_upto_region 19 with (fail)
              have HS4 := Box.mk (HS.out.below (bel1 wr (.cells (uC u) 61)))
              have HO4 := Box.mk (HO.out.below (bel1 wr (.cells (uC u) 61)))
              have HV4 : Box (Blk (wr.alloc (.cells (uC u) 61)) wr.heap.size 61 (uC u)) := ⟨Blk.new _ _ _⟩
              have z0 := cell_alloc' (.cells (uC u) 61) y0
              have z1 := cell_alloc' (.cells (uC u) 61) y1
              have z2 := cell_alloc' (.cells (uC u) 61) y2
              clear HS HO x0 x1 x2 y0 y1 y2
              generalize wr.alloc (.cells (uC u) 61) = W4 at *
              generalize wr.heap.size = vb at *
              obtain ⟨v0, v1, v2⟩ := HV4.out.c3
              by_cases he : u = ua
              · have hq := fun W : World => (eq_units u ua W).trans (by rw [decide_eq_true he])
                have HE := Box.mk he
                clear he
                go_region
                all_goals
                  go_wp2_with fail
                  go_roundw
                  case rel =>
                    refine ⟨k + 1, by omega, by go_num, ⟨fun x hx => ?_⟩, HO4.out.below (below_drewN _ 1), HS4.out.below (below_drewN _ 1)⟩
                    rw [List.take_add_one, HUM.out] at hx
                    rcases List.mem_append.1 hx with hx | hx
                    · exact HK.out x hx
                    · simp at hx; subst hx; exact HE.out
                  case measure => simp [intOf]; omega
              · have hq := fun W : World => (eq_units u ua W).trans (by rw [decide_eq_false he])
                have HE := Box.mk he
                have HS6 := Box.mk (HS4.out.below (below_drewN W4 1))
                clear he
                go_region
                all_goals
                  go_wp2_with fail
                  refine (fail_any g _ _ _ HS6.out.T).mono ?_
                  rintro e w5 ⟨rfl, hT5, ho5⟩
                  have HS5 := Box.mk (HS6.out.next hgw hPg ho5 hT5)
                  clear hT5 ho5
                  obtain ⟨r0, r1, r2⟩ := HS5.out.R.c3
                  have rf := HS5.out.R.frozen
                  go_wp2_with fail
                  exact bodyPost_ret (v := zeroU) (by simp [results, Tryz.results124, go_sem, r0, r1, r2, rf]) rfl (by rw [HUD.out, sel_seven HALL.out HUA.out (List.mem_of_getElem? HUM.out) HE.out]; exact HS5.out.fin hgw _ _ _ _)
            · have HEQ : Box (selU us d.fn = limU (if d.fn = 6 then (ua.1, ua.2.1, W64 (ua.2.2 - 1)) else ua)) := ⟨sel_fin HALL.out HUA.out (by have := HK.out; rw [List.take_of_length_le (by omega)] at this; exact this)⟩
              obtain ⟨b, rfl, hb1, hb2, x0, x1, x2⟩ := HO.out.at_ 0 ua HUA.out
              simp only [Nat.zero_mul, Nat.zero_add] at x0 x1 x2
              have h02 : (0 : Int) < (us.length : Int) := by omega
              go_upto_region 23 with (fail)
              have HS4 := Box.mk (HS.out.below (bel1 wr (.cells (uC ua) 61)))
              have HV4 : Box (Blk (wr.alloc (.cells (uC ua) 61)) wr.heap.size 61 (uC ua)) := ⟨Blk.new _ _ _⟩
              clear HS HO x0 x1 x2
              generalize wr.alloc (.cells (uC ua) 61) = W4 at *
              generalize wr.heap.size = vb at *
              obtain ⟨v0, v1, v2⟩ := HV4.out.c3
              have vf := HV4.out.frozen
              have c1 := (blk11 HS4.out.Q).2.1
              simp only [Nat.zero_add] at c1
              have hvb := HV4.out.lt
              have hvg : vb ≠ g := by omega
              go_upto_if 83 with (fail)
              go_cut [] (fun wx => ∃ v : U3, Box (v = (if d.fn = 6 then (ua.1, ua.2.1, W64 (ua.2.2 - 1)) else ua)) ∧ Blk wx vb 61 (uC v) ∧ S2 g w wx P d ks (.slice A1 d.ms.length n1) bv kv (.slice AD D.length nD) D 0)
              case first =>
                by_cases hf : d.fn = 6
                · have hf1 : (d.fn == 6) = true := by simpa using hf
                  obtain ⟨-, -, hu1, hu2⟩ := okU_in (HALL.out ua (List.mem_of_getElem? HUA.out))
                  go_wp2_with fail
                  go_meet
                  refine ⟨(ua.1, ua.2.1, ua.2.2 - 1), ⟨by rw [if_pos hf, W64_in (by omega) (by omega)]⟩, HV4.out.set 2 (.int .i64 (ua.2.2 - 1)), HS4.out.from_ hgw HPL.out ((Below.refl _ _).setCell (p := ⟨vb, 2, none⟩) (by simp only; omega) _)⟩
                · have hf1 : (d.fn == 6) = false := by simpa using hf
                  go_wp2_with fail
                  go_meet
                  exact ⟨ua, ⟨by rw [if_neg hf]⟩, HV4.out, HS4.out⟩
              case rest =>
                clear HS4 HV4 v0 v1 v2 vf c1
                obtain ⟨v, hv, hblk, hS⟩ := hcut
                rename World => wd
                have HS := Box.mk hS
                have HV := Box.mk hblk
                clear hS hblk
                obtain ⟨v0, v1, v2⟩ := HV.out.c3
                go_upto_region 25 with (fail)
                go_region_with (go_at_call 169; refine (limited_any g _ v _ (by first | exact HS.out.T | exact HS.out.T.drew)).mono ?_; rintro e w5 ⟨rfl, hT5, ho5⟩; have HS5 := Box.mk (HS.out.next hgw hPg (by first | exact ho5 | exact (Only.of_below (below_drewN wd 1)).trans ho5) hT5); clear hT5 ho5; obtain ⟨r0, r1, r2⟩ := HS5.out.R.c3; have rf := HS5.out.R.frozen)
                all_goals
                  go_wp2_with fail
                  exact bodyPost_ret (v := uV (limU v).1) (by simp [results, Tryz.results124, go_sem, r0, r1, r2, rf]) rfl (by rw [HUD.out, HEQ.out, ← hv.out]; exact HS5.out.fin hgw _ _ _ _)
end
end Go.Proofs.YtcifgobinleldaaGreatDoor
