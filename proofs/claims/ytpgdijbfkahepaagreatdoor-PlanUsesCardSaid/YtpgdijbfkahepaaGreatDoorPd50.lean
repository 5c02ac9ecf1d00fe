/- Contracts, packed: Bu. -/
import Derived.Test.YtpgdijbfkahepaaGreatDoorPd49
import Derived.BigQuiet
set_option linter.unusedVariables false
set_option linter.unusedSimpArgs false
namespace Go.Proofs.YtpgdijbfkahepaaGreatDoor
section
open Go.RowKit FracM
set_option maxHeartbeats 16000000 in
set_option maxRecDepth 100000 in
theorem puses_any (l : List Nd) (pv : Value) (D : List Dx) (dv : Value) (w : World) (hp : PlanP w AnyP pv l) (hsm : ∀ d ∈ l, d.ms.length ≤ 1000000 ∧ d.bys.length ≤ 1000000) (hd : DecsAt w AnyP dv D) (hDl : D.length ≤ 1000) (hw : WordsG w) : Calls Tryz.prog 9 #[pv, dv] w (RetUs (usesM l D) w) := by
 obtain ⟨A, c, rfl, -⟩ := hp.form
 obtain ⟨AD, cD, rfl, -⟩ := hd.1.form
 obtain ⟨er, her⟩ : ∃ er, (treeM l).2 = er := ⟨_, rfl⟩
 have CK : Box (Calls Tryz.prog 18 #[.slice A l.length c] w (RetB (.int .i64 er) w)) := ⟨by rw [← her]; exact pcheck_any l _ w hp hsm hw⟩
 have HP : Box (PlanP w (fun b _ => b < w.heap.size) (.slice A l.length c) l ∧ DecsAt w (fun b _ => b < w.heap.size) (.slice AD D.length cD) D) := ⟨hp.mono fun _ _ hb _ => hb, hd.mono fun _ _ hb _ => hb⟩
 have HER := Box.mk her
 clear hp hsm hw her hd
 go_enter Tryz.func9, Tryz.ntmps9
 go_wp2_with fail
 refine (CK.out).mono ?_
 rintro e1 w1 ⟨rfl, hb⟩
 have HB1 := Box.mk hb
 clear hb CK
 by_cases h0 : er = 0
 ·subst h0
  have HEN : Box (usesM l D = usesL l D) := ⟨if_pos HER.out⟩
  have hn200 := (plan_small2 HER.out)
  obtain ⟨j0, hj, hy0, hy1, hy2⟩ := info_parts intInfo
  have hmk : (Instr.makeSlice 22 (.int .i64 (D.length : Int)) (.int .i64 (D.length : Int))).run Tryz.prog w1 = .ok (.slice (some ⟨w1.heap.size, 0, none⟩) D.length D.length) (w1.alloc (.cells (intsA (List.replicate D.length 0)) 3)) := by
   have h := run_make (P := Tryz.prog) w1 22 3 j0 (.int .i64 0) Tryz.underlying22 hj hy0 .i64 .i64 (D.length : Int) (D.length : Int) (by omega) (by omega) (by rw [hy2]; omega) (by omega)
   rw [hy1, Int.toNat_natCast, Nat.mul_one, show (Value.int IntKind.i64 0).cells = #[Value.int .i64 0] from rfl, made_zero] at h
   exact h
  clear hj hy0 hy1 hy2
  have HS0 : Box (UsS w (w1.alloc (.cells (intsA (List.replicate D.length 0)) 3)) w1.heap.size (.slice A l.length c) l (.slice AD D.length cD) D (usesL (l.take 0) D)) := ⟨⟨bthen HB1.out (bel1 _ _) (Nat.le_refl _), (HP.out.1.belo HB1.out).belo (bel1 _ _), (HP.out.2.keep (Agree.of_below HB1.out)).keep (Agree.of_below (bel1 _ _)), by rw [List.take_zero, usesL_none]; exact Blk.new _ _ _, HB1.out.size⟩⟩
  clear HP HB1
  go_upto_region 4 with (fail)
  obtain ⟨g, hg⟩ : ∃ g, w1.heap.size = g := ⟨_, rfl⟩
  rw [hg] at HS0 ⊢
  clear hg hmk
  generalize w1.alloc (.cells (intsA (List.replicate D.length 0)) 3) = W0 at HS0 ⊢
  go_wp2_with fail
  go_loopw [17] (fun z wr => ∃ k : Nat, k ≤ l.length ∧ z = .int .i64 (k : Nat) ∧ Box (UsS w wr g (.slice A l.length c) l (.slice AD D.length cD) D (usesL (l.take k) D))) (fun z _ => l.length - (intOf z).toNat)
  case atStart => exact ⟨0, by omega, rfl, HS0⟩
  case round =>
   clear HS0
   rename World => wr
   obtain ⟨k, hk, rfl, HS⟩ := hrel
   by_cases hlt : k < l.length
   ·have hlt2 : (k : Int) < (l.length : Int) := by omega
    obtain ⟨d, hd⟩ : ∃ d, l[k]? = some d := ⟨l[k], List.getElem?_eq_getElem _⟩
    obtain ⟨pb, po, mv0, bv0, hA, -, -, ⟨p0, p1, p2, p3, p4, p5, p6, p7, p8, p9⟩, hxi⟩ := HS.out.pl.at_ k d hd
    subst hA
    obtain ⟨X1, x1, rfl, -⟩ := hxi.ms.form
    obtain ⟨X2, x2, rfl, -⟩ := hxi.bys.form
    have HD := Box.mk hd
    have hgl := HS.out.u.lt
    have HX0 : Box (UsX w (wr.alloc (.cells (insC d (.slice X1 d.ms.length x1) (.slice X2 d.bys.length x2)) 55)) g (.slice (some ⟨pb, po, none⟩) l.length c) l (.slice AD D.length cD) D (usesL (l.take k) D) wr.heap.size d (.slice X1 d.ms.length x1) (.slice X2 d.bys.length x2)) := ⟨⟨HS.out.next (bel1 _ _), Blk.new _ _ _, hxi.belo (bel1 _ _), by omega⟩⟩
    clear hd hxi hgl
    go_upto_region 7 with (fail)
    obtain ⟨xb, hxb⟩ : ∃ x, wr.heap.size = x := ⟨_, rfl⟩
    rw [hxb] at HX0 ⊢
    clear hxb p0 p1 p2 p3 p4 p5 p6 p7 p8 p9 HS
    generalize wr.alloc (.cells (insC d (.slice X1 d.ms.length x1) (.slice X2 d.bys.length x2)) 55) = W1 at HX0 ⊢
    obtain ⟨k0, k1, k2, k3, k4, k5, k6, k7, k8, k9⟩ := blk10z HX0.out.x
    by_cases hk1 : d.kind = 1
    ·have hkb : (d.kind == 1) = true := by simp [hk1]
     have e1 : (d.kind != 1) = false := by simp [hk1]
     clear hk1
     go_wp2_with fail
     clear k0 k1 k2 k3 k4 k5 k6 k7 k8 k9
     go_loopw [26] (fun z wq => ∃ i : Nat, i ≤ D.length ∧ z = .int .i64 (i : Nat) ∧ Box (UsX w wq g (.slice (some ⟨pb, po, none⟩) l.length c) l (.slice AD D.length cD) D (midL l k D i) xb d (.slice X1 d.ms.length x1) (.slice X2 d.bys.length x2))) (fun z _ => D.length - (intOf z).toNat)
     case atStart => exact ⟨0, by omega, rfl, ⟨by rw [midL_zero]; exact HX0.out⟩⟩
     case round =>
      clear HX0
      rename World => wq
      obtain ⟨i, hi, rfl, HX⟩ := hrel
      obtain ⟨k0, k1, k2, k3, k4, k5, k6, k7, k8, k9⟩ := blk10z HX.out.x
      by_cases hlt3 : i < D.length
      ·have hlt4 : (i : Int) < (D.length : Int) := by omega
       obtain ⟨x, hx⟩ : ∃ x, D[i]? = some x := ⟨D[i], List.getElem?_eq_getElem _⟩
       obtain ⟨db, do_, hA2, -, -, ⟨v0, v1, v2, v3, v4, v5, v6, v7, v8, v9, v10, v11⟩⟩ := HX.out.s.ds.at_ i x hx
       subst hA2
       have hxo := HX.out.s.ds.2 x (List.mem_of_getElem? hx)
       have HXX := Box.mk hx
       have HXM := Box.mk (List.mem_of_getElem? hx)
       have HDB : Box (db < wq.drew.heap.size) := ⟨by have h := HX.out.s.ds.at_ i x hx; obtain ⟨b', o', he, hb', -⟩ := h; cases he; exact hb'⟩
       clear hx
       obtain ⟨⟨nm, ls, un⟩, lv, oo⟩ := x
       obtain ⟨AL, nL, hlv, -⟩ := hxo.1.form
       simp only at hlv
       subst hlv
       (try simp only at v0 v1 v2 v3 v4)
       by_cases hn : (nm.toList == d.name.toList) = true
       ·have huse : useB d ⟨(nm, ls, un), .slice AL ls.length nL, oo⟩ = matchB ls d.ms := by unfold useB hitB; simp only [hn, hkb, Bool.true_and]
        cases hm : matchB ls d.ms with
        | true =>
         rw [hm] at huse
         have HMS := Box.mk (midL_set (p := l) (k := k) HXX.out)
         have hcur : (midL l k D i)[i]? = some (((cntU (l.take k) ⟨(nm, ls, un), .slice AL ls.length nL, oo⟩ : Nat)) : Int) := by rw [midL_get _ _ _ _ _ (by omega), HXX.out, if_neg (by omega)]; rfl
         have hcn : cntU (l.take (k + 1)) ⟨(nm, ls, un), .slice AL ls.length nL, oo⟩ = cntU (l.take k) ⟨(nm, ls, un), .slice AL ls.length nL, oo⟩ + 1 := by rw [cntU_take HD.out, if_pos huse]
         have hcl := cntU_le (l.take k) ⟨(nm, ls, un), .slice AL ls.length nL, oo⟩
         rw [List.length_take] at hcl
         rw [hcn] at HMS
         obtain ⟨cu, hcu⟩ : ∃ n, cntU (l.take k) ⟨(nm, ls, un), .slice AL ls.length nL, oo⟩ = n := ⟨_, rfl⟩
         rw [hcu] at HMS hcur hcl
         have HCUR := Box.mk hcur
         clear hcur hcn hcu huse
         have CM : Box (∀ W : World, UsX w W g (.slice (some ⟨pb, po, none⟩) l.length c) l (.slice (some ⟨db, do_, none⟩) D.length cD) D (midL l k D i) xb d (.slice X1 d.ms.length x1) (.slice X2 d.bys.length x2) → Calls Tryz.prog 19 #[.slice AL ls.length nL, .slice X1 d.ms.length x1] W (RetB (.bool true) W)) := ⟨fun W h => by have hq := match_any AL ls.length nL X1 d.ms.length x1 W.heap.size ls d.ms W (h.s.ds.2 _ HXM.out).1.seq h.r.ms.seq; rw [hm] at hq; exact hq⟩
         have HXD : Box (UsX w wq.drew g (.slice (some ⟨pb, po, none⟩) l.length c) l (.slice (some ⟨db, do_, none⟩) D.length cD) D (midL l k D i) xb d (.slice X1 d.ms.length x1) (.slice X2 d.bys.length x2)) := ⟨HX.out.next (below_drewN wq 1)⟩
         have HK : Box (wq.drew.cell? ⟨db, do_ + i * 12, none⟩ = some (.string nm) ∧ wq.drew.cell? ⟨db, do_ + i * 12 + 1, none⟩ = some (.slice AL ls.length nL) ∧ wq.drew.cell? ⟨xb, 7, none⟩ = some (.string d.name) ∧ wq.drew.cell? ⟨xb, 8, none⟩ = some (.slice X1 d.ms.length x1)) := ⟨v0, v1, k7, k8⟩
         clear v0 v1 v2 v3 v4 v5 v6 v7 v8 v9 v10 v11 k0 k1 k2 k3 k4 k5 k6 k7 k8 k9 HX hxo
         go_wp2_with fail
         go_region_held3 (fun w' : World => w'.cell? ⟨db, do_ + i * 12, none⟩ = some (.string nm) ∧ w'.cell? ⟨db, do_ + i * 12 + 1, none⟩ = some (.slice AL ls.length nL) ∧ w'.cell? ⟨xb, 7, none⟩ = some (.string d.name) ∧ w'.cell? ⟨xb, 8, none⟩ = some (.slice X1 d.ms.length x1)) (first | with_reducible exact HK.out | go_keep)
          ((go_at_call 19; (with_reducible refine (CM.out _ ?_).mono ?_); (exact HXD.out); rintro e9 w9 ⟨rfl, hb9⟩; have HX9 := Box.mk (HXD.out.next hb9); have HK9 : Box (w9.cell? ⟨db, do_ + i * 12, none⟩ = some (.string nm) ∧ w9.cell? ⟨db, do_ + i * 12 + 1, none⟩ = some (.slice AL ls.length nL) ∧ w9.cell? ⟨xb, 7, none⟩ = some (.string d.name) ∧ w9.cell? ⟨xb, 8, none⟩ = some (.slice X1 d.ms.length x1)) := ⟨(hb9.cell HDB.out).trans HK.out.1, (hb9.cell HDB.out).trans HK.out.2.1, (hb9.cell HXD.out.x.lt).trans HK.out.2.2.1, (hb9.cell HXD.out.x.lt).trans HK.out.2.2.2⟩; clear HXD HK hb9; have HK := Box.mk HK9.out; clear HK9))
         have g0 := HX9.out.s.at_ HCUR.out
         have gf := HX9.out.s.u.frozen
         have e7 : IntKind.i64.wrap ((cu : Int) + 1) = (cu : Int) + 1 := W64_in (by omega) (by omega)
         have HXN : Box (UsX w (w9.setCell ⟨g, i, none⟩ (.int .i64 ((cu : Int) + 1))) g (.slice (some ⟨pb, po, none⟩) l.length c) l (.slice (some ⟨db, do_, none⟩) D.length cD) D (midL l k D (i + 1)) xb d (.slice X1 d.ms.length x1) (.slice X2 d.bys.length x2)) := ⟨by rw [HMS.out]; exact HX9.out.set i ((cu : Int) + 1)⟩
         clear CM HCUR HMS HX9 hm HK
         go_wp2_with fail
         go_roundw
         case rel => exact ⟨i + 1, by omega, by go_num, HXN⟩
         case measure => simp [intOf]; omega
        | false =>
         rw [hm] at huse
         have HMS := Box.mk (midL_same (p := l) (k := k) HXX.out HD.out huse)
         clear huse
         have CM : Box (∀ W : World, UsX w W g (.slice (some ⟨pb, po, none⟩) l.length c) l (.slice (some ⟨db, do_, none⟩) D.length cD) D (midL l k D i) xb d (.slice X1 d.ms.length x1) (.slice X2 d.bys.length x2) → Calls Tryz.prog 19 #[.slice AL ls.length nL, .slice X1 d.ms.length x1] W (RetB (.bool false) W)) := ⟨fun W h => by have hq := match_any AL ls.length nL X1 d.ms.length x1 W.heap.size ls d.ms W (h.s.ds.2 _ HXM.out).1.seq h.r.ms.seq; rw [hm] at hq; exact hq⟩
         have HXD : Box (UsX w wq.drew g (.slice (some ⟨pb, po, none⟩) l.length c) l (.slice (some ⟨db, do_, none⟩) D.length cD) D (midL l k D i) xb d (.slice X1 d.ms.length x1) (.slice X2 d.bys.length x2)) := ⟨HX.out.next (below_drewN wq 1)⟩
         have HK : Box (wq.drew.cell? ⟨db, do_ + i * 12, none⟩ = some (.string nm) ∧ wq.drew.cell? ⟨db, do_ + i * 12 + 1, none⟩ = some (.slice AL ls.length nL) ∧ wq.drew.cell? ⟨xb, 7, none⟩ = some (.string d.name) ∧ wq.drew.cell? ⟨xb, 8, none⟩ = some (.slice X1 d.ms.length x1)) := ⟨v0, v1, k7, k8⟩
         clear v0 v1 v2 v3 v4 v5 v6 v7 v8 v9 v10 v11 k0 k1 k2 k3 k4 k5 k6 k7 k8 k9 HX hxo
         go_wp2_with fail
         go_region_held3 (fun w' : World => w'.cell? ⟨db, do_ + i * 12, none⟩ = some (.string nm) ∧ w'.cell? ⟨db, do_ + i * 12 + 1, none⟩ = some (.slice AL ls.length nL) ∧ w'.cell? ⟨xb, 7, none⟩ = some (.string d.name) ∧ w'.cell? ⟨xb, 8, none⟩ = some (.slice X1 d.ms.length x1)) (first | with_reducible exact HK.out | go_keep)
          ((go_at_call 19; (with_reducible refine (CM.out _ ?_).mono ?_); (exact HXD.out); rintro e9 w9 ⟨rfl, hb9⟩; have HX9 := Box.mk (HXD.out.next hb9); have HK9 : Box (w9.cell? ⟨db, do_ + i * 12, none⟩ = some (.string nm) ∧ w9.cell? ⟨db, do_ + i * 12 + 1, none⟩ = some (.slice AL ls.length nL) ∧ w9.cell? ⟨xb, 7, none⟩ = some (.string d.name) ∧ w9.cell? ⟨xb, 8, none⟩ = some (.slice X1 d.ms.length x1)) := ⟨(hb9.cell HDB.out).trans HK.out.1, (hb9.cell HDB.out).trans HK.out.2.1, (hb9.cell HXD.out.x.lt).trans HK.out.2.2.1, (hb9.cell HXD.out.x.lt).trans HK.out.2.2.2⟩; clear HXD HK hb9; have HK := Box.mk HK9.out; clear HK9))
         have HXN : Box (UsX w w9 g (.slice (some ⟨pb, po, none⟩) l.length c) l (.slice (some ⟨db, do_, none⟩) D.length cD) D (midL l k D (i + 1)) xb d (.slice X1 d.ms.length x1) (.slice X2 d.bys.length x2)) := ⟨by rw [HMS.out]; exact HX9.out⟩
         clear CM HMS HX9 hm HK
         go_wp2_with fail
         go_roundw
         case rel => exact ⟨i + 1, by omega, by go_num, HXN⟩
         case measure => simp [intOf]; omega
       ·have hn2 : (nm.toList == d.name.toList) = false := by simpa using hn
        have huse : useB d ⟨(nm, ls, un), .slice AL ls.length nL, oo⟩ = false := by unfold useB hitB; simp only [hn2, Bool.false_and, Bool.and_false]
        have HMS := Box.mk (midL_same (p := l) (k := k) HXX.out HD.out huse)
        have HXN : Box (UsX w wq g (.slice (some ⟨pb, po, none⟩) l.length c) l (.slice (some ⟨db, do_, none⟩) D.length cD) D (midL l k D (i + 1)) xb d (.slice X1 d.ms.length x1) (.slice X2 d.bys.length x2)) := ⟨by rw [HMS.out]; exact HX.out⟩
        clear hn huse HMS HX
        go_wp2_with fail
        go_quiet (fail)
        all_goals
         go_wp2_with fail
         go_roundw
         case rel => exact ⟨i + 1, by omega, by go_num, ⟨by first | exact HXN.out | exact HXN.out.next (below_drewN _ _)⟩⟩
         case measure => simp [intOf]; omega
      ·have hlt4 : ¬ (i : Int) < (D.length : Int) := by omega
       have hie : i = D.length := by omega
       subst hie
       have HSN : Box (UsS w wq g (.slice (some ⟨pb, po, none⟩) l.length c) l (.slice AD D.length cD) D (usesL (l.take (k + 1)) D)) := ⟨by rw [← midL_all]; exact HX.out.s⟩
       clear HX k0 k1 k2 k3 k4 k5 k6 k7 k8 k9
       go_wp2_with fail
       go_roundw
       case rel => exact ⟨k + 1, by omega, by go_num, HSN⟩
       case measure => simp [intOf]; omega
    ·have e1 : (d.kind != 1) = true := by simp [hk1]
     have HSN : Box (UsS w W1 g (.slice (some ⟨pb, po, none⟩) l.length c) l (.slice AD D.length cD) D (usesL (l.take (k + 1)) D)) := ⟨by rw [usesL_skip HD.out hk1]; exact HX0.out.s⟩
     clear hk1
     go_wp2_with fail
     go_roundw
     case rel => exact ⟨k + 1, by omega, by go_num, HSN⟩
     case measure => simp [intOf]; omega
   ·have hlt2 : ¬ (k : Int) < (l.length : Int) := by omega
    have hke : k = l.length := by omega
    subst hke
    have HF : Box (UsS w wr g (.slice A l.length c) l (.slice AD D.length cD) D (usesL l D)) := ⟨by have h := HS.out; rw [List.take_length] at h; exact h⟩
    clear HS
    go_wp2_with fail
    go_ret
    have hul : (usesL l D).length = D.length := by unfold usesL; simp
    exact ⟨some ⟨g, 0, none⟩, D.length, by rw [HEN.out, hul]; rfl, by rw [HEN.out, hul]; have hq := SeqP.of_blk (P := AnyP) (n := D.length) (size := 1) HF.out.u (by rw [intsA_size, hul]; omega) hDl trivial; exact hq, HF.out.below⟩
 ·have h1 : (er != 0) = true := by simpa using h0
  have HEN : Box (usesM l D = []) := ⟨by unfold usesM; rw [if_neg (by rw [HER.out]; exact h0)]⟩
  clear h0
  go_wp2_with fail
  go_ret
  exact ⟨none, 0, by rw [HEN.out]; rfl, by rw [HEN.out]; exact SeqP.nil _ _ _, HB1.out⟩
end
end Go.Proofs.YtpgdijbfkahepaaGreatDoor
