/- Contracts, packed: Bg. -/
import Derived.Test.YtipafbppaaflcaaDoorPu49
import Derived.Test.YtipafbppaaflcaaDoorPu50
set_option linter.unusedVariables false
set_option linter.unusedSimpArgs false
namespace Go.Proofs.YtipafbppaaflcaaDoor
section
open Go.RowKit FracM
theorem dc_step {wr w8 : World} {B n t size : Nat} {v : Value} {xs : List Value} {o : Obj} (hB : B ≤ wr.heap.size) (hown : wr.ownsRow B t size v n xs) (hgr : (wr.alloc o).grownBy w8 v.ownBlock) : Below B wr w8 :=
 ((bel1 wr o).mono hB).grown hgr (by rw [World.size_alloc]; exact Nat.le_succ_of_le hB) (fun k hk => (own_bk hown k hk).1)
def RetDc (l : List Nd) (w : World) (e : Ending) (w' : World) : Prop := ∃ v, e = .returned (.tuple #[v, .int .i64 0]) ∧ PlanP w' AnyP v l ∧ Below w.heap.size w w'
set_option maxHeartbeats 16000000 in
set_option maxRecDepth 100000 in
theorem pdecode_any (l : List Nd) (q0 o0 c0 : Nat) (w : World) (hs : SqB w q0 o0 (encPl l)) (ht : (treeM l).2 = 0) (hok : ∀ d ∈ l, NdOk d) (hlen : (encPl l).length ≤ 1000000) (hw : WordsV w) : Calls Tryd.prog 28 #[.slice (some ⟨q0, o0, none⟩) (encPl l).length c0] w (RetDc l w) := by
 have HSM := Box.mk (plan_small ht)
 have HSZ := Box.mk (plan_sizes ht)
 have HOK := Box.mk hok
 have HW := Box.mk hw
 have HT := Box.mk ht
 obtain ⟨L, hL⟩ : ∃ L, encPl l = L := ⟨_, rfl⟩
 have D0 : Box (L.drop 0 = encI (l.length : Nat) ++ l.flatMap encNd) := ⟨by rw [← hL]; rfl⟩
 rw [hL] at hs hlen ⊢
 have h0 : 0 < L.length := by rw [← hL]; unfold encPl encI; rw [List.length_append]; have := List.length_pos_iff.2 (uvN_ne (zig (l.length : Int))); omega
 have HL := Box.mk hlen
 have CR := Box.mk (read_any q0 o0 c0 L w hs h0 hlen)
 have hn200 := HSM.out.1
 have hln : I64 ((l.length : Nat) : Int) := by unfold I64; omega
 have hg1 : ¬ (200 : Int) < (l.length : Int) := by omega
 have hg2 : ¬ (l.length : Int) < 0 := by omega
 obtain ⟨i0, hi, hz0, hz1, hz2⟩ := info_parts insInfo
 have HII := Box.mk (And.intro hi (And.intro hz0 (And.intro hz1 hz2)))
 clear hi hz0 hz1 hz2
 obtain ⟨j0, hi, hz0, hz1, hz2⟩ := info_parts matInfo
 have HJ := Box.mk (And.intro hi (And.intro hz0 (And.intro hz1 hz2)))
 clear hi hz0 hz1 hz2
 obtain ⟨s0, hi, hz0, hz1, hz2⟩ := info_parts strInfo
 have HSI := Box.mk (And.intro hi (And.intro hz0 (And.intro hz1 hz2)))
 clear hi hz0 hz1 hz2 hs ht hok hw hlen
 go_enter Tryd.func28, Tryd.ntmps28
 go_wp2_with fail
 refine (CR.out).mono ?_
 rintro e1 w1 ⟨h, b, off, c, rfl, hwh, hrd, hb1⟩
 have HO0 : Box (DcO w w1 h b off c w1.heap.size L 0 (.slice none 0 0) []) := ⟨hb1, hrd, PlW.nil _ _ _, hwh, hrd.blk.lt, hrd.sq.lt, Nat.le_refl _⟩
 obtain ⟨B0, hB0⟩ : ∃ B, w1.heap.size = B := ⟨_, rfl⟩
 rw [hB0] at HO0
 clear hB0 hwh hrd hb1 CR
 obtain ⟨pe, Hpe⟩ : ∃ q, Box (0 + (uvN (zig (((l.length : Nat) : Int)))).length = q) := ⟨_, ⟨rfl⟩⟩
 have Dpe : Box (L.drop pe = l.flatMap encNd) := ⟨by rw [← Hpe.out]; exact drop_app D0.out⟩
 have C1 : Box (∀ W : World, RD h b off c L W 0 → Calls Tryd.prog 52 #[.pointer (some ⟨h, 0, none⟩)] W (RetUr h b off c L pe (.int .i64 (((l.length : Nat) : Int))) W)) := ⟨fun W hr => by rw [← Hpe.out]; exact rint_any h b off c 0 (((l.length : Nat) : Int)) L _ W hr D0.out (hln).1 (hln).2 HL.out⟩
 go_wp2_with fail
 refine (C1.out _ HO0.out.rd).mono ?_
 rintro e w2 ⟨rfl, hr, hf⟩
 have HO1 := Box.mk (HO0.out.read hr hf)
 clear hr hf C1
 clear HO0
 go_wp2_with fail
 go_loopw [6, 22] (fun vo z wr => ∃ (m : List Nd) (p : Nat), m.length ≤ l.length ∧ z = .int .i64 (m.length : Nat) ∧ Box (m = l.take m.length) ∧ Box (L.drop p = (l.drop m.length).flatMap encNd) ∧ Box (DcO w wr h b off c B0 L p vo m)) (fun _ z _ => l.length - (intOf z).toNat)
 case atStart => exact ⟨[], pe, by simp, rfl, ⟨rfl⟩, ⟨by rw [Dpe.out]; simp⟩, HO1⟩
 case round =>
  clear HO1
  rename World => wr
  obtain ⟨m, p0, hml, rfl, HM, Dp, HO⟩ := hrel
  obtain ⟨AO, co, rfl, -⟩ := HO.out.out.formL
  by_cases hlt : m.length < l.length
  ·have hlt2 : (m.length : Int) < (l.length : Int) := by omega
   obtain ⟨d, hd⟩ : ∃ d, l[m.length]? = some d := ⟨l[m.length], List.getElem?_eq_getElem _⟩
   have HD := Box.mk hd
   have HSD := Box.mk (HSZ.out d (List.mem_of_getElem? hd))
   obtain ⟨hmb, hbb⟩ := HSM.out.2 d (List.mem_of_getElem? hd)
   obtain ⟨i0', i1', i2', i3', i4', i5', i6'⟩ := (HOK.out d (List.mem_of_getElem? hd)).ints
   have hmn : I64 ((d.ms.length : Nat) : Int) := by unfold I64; omega
   have hbn : I64 ((d.bys.length : Nat) : Int) := by unfold I64; omega
   obtain ⟨R, hR⟩ : ∃ R, (l.drop (m.length + 1)).flatMap encNd = R := ⟨_, rfl⟩
   have HR : Box (R = (l.drop (m.length + 1)).flatMap encNd) := ⟨hR.symm⟩
   have D0 : Box (L.drop p0 = encI d.kind ++ (encI d.fn ++ (encI d.win ++ (encI d.off ++ (encI d.k ++ (encI d.num ++ (encI d.den ++ (encS d.name ++ (encI (d.ms.length : Nat) ++ (d.ms.flatMap matE ++ (encI (d.bys.length : Nat) ++ (d.bys.flatMap encS ++ (R))))))))))))) := ⟨by
    rw [Dp.out]
    have e : l.drop m.length = d :: l.drop (m.length + 1) := by rw [List.drop_eq_getElem_cons hlt, (List.getElem?_eq_some_iff.1 hd).2]
    rw [e, List.flatMap_cons, hR]
    simp only [encNd, hdE, pairE, hdOf, List.append_assoc]⟩
   clear hd hR Dp
   obtain ⟨p1, Hp1⟩ : ∃ q, Box (p0 + (uvN (zig (d.kind))).length = q) := ⟨_, ⟨rfl⟩⟩
   have Dp1 : Box (L.drop p1 = encI d.fn ++ (encI d.win ++ (encI d.off ++ (encI d.k ++ (encI d.num ++ (encI d.den ++ (encS d.name ++ (encI (d.ms.length : Nat) ++ (d.ms.flatMap matE ++ (encI (d.bys.length : Nat) ++ (d.bys.flatMap encS ++ (R)))))))))))) := ⟨by rw [← Hp1.out]; exact drop_app D0.out⟩
   have C1 : Box (∀ W : World, RD h b off c L W p0 → Calls Tryd.prog 52 #[.pointer (some ⟨h, 0, none⟩)] W (RetUr h b off c L p1 (.int .i64 (d.kind)) W)) := ⟨fun W hr => by rw [← Hp1.out]; exact rint_any h b off c p0 (d.kind) L _ W hr D0.out (i0').1 (i0').2 HL.out⟩
   obtain ⟨p2, Hp2⟩ : ∃ q, Box (p1 + (uvN (zig (d.fn))).length = q) := ⟨_, ⟨rfl⟩⟩
   have Dp2 : Box (L.drop p2 = encI d.win ++ (encI d.off ++ (encI d.k ++ (encI d.num ++ (encI d.den ++ (encS d.name ++ (encI (d.ms.length : Nat) ++ (d.ms.flatMap matE ++ (encI (d.bys.length : Nat) ++ (d.bys.flatMap encS ++ (R))))))))))) := ⟨by rw [← Hp2.out]; exact drop_app Dp1.out⟩
   have C2 : Box (∀ W : World, RD h b off c L W p1 → Calls Tryd.prog 52 #[.pointer (some ⟨h, 0, none⟩)] W (RetUr h b off c L p2 (.int .i64 (d.fn)) W)) := ⟨fun W hr => by rw [← Hp2.out]; exact rint_any h b off c p1 (d.fn) L _ W hr Dp1.out (i1').1 (i1').2 HL.out⟩
   obtain ⟨p3, Hp3⟩ : ∃ q, Box (p2 + (uvN (zig (d.win))).length = q) := ⟨_, ⟨rfl⟩⟩
   have Dp3 : Box (L.drop p3 = encI d.off ++ (encI d.k ++ (encI d.num ++ (encI d.den ++ (encS d.name ++ (encI (d.ms.length : Nat) ++ (d.ms.flatMap matE ++ (encI (d.bys.length : Nat) ++ (d.bys.flatMap encS ++ (R)))))))))) := ⟨by rw [← Hp3.out]; exact drop_app Dp2.out⟩
   have C3 : Box (∀ W : World, RD h b off c L W p2 → Calls Tryd.prog 52 #[.pointer (some ⟨h, 0, none⟩)] W (RetUr h b off c L p3 (.int .i64 (d.win)) W)) := ⟨fun W hr => by rw [← Hp3.out]; exact rint_any h b off c p2 (d.win) L _ W hr Dp2.out (i2').1 (i2').2 HL.out⟩
   obtain ⟨p4, Hp4⟩ : ∃ q, Box (p3 + (uvN (zig (d.off))).length = q) := ⟨_, ⟨rfl⟩⟩
   have Dp4 : Box (L.drop p4 = encI d.k ++ (encI d.num ++ (encI d.den ++ (encS d.name ++ (encI (d.ms.length : Nat) ++ (d.ms.flatMap matE ++ (encI (d.bys.length : Nat) ++ (d.bys.flatMap encS ++ (R))))))))) := ⟨by rw [← Hp4.out]; exact drop_app Dp3.out⟩
   have C4 : Box (∀ W : World, RD h b off c L W p3 → Calls Tryd.prog 52 #[.pointer (some ⟨h, 0, none⟩)] W (RetUr h b off c L p4 (.int .i64 (d.off)) W)) := ⟨fun W hr => by rw [← Hp4.out]; exact rint_any h b off c p3 (d.off) L _ W hr Dp3.out (i3').1 (i3').2 HL.out⟩
   obtain ⟨p5, Hp5⟩ : ∃ q, Box (p4 + (uvN (zig (d.k))).length = q) := ⟨_, ⟨rfl⟩⟩
   have Dp5 : Box (L.drop p5 = encI d.num ++ (encI d.den ++ (encS d.name ++ (encI (d.ms.length : Nat) ++ (d.ms.flatMap matE ++ (encI (d.bys.length : Nat) ++ (d.bys.flatMap encS ++ (R)))))))) := ⟨by rw [← Hp5.out]; exact drop_app Dp4.out⟩
   have C5 : Box (∀ W : World, RD h b off c L W p4 → Calls Tryd.prog 52 #[.pointer (some ⟨h, 0, none⟩)] W (RetUr h b off c L p5 (.int .i64 (d.k)) W)) := ⟨fun W hr => by rw [← Hp5.out]; exact rint_any h b off c p4 (d.k) L _ W hr Dp4.out (i4').1 (i4').2 HL.out⟩
   obtain ⟨p6, Hp6⟩ : ∃ q, Box (p5 + (uvN (zig (d.num))).length = q) := ⟨_, ⟨rfl⟩⟩
   have Dp6 : Box (L.drop p6 = encI d.den ++ (encS d.name ++ (encI (d.ms.length : Nat) ++ (d.ms.flatMap matE ++ (encI (d.bys.length : Nat) ++ (d.bys.flatMap encS ++ (R))))))) := ⟨by rw [← Hp6.out]; exact drop_app Dp5.out⟩
   have C6 : Box (∀ W : World, RD h b off c L W p5 → Calls Tryd.prog 52 #[.pointer (some ⟨h, 0, none⟩)] W (RetUr h b off c L p6 (.int .i64 (d.num)) W)) := ⟨fun W hr => by rw [← Hp6.out]; exact rint_any h b off c p5 (d.num) L _ W hr Dp5.out (i5').1 (i5').2 HL.out⟩
   obtain ⟨p7, Hp7⟩ : ∃ q, Box (p6 + (uvN (zig (d.den))).length = q) := ⟨_, ⟨rfl⟩⟩
   have Dp7 : Box (L.drop p7 = encS d.name ++ (encI (d.ms.length : Nat) ++ (d.ms.flatMap matE ++ (encI (d.bys.length : Nat) ++ (d.bys.flatMap encS ++ (R)))))) := ⟨by rw [← Hp7.out]; exact drop_app Dp6.out⟩
   have C7 : Box (∀ W : World, RD h b off c L W p6 → Calls Tryd.prog 52 #[.pointer (some ⟨h, 0, none⟩)] W (RetUr h b off c L p7 (.int .i64 (d.den)) W)) := ⟨fun W hr => by rw [← Hp7.out]; exact rint_any h b off c p6 (d.den) L _ W hr Dp6.out (i6').1 (i6').2 HL.out⟩
   obtain ⟨p8, Hp8⟩ : ∃ q, Box (p7 + ((uvN (d.name).size ++ strB (d.name))).length = q) := ⟨_, ⟨rfl⟩⟩
   have Dp8 : Box (L.drop p8 = encI (d.ms.length : Nat) ++ (d.ms.flatMap matE ++ (encI (d.bys.length : Nat) ++ (d.bys.flatMap encS ++ (R))))) := ⟨by rw [← Hp8.out]; exact drop_app Dp7.out⟩
   have C8 : Box (∀ W : World, RD h b off c L W p7 → Calls Tryd.prog 53 #[.pointer (some ⟨h, 0, none⟩)] W (RetUr h b off c L p8 (.string (d.name)) W)) := ⟨fun W hr => by rw [← Hp8.out]; have hq := rtext_any h b off c p7 (d.name) _ L W hr (by have := Dp7.out; unfold encS at this; rw [List.append_assoc] at this; exact this) HL.out; rw [List.length_append, strB_len, ← Nat.add_assoc]; exact hq⟩
   obtain ⟨p9, Hp9⟩ : ∃ q, Box (p8 + (uvN (zig (((d.ms.length : Nat) : Int)))).length = q) := ⟨_, ⟨rfl⟩⟩
   have Dp9 : Box (L.drop p9 = d.ms.flatMap matE ++ (encI (d.bys.length : Nat) ++ (d.bys.flatMap encS ++ (R)))) := ⟨by rw [← Hp9.out]; exact drop_app Dp8.out⟩
   have C9 : Box (∀ W : World, RD h b off c L W p8 → Calls Tryd.prog 52 #[.pointer (some ⟨h, 0, none⟩)] W (RetUr h b off c L p9 (.int .i64 (((d.ms.length : Nat) : Int))) W)) := ⟨fun W hr => by rw [← Hp9.out]; exact rint_any h b off c p8 (((d.ms.length : Nat) : Int)) L _ W hr Dp8.out (hmn).1 (hmn).2 HL.out⟩
   go_wp2_with fail
   refine (C1.out _ HO.out.rd).mono ?_
   rintro e w1 ⟨rfl, hr, hf⟩
   have H1 := Box.mk (HO.out.read hr hf)
   clear hr hf C1
   go_wp2_with fail
   refine (C2.out _ H1.out.rd).mono ?_
   rintro e w2 ⟨rfl, hr, hf⟩
   have H2 := Box.mk (H1.out.read hr hf)
   clear hr hf C2
   go_wp2_with fail
   refine (C3.out _ H2.out.rd).mono ?_
   rintro e w3 ⟨rfl, hr, hf⟩
   have H3 := Box.mk (H2.out.read hr hf)
   clear hr hf C3
   go_wp2_with fail
   refine (C4.out _ H3.out.rd).mono ?_
   rintro e w4 ⟨rfl, hr, hf⟩
   have H4 := Box.mk (H3.out.read hr hf)
   clear hr hf C4
   go_wp2_with fail
   refine (C5.out _ H4.out.rd).mono ?_
   rintro e w5 ⟨rfl, hr, hf⟩
   have H5 := Box.mk (H4.out.read hr hf)
   clear hr hf C5
   clear HO H1 H2 H3 H4
   have HX : Box (DcX w (w5.alloc (.cells #[.int .i64 d.kind, .int .i64 d.fn, .int .i64 d.win, .int .i64 d.off, .int .i64 d.k, .int .i64 0, .int .i64 0, .string ⟨#[]⟩, .slice none 0 0, .slice none 0 0] 45)) h b off c B0 L p5 (.slice AO m.length co) m w5.heap.size (⟨d.kind, d.fn, d.win, d.off, d.k, 0, 0, ⟨#[]⟩, [], []⟩ : Nd) (.slice none 0 0) (.slice none 0 0)) := ⟨H5.out.new (bel1 _ _) (Blk.new _ _ _)⟩
   go_upto_region 9 with (fail)
   obtain ⟨xb, hxb⟩ : ∃ x, w5.heap.size = x := ⟨_, rfl⟩
   rw [hxb] at HX ⊢
   clear hxb H5
   generalize w5.alloc (.cells #[.int .i64 d.kind, .int .i64 d.fn, .int .i64 d.win, .int .i64 d.off, .int .i64 d.k, .int .i64 0, .int .i64 0, .string ⟨#[]⟩, .slice none 0 0, .slice none 0 0] 45) = W5 at HX ⊢
   go_wp2_with fail
   refine (C6.out _ HX.out.rd).mono ?_
   rintro e w6 ⟨rfl, hr, hf⟩
   have HXa := Box.mk (HX.out.read hr hf)
   clear hr hf C6
   obtain ⟨k0, k1, k2, k3, k4, k5, k6, k7, k8, k9⟩ := blk10z HXa.out.x
   dsimp only at k0 k1 k2 k3 k4 k5 k6 k7 k8 k9
   have kf := HXa.out.x.frozen
   have HXb : Box (DcX w (w6.setCell ⟨xb, 5, none⟩ (.int .i64 d.num)) h b off c B0 L p6 (.slice AO m.length co) m xb (⟨d.kind, d.fn, d.win, d.off, d.k, d.num, 0, ⟨#[]⟩, [], []⟩ : Nd) (.slice none 0 0) (.slice none 0 0)) := ⟨HXa.out.turn ((Below.refl _ _).setCell (p := ⟨xb, 5, none⟩) (Nat.le_refl _) _) (by simpa using HXa.out.x.set 5 (.int .i64 d.num))⟩
   go_wp2_with fail
   refine (C7.out _ HXb.out.rd).mono ?_
   rintro e w7 ⟨rfl, hr, hf⟩
   have HXc := Box.mk (HXb.out.read hr hf)
   clear hr hf C7 HXa HXb
   clear k0 k1 k2 k3 k4 k5 k6 k7 k8 k9 kf
   obtain ⟨k0, k1, k2, k3, k4, k5, k6, k7, k8, k9⟩ := blk10z HXc.out.x
   dsimp only at k0 k1 k2 k3 k4 k5 k6 k7 k8 k9
   have kf := HXc.out.x.frozen
   have HXd : Box (DcX w (w7.setCell ⟨xb, 6, none⟩ (.int .i64 d.den)) h b off c B0 L p7 (.slice AO m.length co) m xb (⟨d.kind, d.fn, d.win, d.off, d.k, d.num, d.den, ⟨#[]⟩, [], []⟩ : Nd) (.slice none 0 0) (.slice none 0 0)) := ⟨HXc.out.turn ((Below.refl _ _).setCell (p := ⟨xb, 6, none⟩) (Nat.le_refl _) _) (by simpa using HXc.out.x.set 6 (.int .i64 d.den))⟩
   go_wp2_with fail
   refine (C8.out _ HXd.out.rd).mono ?_
   rintro e w8 ⟨rfl, hr, hf⟩
   have HXe := Box.mk (HXd.out.read hr hf)
   clear hr hf C8 HXc HXd
   clear k0 k1 k2 k3 k4 k5 k6 k7 k8 k9 kf
   obtain ⟨k0, k1, k2, k3, k4, k5, k6, k7, k8, k9⟩ := blk10z HXe.out.x
   dsimp only at k0 k1 k2 k3 k4 k5 k6 k7 k8 k9
   have kf := HXe.out.x.frozen
   have HXf : Box (DcX w (w8.setCell ⟨xb, 7, none⟩ (.string d.name)) h b off c B0 L p8 (.slice AO m.length co) m xb d (.slice none 0 0) (.slice none 0 0)) := ⟨HXe.out.turn ((Below.refl _ _).setCell (p := ⟨xb, 7, none⟩) (Nat.le_refl _) _) (by simpa using HXe.out.x.set 7 (.string d.name))⟩
   go_wp2_with fail
   refine (C9.out _ HXf.out.rd).mono ?_
   rintro e w9 ⟨rfl, hr, hf⟩
   have HXg := Box.mk (HXf.out.read hr hf)
   clear hr hf C9 HXe HXf
   clear k0 k1 k2 k3 k4 k5 k6 k7 k8 k9 kf
   obtain ⟨R2, hR2⟩ : ∃ R2, encI (d.bys.length : Nat) ++ (d.bys.flatMap encS ++ (R)) = R2 := ⟨_, rfl⟩
   have HR2 : Box (R2 = encI (d.bys.length : Nat) ++ (d.bys.flatMap encS ++ (R))) := ⟨hR2.symm⟩
   rw [hR2] at Dp9
   have HZ : Box (w9.ownsRow (xb + 1) 71 3 (.slice none 0 0) 0 ((d.ms.take 0).flatMap matCells) ∧ xb + 1 ≤ w9.heap.size) := ⟨World.ownsRow_nil _ _ _ _, HXg.out.x.lt⟩
   clear hR2
   go_wp2_with fail
   go_loopw [55] (fun z wq => ∃ (j pa : Nat) (J1 : Option Addr) (j1 : Nat), j ≤ d.ms.length ∧ z = .int .i64 (j : Nat) ∧ Box (L.drop pa = (d.ms.drop j).flatMap matE ++ R2) ∧ Box (DcX w wq h b off c B0 L pa (.slice AO m.length co) m xb d (.slice J1 j j1) (.slice none 0 0) ∧ wq.ownsRow (xb + 1) 71 3 (.slice J1 j j1) j ((d.ms.take j).flatMap matCells) ∧ xb + 1 ≤ wq.heap.size)) (fun z _ => d.ms.length - (intOf z).toNat)
   case atStart => exact ⟨0, p9, none, 0, by omega, rfl, ⟨by rw [Dp9.out]; simp⟩, ⟨HXg.out, HZ.out.1, HZ.out.2⟩⟩
   case round =>
    clear HXg HZ
    rename World => wq
    obtain ⟨j, pa, J1, j1, hj, rfl, Dpa, HX⟩ := hrel
    have hxB := HX.out.1.hx
    have hhB := HX.out.1.hh
    by_cases hlt : j < d.ms.length
    ·have hlt2 : (j : Int) < (d.ms.length : Int) := by omega
     obtain ⟨x, hx⟩ : ∃ x, d.ms[j]? = some x := ⟨d.ms[j], List.getElem?_eq_getElem _⟩
     have HTK : Box ((d.ms.take (j + 1)).flatMap matCells = (d.ms.take j).flatMap matCells ++ matCells x) := ⟨by rw [List.take_add_one, hx]; simp [matCells]⟩
     have D0 : Box (L.drop pa = encS x.1 ++ (encI x.2.1 ++ (encS x.2.2 ++ ((d.ms.drop (j + 1)).flatMap matE ++ R2)))) := ⟨by
      rw [Dpa.out]
      have e : d.ms.drop j = x :: d.ms.drop (j + 1) := by rw [List.drop_eq_getElem_cons hlt, (List.getElem?_eq_some_iff.1 hx).2]
      rw [e, List.flatMap_cons]
      simp only [matE, pairE, List.append_assoc]⟩
     obtain ⟨hs1, hs2, hs3⟩ := HSD.out.ms x (List.mem_of_getElem? hx)
     clear hx
     obtain ⟨pb, Hpb⟩ : ∃ q, Box (pa + ((uvN (x.1).size ++ strB (x.1))).length = q) := ⟨_, ⟨rfl⟩⟩
     have Dpb : Box (L.drop pb = encI x.2.1 ++ (encS x.2.2 ++ ((d.ms.drop (j + 1)).flatMap matE ++ R2))) := ⟨by rw [← Hpb.out]; exact drop_app D0.out⟩
     have C1 : Box (∀ W : World, RD h b off c L W pa → Calls Tryd.prog 53 #[.pointer (some ⟨h, 0, none⟩)] W (RetUr h b off c L pb (.string (x.1)) W)) := ⟨fun W hr => by rw [← Hpb.out]; have hq := rtext_any h b off c pa (x.1) _ L W hr (by have := D0.out; unfold encS at this; rw [List.append_assoc] at this; exact this) HL.out; rw [List.length_append, strB_len, ← Nat.add_assoc]; exact hq⟩
     obtain ⟨pc, Hpc⟩ : ∃ q, Box (pb + (uvN (zig (x.2.1))).length = q) := ⟨_, ⟨rfl⟩⟩
     have Dpc : Box (L.drop pc = encS x.2.2 ++ ((d.ms.drop (j + 1)).flatMap matE ++ R2)) := ⟨by rw [← Hpc.out]; exact drop_app Dpb.out⟩
     have C2 : Box (∀ W : World, RD h b off c L W pb → Calls Tryd.prog 52 #[.pointer (some ⟨h, 0, none⟩)] W (RetUr h b off c L pc (.int .i64 (x.2.1)) W)) := ⟨fun W hr => by rw [← Hpc.out]; exact rint_any h b off c pb (x.2.1) L _ W hr Dpb.out (hs3).1 (hs3).2 HL.out⟩
     obtain ⟨pd, Hpd⟩ : ∃ q, Box (pc + ((uvN (x.2.2).size ++ strB (x.2.2))).length = q) := ⟨_, ⟨rfl⟩⟩
     have Dpd : Box (L.drop pd = (d.ms.drop (j + 1)).flatMap matE ++ R2) := ⟨by rw [← Hpd.out]; exact drop_app Dpc.out⟩
     have C3 : Box (∀ W : World, RD h b off c L W pc → Calls Tryd.prog 53 #[.pointer (some ⟨h, 0, none⟩)] W (RetUr h b off c L pd (.string (x.2.2)) W)) := ⟨fun W hr => by rw [← Hpd.out]; have hq := rtext_any h b off c pc (x.2.2) _ L W hr (by have := Dpc.out; unfold encS at this; rw [List.append_assoc] at this; exact this) HL.out; rw [List.length_append, strB_len, ← Nat.add_assoc]; exact hq⟩
     go_wp2_with fail
     refine (C1.out _ HX.out.1.rd).mono ?_
     rintro e w1 ⟨rfl, hr, hf⟩
     have HXa := Box.mk (HX.out.1.read hr hf)
     have HOa := Box.mk (own_fr2 HX.out.2.1 hf (by omega))
     clear hr hf C1
     go_wp2_with fail
     refine (C2.out _ HXa.out.rd).mono ?_
     rintro e w2 ⟨rfl, hr, hf⟩
     have HXb := Box.mk (HXa.out.read hr hf)
     have HOb := Box.mk (own_fr2 HOa.out hf (by omega))
     clear hr hf C2 HXa HOa
     go_wp2_with fail
     refine (C3.out _ HXb.out.rd).mono ?_
     rintro e w3 ⟨rfl, hr, hf⟩
     have HXc := Box.mk (HXb.out.read hr hf)
     have HOc := Box.mk (own_fr2 HOb.out hf (by omega))
     clear hr hf C3 HXb HOb HX
     have hxl := HXc.out.x.lt
     have HX4 := Box.mk (HXc.out.turn ((bel1 w3 (.cells #[.string x.1, .int .i64 x.2.1, .string x.2.2] 71)).mono (Nat.le_of_lt hxl)) (HXc.out.x.below (bel1 _ _)))
     have HO4 := Box.mk (own_below HOc.out (bel1 w3 (.cells #[.string x.1, .int .i64 x.2.1, .string x.2.2] 71)))
     have HM4 := Box.mk (Blk.new w3 #[.string x.1, .int .i64 x.2.1, .string x.2.2] 71)
     go_upto_region 18 with (fail)
     obtain ⟨mm, hmm⟩ : ∃ q, w3.heap.size = q := ⟨_, rfl⟩
     rw [hmm] at HM4 ⊢
     clear hmm HXc HOc
     generalize w3.alloc (.cells #[.string x.1, .int .i64 x.2.1, .string x.2.2] 71) = W4 at HX4 HO4 HM4 ⊢
     have hxl := HX4.out.x.lt
     have k8 := (blk10z HX4.out.x).2.2.2.2.2.2.2.2.1
     obtain ⟨m0, m1, m2⟩ := HM4.out.c3
     go_wp2_with (at_builtin; refine wpList_append_lies _ rfl _ _ 25 rfl (xb + 1) 71 j0 _ 3 40 Tryd.underlying25 HJ.out.1 HJ.out.2.1 HJ.out.2.2.1 HJ.out.2.2.2 rfl (by decide) (.slice J1 j j1) j ((d.ms.take j).flatMap matCells) rfl (own_below HO4.out (bel1 _ _)) ⟨W4.heap.size, 0, none⟩ 1 1 (matCells x) rfl rfl (cells3H _ _ _ _ _ _ rfl) (mat_one x) (by decide) (by unfold maxLen; omega) (by omega) (by simp; omega) (W4.heap.size + 1) (by simp) ?_; intro g8 cap8 w8 hown8 hgr8 hat8 hlt8; have HB8 : Box (Below (xb + 1) W4 w8) := ⟨dc_step (by omega) HO4.out hgr8⟩; have HX8 : Box (Blk w8 xb 45 (insC d (.slice J1 j j1) (.slice none 0 0))) := ⟨(HB8.out.block xb (by omega)).trans HX4.out.x⟩; have f8 := (blk10z HX8.out).2.2.2.2.2.2.2.2.1; have ef8 : w8.frozen? ⟨xb, 8, none⟩ = false := HX8.out.frozen 8; have hsz8 := HB8.out.size; have HST : Box (DcX w (w8.setCell ⟨xb, 8, none⟩ (.slice (some ⟨g8, 0, none⟩) (j + 1) cap8)) h b off c B0 L pd (.slice AO m.length co) m xb d (.slice (some ⟨g8, 0, none⟩) (j + 1) cap8) (.slice none 0 0) ∧ (w8.setCell ⟨xb, 8, none⟩ (.slice (some ⟨g8, 0, none⟩) (j + 1) cap8)).ownsRow (xb + 1) 71 3 (.slice (some ⟨g8, 0, none⟩) (j + 1) cap8) (j + 1) ((d.ms.take (j + 1)).flatMap matCells) ∧ xb + 1 ≤ (w8.setCell ⟨xb, 8, none⟩ (.slice (some ⟨g8, 0, none⟩) (j + 1) cap8)).heap.size) := Box.mk (And.intro (HX4.out.turn ((HB8.out.mono (show xb ≤ xb + 1 from Nat.le_succ _)).setCell (p := ⟨xb, 8, none⟩) (Nat.le_refl _) _) (by simpa using HX8.out.set 8 (.slice (some ⟨g8, 0, none⟩) (j + 1) cap8))) (And.intro (by rw [HTK.out]; exact own_only hown8 (Only.setCell (g := xb) 8 _) (by omega)) (by simp [World.setCell]; omega))); clear hown8 hgr8 hat8 hlt8 HB8 HX8)
     go_roundw
     case rel => exact ⟨j + 1, pd, some ⟨g8, 0, none⟩, cap8, by omega, by go_num, Dpd, HST⟩
     case measure => simp [intOf]; omega
    ·have hlt2 : ¬ (j : Int) < (d.ms.length : Int) := by omega
     have hje : j = d.ms.length := by omega
     subst hje
     have hrow := HX.out.2.1
     rw [List.take_length] at hrow
     have HRW := Box.mk hrow
     have D0 : Box (L.drop pa = encI (d.bys.length : Nat) ++ (d.bys.flatMap encS ++ R)) := ⟨by rw [Dpa.out, List.drop_length, HR2.out]; rfl⟩
     clear hrow
     obtain ⟨pb, Hpb⟩ : ∃ q, Box (pa + (uvN (zig (((d.bys.length : Nat) : Int)))).length = q) := ⟨_, ⟨rfl⟩⟩
     have Dpb : Box (L.drop pb = d.bys.flatMap encS ++ R) := ⟨by rw [← Hpb.out]; exact drop_app D0.out⟩
     have C1 : Box (∀ W : World, RD h b off c L W pa → Calls Tryd.prog 52 #[.pointer (some ⟨h, 0, none⟩)] W (RetUr h b off c L pb (.int .i64 (((d.bys.length : Nat) : Int))) W)) := ⟨fun W hr => by rw [← Hpb.out]; exact rint_any h b off c pa (((d.bys.length : Nat) : Int)) L _ W hr D0.out (hbn).1 (hbn).2 HL.out⟩
     go_wp2_with fail
     refine (C1.out _ HX.out.1.rd).mono ?_
     rintro e w1 ⟨rfl, hr, hf⟩
     have HZ : Box (DcX w w1 h b off c B0 L pb (.slice AO m.length co) m xb d (.slice J1 d.ms.length j1) (.slice none 0 0) ∧ w1.ownsRow w1.heap.size 9 1 (.slice none 0 0) 0 ((d.bys.take 0).map Value.string) ∧ SeqP w1 (fun q _ => xb < q ∧ q < w1.heap.size) 3 (.slice J1 d.ms.length j1) d.ms.length (d.ms.flatMap matCells)) := ⟨HX.out.1.read hr hf, World.ownsRow_nil _ _ _ _, (SeqP.of_own (P := fun q _ => xb < q) (own_fr2 HRW.out hf (by omega)) fun q _ hq _ => hq).mono fun q _ hq hp => ⟨hp, hq⟩⟩
     have HB2 : Box (xb < w1.heap.size) := ⟨HZ.out.1.x.lt⟩
     obtain ⟨B2, hB2⟩ : ∃ B, w1.heap.size = B := ⟨_, rfl⟩
     have HSZ : Box (B2 ≤ w1.heap.size) := ⟨by omega⟩
     rw [hB2] at HZ HB2
     clear hB2 hr hf C1 HX HRW
     go_wp2_with fail
     go_loopw [80] (fun z wq => ∃ (j pa : Nat) (I1 : Option Addr) (i1 : Nat), j ≤ d.bys.length ∧ z = .int .i64 (j : Nat) ∧ Box (L.drop pa = (d.bys.drop j).flatMap encS ++ R) ∧ Box (DcX w wq h b off c B0 L pa (.slice AO m.length co) m xb d (.slice J1 d.ms.length j1) (.slice I1 j i1) ∧ wq.ownsRow B2 9 1 (.slice I1 j i1) j ((d.bys.take j).map Value.string) ∧ B2 ≤ wq.heap.size ∧ SeqP wq (fun q _ => xb < q ∧ q < B2) 3 (.slice J1 d.ms.length j1) d.ms.length (d.ms.flatMap matCells))) (fun z _ => d.bys.length - (intOf z).toNat)
     case atStart => exact ⟨0, pb, none, 0, by omega, rfl, ⟨by rw [Dpb.out]; simp⟩, ⟨HZ.out.1, HZ.out.2.1, HSZ.out, HZ.out.2.2⟩⟩
     case round =>
      clear HZ HSZ
      rename World => wq
      obtain ⟨j, pa, I1, i1, hj, rfl, Dpa, HX⟩ := hrel
      by_cases hlt : j < d.bys.length
      ·have hlt2 : (j : Int) < (d.bys.length : Int) := by omega
       obtain ⟨x, hx⟩ : ∃ x, d.bys[j]? = some x := ⟨d.bys[j], List.getElem?_eq_getElem _⟩
       have HTK : Box ((d.bys.take (j + 1)).map Value.string = (d.bys.take j).map Value.string ++ [Value.string x]) := ⟨by rw [List.take_add_one, hx]; simp⟩
       have D0 : Box (L.drop pa = encS x ++ ((d.bys.drop (j + 1)).flatMap encS ++ R)) := ⟨by
        rw [Dpa.out]
        have e : d.bys.drop j = x :: d.bys.drop (j + 1) := by rw [List.drop_eq_getElem_cons hlt, (List.getElem?_eq_some_iff.1 hx).2]
        rw [e, List.flatMap_cons, List.append_assoc]⟩
       clear hx
       obtain ⟨pb, Hpb⟩ : ∃ q, Box (pa + ((uvN (x).size ++ strB (x))).length = q) := ⟨_, ⟨rfl⟩⟩
       have Dpb : Box (L.drop pb = (d.bys.drop (j + 1)).flatMap encS ++ R) := ⟨by rw [← Hpb.out]; exact drop_app D0.out⟩
       have C1 : Box (∀ W : World, RD h b off c L W pa → Calls Tryd.prog 53 #[.pointer (some ⟨h, 0, none⟩)] W (RetUr h b off c L pb (.string (x)) W)) := ⟨fun W hr => by rw [← Hpb.out]; have hq := rtext_any h b off c pa (x) _ L W hr (by have := D0.out; unfold encS at this; rw [List.append_assoc] at this; exact this) HL.out; rw [List.length_append, strB_len, ← Nat.add_assoc]; exact hq⟩
       have k9 := (blk10z HX.out.1.x).2.2.2.2.2.2.2.2.2
       go_wp2_with fail
       refine wp_region_T (S := fun w' => w'.cell? ⟨xb, 9, none⟩ = some (.slice I1 j i1)) 7 (by kernel_rfl) (by exact cell_drew k9) (fun hHeld => ?_)
       refine wpAnyT_take (i := 0) (v := ?_) rfl (by kernel_rfl) (by kernel_rfl) (by kernel_rfl) (fun _ _ _ h => h) (by kernel_rfl) (by decide) (Or.inl ⟨by rfl, ?_⟩) (by assumption) ?_
       rotate_left
       ·(intro wq hSw; (try dsimp only at hSw); go_simp)
        all_goals with_reducible rfl
       (try simp only [List.getElem_toArray, List.getElem_cons_zero, List.getElem_cons_succ, Act.put, List.setIfInBounds_toArray, List.set_cons_zero, List.set_cons_succ])
       refine wpAnyT_take (i := 1) (v := ?_) rfl (by kernel_rfl) (by kernel_rfl) (by kernel_rfl) (fun _ _ _ h => h) (by kernel_rfl) (by decide) (Or.inl ⟨by rfl, ?_⟩) (by assumption) ?_
       rotate_left
       ·(intro wq hSw; (try dsimp only at hSw); go_simp)
        all_goals with_reducible rfl
       (try simp only [List.getElem_toArray, List.getElem_cons_zero, List.getElem_cons_succ, Act.put, List.setIfInBounds_toArray, List.set_cons_zero, List.set_cons_succ])
       refine wpAnyT_take (i := 2) (v := ?_) rfl (by kernel_rfl) (by kernel_rfl) (by kernel_rfl) (fun _ _ _ h => h) (by kernel_rfl) (by decide) (Or.inl ⟨by rfl, ?_⟩) (by assumption) ?_
       rotate_left
       ·(intro wq hSw; (try dsimp only at hSw); go_simp)
        all_goals with_reducible rfl
       (try simp only [List.getElem_toArray, List.getElem_cons_zero, List.getElem_cons_succ, Act.put, List.setIfInBounds_toArray, List.set_cons_zero, List.set_cons_succ])
       refine wpAnyT_one 3 (by kernel_rfl) rfl (fun K' hK' => ?_)
       go_simp
       refine (C1.out _ (HX.out.1.rd.below (bd1 wq))).mono ?_
       rintro e w5 ⟨rfl, hr, hf⟩
       have hfr : FR h wq.heap.size wq w5 := (FR.of_below (bd1 wq)).then_ hf
       have HX5 := Box.mk (HX.out.1.read hr hfr)
       have HO5 : Box (w5.ownsRow B2 9 1 (.slice I1 j i1) j ((d.bys.take j).map Value.string)) := ⟨own_fr2 HX.out.2.1 hfr (by have := HX.out.1.hh; have := HX.out.1.hx; have := HB2.out; omega)⟩
       have HMS5 : Box (SeqP w5 (fun q _ => xb < q ∧ q < B2) 3 (.slice J1 d.ms.length j1) d.ms.length (d.ms.flatMap matCells)) := ⟨HX.out.2.2.2.keep ⟨hfr.size, fun q e o hp hq _ => World.cell?_of_block (a := ⟨q, o, none⟩) (hfr.block q hq (by have := HX.out.1.hh; have := HX.out.1.hx; omega))⟩⟩
       have hz5 := hfr.size
       have n9 := (blk10z HX5.out.x).2.2.2.2.2.2.2.2.2
       have hxl5 := HX5.out.x.lt
       clear hr hf hfr C1
       go_wp2_with fail
       refine hK'.out _ _ (fun _ => n9) (fun hHq => ?_)
       clear hHeld
       have hHeld := hHq (by decide)
       clear hHq hK' K'
       (try simp only [List.getElem_toArray, List.getElem_cons_zero, List.getElem_cons_succ, Act.put, List.setIfInBounds_toArray, List.set_cons_zero, List.set_cons_succ])
       refine wpAnyT_one 4 (by kernel_rfl) rfl (fun K' hK' => ?_)
       (try rw [if_pos (by rfl)])
       go_simp
       refine hK'.out _ _ (fun _ => cell_alloc' _ n9) (fun hHq => ?_)
       clear hHeld
       have hHeld := hHq (by decide)
       clear hHq hK' K'
       (try simp only [List.getElem_toArray, List.getElem_cons_zero, List.getElem_cons_succ, Act.put, List.setIfInBounds_toArray, List.set_cons_zero, List.set_cons_succ])
       refine wpAnyT_one 5 (by kernel_rfl) rfl (fun K' hK' => ?_)
       (try rw [if_pos (by rfl)])
       refine wp_append_lies _ _ _ 26 rfl B2 9 s0 _ 1 16 Tryd.underlying26 HSI.out.1 HSI.out.2.1 HSI.out.2.2.1 HSI.out.2.2.2 rfl (by decide) (.slice I1 j i1) j ((d.bys.take j).map Value.string) rfl (by exact own_below HO5.out (bel1 w5 _)) ⟨w5.heap.size, 0, none⟩ 1 1 [Value.string x] rfl rfl (cells1H _ _ _ _ rfl) (fun u hu => by simp at hu; subst hu; rfl) (by decide) (by unfold maxLen; omega) (by omega) (by have := HX.out.2.2.1; simp; omega) (w5.heap.size + 1) (by simp) ?_
       intro g8 cap8 w8 hown8 hgr8 hat8 hlt8
       have HB8 : Box (Below B2 w5 w8) := ⟨dc_step (by have := HX.out.2.2.1; omega) HO5.out hgr8⟩
       have HX8 : Box (Blk w8 xb 45 (insC d (.slice J1 d.ms.length j1) (.slice I1 j i1))) := ⟨(HB8.out.block xb HB2.out).trans HX5.out.x⟩
       have f9 := (blk10z HX8.out).2.2.2.2.2.2.2.2.2
       have ef8 : w8.frozen? ⟨xb, 9, none⟩ = false := HX8.out.frozen 9
       have hsz8 := HB8.out.size
       have HST : Box (DcX w (w8.setCell ⟨xb, 9, none⟩ (.slice (some ⟨g8, 0, none⟩) (j + 1) cap8)) h b off c B0 L pb (.slice AO m.length co) m xb d (.slice J1 d.ms.length j1) (.slice (some ⟨g8, 0, none⟩) (j + 1) cap8) ∧ (w8.setCell ⟨xb, 9, none⟩ (.slice (some ⟨g8, 0, none⟩) (j + 1) cap8)).ownsRow B2 9 1 (.slice (some ⟨g8, 0, none⟩) (j + 1) cap8) (j + 1) ((d.bys.take (j + 1)).map Value.string) ∧ B2 ≤ (w8.setCell ⟨xb, 9, none⟩ (.slice (some ⟨g8, 0, none⟩) (j + 1) cap8)).heap.size ∧ SeqP (w8.setCell ⟨xb, 9, none⟩ (.slice (some ⟨g8, 0, none⟩) (j + 1) cap8)) (fun q _ => xb < q ∧ q < B2) 3 (.slice J1 d.ms.length j1) d.ms.length (d.ms.flatMap matCells)) :=
        ⟨HX5.out.turn ((HB8.out.mono (show xb ≤ B2 from Nat.le_of_lt HB2.out)).setCell (p := ⟨xb, 9, none⟩) (Nat.le_refl _) _) (by simpa using HX8.out.set 9 (.slice (some ⟨g8, 0, none⟩) (j + 1) cap8)), by rw [HTK.out]; exact own_only hown8 (Only.setCell (g := xb) 9 _) HB2.out, by simp [World.setCell]; have := HX.out.2.2.1; omega, (HMS5.out.keep (Agree.of_lt HB8.out fun q _ h => h.2)).keep (Agree.of_only (Only.setCell (g := xb) 9 _) fun q _ h => by omega)⟩
       clear hown8 hgr8 hat8 hlt8 HB8 HX8
       refine hK'.out _ _ (fun _ => f9) (fun hHq => ?_)
       clear hHeld
       have hHeld := hHq (by decide)
       clear hHq hK' K'
       (try simp only [List.getElem_toArray, List.getElem_cons_zero, List.getElem_cons_succ, Act.put, List.setIfInBounds_toArray, List.set_cons_zero, List.set_cons_succ])
       refine wpAnyT_take (i := 6) (v := ?_) rfl (by kernel_rfl) (by kernel_rfl) (by kernel_rfl) (fun _ _ _ h => h) (by kernel_rfl) (by decide) (Or.inl ⟨by rfl, ?_⟩) (by assumption) ?_
       rotate_left
       ·(intro wq hSw; (try dsimp only at hSw); go_simp)
        all_goals with_reducible rfl
       (try simp only [List.getElem_toArray, List.getElem_cons_zero, List.getElem_cons_succ, Act.put, List.setIfInBounds_toArray, List.set_cons_zero, List.set_cons_succ])
       refine wpAnyT_one 7 (by kernel_rfl) rfl (fun K' hK' => ?_)
       (try rw [if_pos (by rfl)])
       go_simp
       refine hK'.out _ _ (fun h => absurd rfl h) (fun _ => ?_)
       clear hHeld hK' K'
       (try simp only [List.getElem_toArray, List.getElem_cons_zero, List.getElem_cons_succ, Act.put, List.setIfInBounds_toArray, List.set_cons_zero, List.set_cons_succ])
       refine wpAnyT_done (by kernel_rfl) ?_ _
       go_wp2_with fail
       go_roundw
       case rel => exact ⟨j + 1, pb, some ⟨g8, 0, none⟩, cap8, by omega, by go_num, Dpb, HST⟩
       case measure => simp [intOf]; omega
      ·have hlt2 : ¬ (j : Int) < (d.bys.length : Int) := by omega
       have hje : j = d.bys.length := by omega
       subst hje
       have hrow := HX.out.2.1
       rw [List.take_length] at hrow
       have HI : Box (InsAt wq (fun q _ => xb < q) d (.slice J1 d.ms.length j1) (.slice I1 d.bys.length i1)) := ⟨⟨HOK.out d (List.mem_of_getElem? HD.out), HX.out.2.2.2.mono fun _ _ _ h => h.1, SeqP.of_own hrow fun q _ hq _ => by have := HB2.out; omega⟩⟩
       have DR : Box (L.drop pa = (l.drop (m.length + 1)).flatMap encNd) := ⟨by rw [Dpa.out, List.drop_length, HR.out]; rfl⟩
       have HMM : Box (m ++ [d] = l.take (m ++ [d]).length) := ⟨by rw [List.length_append, List.length_singleton, List.take_add_one, HD.out, ← HM.out]; first | done | rfl⟩
       obtain ⟨cs, hown, hrw⟩ := HX.out.1.out
       have HC := Box.mk (And.intro hown hrw)
       obtain ⟨k0, k1, k2, k3, k4, k5, k6, k7, k8, k9⟩ := blk10z HX.out.1.x
       have hxl := HX.out.1.x.lt
       have hxB := HX.out.1.hx
       clear hown hrw hrow
       go_wp2_with (at_builtin; refine wpList_append_lies _ rfl _ _ 36 rfl B0 45 i0 _ 10 120 Tryd.underlying36 HII.out.1 HII.out.2.1 HII.out.2.2.1 HII.out.2.2.2 rfl (by decide) (.slice AO m.length co) m.length ((m.zip cs).flatMap insL) rfl (own_below HC.out.1 (bel1 _ _)) ⟨wq.heap.size, 0, none⟩ 1 1 (insL (d, .slice J1 d.ms.length j1, .slice I1 d.bys.length i1)) rfl rfl (World.news_of_block (Blk.new _ _ _)) (ins_one _ ⟨_, _, _, rfl⟩ ⟨_, _, _, rfl⟩) (by omega) (by unfold maxLen; omega) (by omega) (by simp; omega) (wq.heap.size + 1) (by simp) ?_; intro g9 cap9 w9 hown9 hgr9 hat9 hlt9; have HO9 := Box.mk (HX.out.1.push HC.out.2 HI.out hown9 hgr9 hat9); clear hown9 hgr9 hat9 hlt9)
       go_roundw
       case rel => exact ⟨m ++ [d], pa, by have := hlt; simp only [List.length_append, List.length_cons, List.length_nil]; first | done | omega, by first | go_num | simp, HMM, ⟨by rw [DR.out]; simp⟩, HO9⟩
       case measure => simp [intOf]; omega
  ·have hlt2 : ¬ (m.length : Int) < (l.length : Int) := by omega
   have hme : m = l := by
    have h1 := HM.out
    rw [List.take_of_length_le (by omega)] at h1
    exact h1
   subst hme
   have hpe : L.length ≤ p0 := by
    have := Dp.out
    rw [List.drop_length] at this
    simpa using this
   have CE : Box (Calls Tryd.prog 54 #[.pointer (some ⟨h, 0, none⟩)] wr (RetUr h b off c L p0 (.int .i64 0) wr)) := ⟨end_any h b off c p0 L wr HO.out.rd hpe HL.out⟩
   go_wp2_with fail
   refine (CE.out).mono ?_
   rintro e w9 ⟨rfl, hr, hf⟩
   have HO9 := Box.mk (HO.out.read hr hf)
   clear hr hf CE HO
   have CK : Box (Calls Tryd.prog 19 #[.slice AO m.length co] w9 (RetB (.int .i64 0) w9)) := ⟨by have hq := pcheck_any m _ w9 HO9.out.out.any (fun d hd => by have := HSM.out.2 d hd; omega) (wordsV_g (HW.out.below HO9.out.below)); rw [HT.out] at hq; exact hq⟩
   go_wp2_with fail
   refine (CK.out).mono ?_
   rintro e wz ⟨rfl, hb⟩
   have HZ : Box (PlanP wz AnyP (.slice AO m.length co) m ∧ Below w.heap.size w wz) := ⟨HO9.out.out.any.anyB hb, bthen HO9.out.below hb (Nat.le_refl _)⟩
   clear hb CK HO9
   go_wp2_with fail
   refine bodyPost_ret (v := .tuple #[.slice AO m.length co, .int .i64 0]) (by simp [results, Tryd.results28, go_sem]) rfl ?_
   exact ⟨_, rfl, HZ.out⟩
end
end Go.Proofs.YtipafbppaaflcaaDoor
