/- Contracts, packed: Bf Bg Bi Bl. -/
import Derived.Test.YtkdojgkiclndfaaGreatDoorPx42
import Derived.Test.YtkdojgkiclndfaaGreatDoorPx46
import Derived.Test.YtkdojgkiclndfaaGreatDoorPx51
import Derived.Test.YtkdojgkiclndfaaGreatDoorPx52
set_option linter.unusedVariables false
set_option linter.unusedSimpArgs false
namespace Go.Proofs.YtkdojgkiclndfaaGreatDoor
section
open Go.RowKit FracM
end
section
open Go.RowKit FracM
end
section
open Go.RowKit FracM
theorem planP_ok {w : World} {P : Nat → Nat → Prop} {v : Value} {l : List Nd} (h : PlanP w P v l) : ∀ d ∈ l, NdOk d := by
 obtain ⟨cs, -, h2⟩ := h.rows
 intro d hd
 obtain ⟨i, hi⟩ := List.mem_iff_getElem?.1 hd
 obtain ⟨s, hs⟩ : ∃ s, cs[i]? = some s := ⟨cs[i]'(by rw [h2.1]; exact (List.getElem?_eq_some_iff.1 hi).1), List.getElem?_eq_getElem _⟩
 exact (h2.2 i d s hi hs).ok
end
section
open Go.RowKit FracM
theorem lst_bsL0 (l : List UInt8) : lst (bsL l) = l := by unfold bsL; simp [lst]
theorem uvN_pos (n : Nat) : 0 < (uvN n).length := by rw [uvN]; split <;> simp
theorem encPl_pos (l : List Nd) : 0 < (encPl l).length := by
 unfold encPl encI
 rw [List.length_append]
 have := uvN_pos (zig (l.length : Int))
 omega
set_option maxHeartbeats 16000000 in
set_option maxRecDepth 100000 in
theorem planPrinted_walk (AL : Option Addr) (nl cl : Nat) (ll : List Int) (w : World) (hw : LibP w) (h1 : Ints w w.heap.size (.slice AL nl cl) ll) :
  Calls Tryz.prog 5 #[.slice AL nl cl] w fun e w' => e = .returned (.bool true) ∧ Below w.heap.size w w' := by
 have HW := Box.mk hw
 have HWV := Box.mk hw.v
 have HL := Box.mk h1.toP
 clear hw h1
 go_enter Tryz.func5, Tryz.ntmps5
 go_wp2_with fail
 with_reducible refine (expr0_any _ ll _ HL.out).mono ?_
 rintro e0 w1 ⟨t1, s1, rfl, hta, hga, hda, hna, hba⟩
 obtain ⟨xd, xs⟩ := t1
 obtain ⟨q1, q2, q3⟩ := s1
 obtain ⟨XT1, x1, rfl, -⟩ := hta.form.1
 obtain ⟨XT2, x2, rfl, -⟩ := hta.form.2.1
 obtain ⟨XT3, x3, rfl, -⟩ := hta.form.2.2
 simp only [Tree.d]
 have HVx : Box (validE (.node xd xs) = 0) := ⟨good_valid ns6_ok (by omega) hga (by omega) (by omega)⟩
 have HNx : Box (nds (.node xd xs) ≤ 15) := ⟨hna⟩
 have HTT : Box (TreeAt w1 AnyP (.node xd xs) (.slice XT1 xd.ms.length x1, .slice XT2 xd.bys.length x2, .slice XT3 xs.length x3)) := ⟨by obtain ⟨Lf, h⟩ := hta; exact h.tree.mono fun _ _ _ _ => trivial⟩
 have hs : Below w.heap.size w (w1.alloc (.cells (ndC xd (.slice XT1 xd.ms.length x1) (.slice XT2 xd.bys.length x2) (.slice XT3 xs.length x3)) 33)) := bthen hba (bel1 _ _) (Nat.le_refl _)
 obtain ⟨g1, g2, g3⟩ := good_round ns6_ok (by omega) hga (by omega) (by omega)
 obtain ⟨zb, hzb⟩ : ∃ z, z = bsL (showT (.node xd xs)) := ⟨_, rfl⟩
 have HPR : Box (∀ W', TreeAt W' AnyP (.node xd xs) (.slice XT1 xd.ms.length x1, .slice XT2 xd.bys.length x2, .slice XT3 xs.length x3) → LibP W' → Calls Tryz.prog 16 #[.agg (ndC xd (.slice XT1 xd.ms.length x1) (.slice XT2 xd.bys.length x2) (.slice XT3 xs.length x3))] W' (RetB (.tuple #[.string zb, .int .i64 0]) W')) := ⟨fun W' hT hl => by rw [hzb]; exact print_at (.node xd xs) (showT (.node xd xs)) 0 AnyP W' (.slice XT1 xd.ms.length x1, .slice XT2 xd.bys.length x2, .slice XT3 xs.length x3) hT hl g1⟩
 have HPA : Box (∀ W', WordsV W' → Calls Tryz.prog 17 #[.string zb] W' fun e w' => ∃ mv bv kv, e = .returned (.tuple #[.agg (ndC xd mv bv kv), .int .i64 0, .int .i64 0]) ∧ TreeAt w' (fun b _ => W'.heap.size ≤ b) (.node xd xs) (mv, bv, kv) ∧ Below W'.heap.size W' w') := ⟨fun W' hw => by
  refine parse_at _ (.node xd xs) 0 0 W' ?_ hw (by rw [hzb, lst_bsL0]; exact g2)
  rw [hzb, ← data_size, show (bsL (showT (.node xd xs))).data.toList = showT (.node xd xs) from lst_bsL0 _]; unfold maxLen; omega⟩
 have H1 : Box (Below w.heap.size w (w1.alloc (.cells (ndC xd (.slice XT1 xd.ms.length x1) (.slice XT2 xd.bys.length x2) (.slice XT3 xs.length x3)) 33)) ∧ TB (w1.alloc (.cells (ndC xd (.slice XT1 xd.ms.length x1) (.slice XT2 xd.bys.length x2) (.slice XT3 xs.length x3)) 33)) w1.heap.size (.node xd xs) (.slice XT1 xd.ms.length x1, .slice XT2 xd.bys.length x2, .slice XT3 xs.length x3)) := ⟨hs, TB.new HTT.out⟩
 clear hta hga hda hna hba HTT hs HL g1 g2 g3 hzb
 go_upto_region 2 with (fail)
 obtain ⟨gx, hgx⟩ : ∃ g, w1.heap.size = g := ⟨_, rfl⟩
 rw [hgx] at H1 ⊢
 clear hgx
 generalize (w1.alloc (.cells (ndC xd (.slice XT1 xd.ms.length x1) (.slice XT2 xd.bys.length x2) (.slice XT3 xs.length x3)) 33)) = W1 at H1 ⊢
 obtain ⟨k0, k1, k2, k3, k4, k5, k6, k7, k8, k9, k10⟩ := blk11z (d := xd) H1.out.2.box
 go_wp2_with fail
 with_reducible refine (HPR.out _ H1.out.2.tr (HW.out.below H1.out.1)).mono ?_
 rintro e2 w2 ⟨rfl, hb⟩
 have H2 : Box (Below w.heap.size w w2 ∧ TB w2 gx (.node xd xs) (.slice XT1 xd.ms.length x1, .slice XT2 xd.bys.length x2, .slice XT3 xs.length x3)) := ⟨bthen H1.out.1 hb (Nat.le_refl _), H1.out.2.next hb⟩
 clear hb H1 HPR k0 k1 k2 k3 k4 k5 k6 k7 k8 k9 k10
 go_wp2_with fail
 with_reducible refine (HPA.out _ (HW.out.below H2.out.1).v).mono ?_
 rintro e3 w3 ⟨mv, bv, kv, rfl, hT, hb⟩
 obtain ⟨ZT1, z1, rfl, -⟩ := hT.nod.ms.form
 obtain ⟨ZT2, z2, rfl, -⟩ := hT.nod.bys.form
 obtain ⟨ZT3, z3, rfl, -⟩ := hT.nod.kform
 simp only [Tree.d]
 have hs : Below w2.heap.size w2 (w3.alloc (.cells (ndC xd (.slice ZT1 xd.ms.length z1) (.slice ZT2 xd.bys.length z2) (.slice ZT3 xs.length z3)) 33)) := bthen hb (bel1 _ _) (Nat.le_refl _)
 have H3 : Box (Below w.heap.size w (w3.alloc (.cells (ndC xd (.slice ZT1 xd.ms.length z1) (.slice ZT2 xd.bys.length z2) (.slice ZT3 xs.length z3)) 33)) ∧ TB (w3.alloc (.cells (ndC xd (.slice ZT1 xd.ms.length z1) (.slice ZT2 xd.bys.length z2) (.slice ZT3 xs.length z3)) 33)) gx (.node xd xs) (.slice XT1 xd.ms.length x1, .slice XT2 xd.bys.length x2, .slice XT3 xs.length x3) ∧ TB (w3.alloc (.cells (ndC xd (.slice ZT1 xd.ms.length z1) (.slice ZT2 xd.bys.length z2) (.slice ZT3 xs.length z3)) 33)) w3.heap.size (.node xd xs) (.slice ZT1 xd.ms.length z1, .slice ZT2 xd.bys.length z2, .slice ZT3 xs.length z3)) := ⟨bthen H2.out.1 hs (Nat.le_refl _), H2.out.2.next hs, TB.new (hT.mono fun _ _ _ _ => trivial)⟩
 clear hT hb hs H2 HPA
 go_upto_region 4 with (fail)
 obtain ⟨gz, hgz⟩ : ∃ g, w3.heap.size = g := ⟨_, rfl⟩
 rw [hgz] at H3 ⊢
 clear hgz
 generalize (w3.alloc (.cells (ndC xd (.slice ZT1 xd.ms.length z1) (.slice ZT2 xd.bys.length z2) (.slice ZT3 xs.length z3)) 33)) = W3 at H3 ⊢
 obtain ⟨pl, hpl⟩ : ∃ l, postT (.node xd xs) = l := ⟨_, rfl⟩
 have HLpl := Box.mk hpl
 have HSpl : Box (∀ d ∈ pl, SmallD d) := ⟨by rw [← hpl]; exact small_post HVx.out⟩
 have HTpl : Box ((treeM pl).2 = 0) := ⟨by rw [← hpl, tree_post HVx.out]⟩
 have CA : Box (∀ W : World, TreeAt W AnyP (.node xd xs) (.slice XT1 xd.ms.length x1, .slice XT2 xd.bys.length x2, .slice XT3 xs.length x3) → WordsG W → Calls Tryz.prog 18 #[.agg (ndC xd (.slice XT1 xd.ms.length x1) (.slice XT2 xd.bys.length x2) (.slice XT3 xs.length x3))] W (RetPlF (pl, 0) W)) := ⟨fun W h g => by rw [← hpl, ← compileM_ok HVx.out]; exact pcompile_any (.node xd xs) _ W (.slice XT1 xd.ms.length x1, .slice XT2 xd.bys.length x2, .slice XT3 xs.length x3) h g⟩
 clear hpl
 obtain ⟨k0, k1, k2, k3, k4, k5, k6, k7, k8, k9, k10⟩ := blk11z (d := xd) H3.out.2.1.box
 go_wp2_with fail
 with_reducible refine (CA.out _ H3.out.2.1.tr (wordsV_g (HWV.out.below H3.out.1))).mono ?_
 rintro e2 w4 ⟨pv', rfl, hp, hb⟩
 obtain ⟨PA, pc, rfl⟩ := hp.form
 have H4 : Box (Below w.heap.size w w4 ∧ TB w4 gx (.node xd xs) (.slice XT1 xd.ms.length x1, .slice XT2 xd.bys.length x2, .slice XT3 xs.length x3) ∧ TB w4 gz (.node xd xs) (.slice ZT1 xd.ms.length z1, .slice ZT2 xd.bys.length z2, .slice ZT3 xs.length z3) ∧ PlanP w4 AnyP (.slice PA pl.length pc) pl) := ⟨bthen H3.out.1 hb (Nat.le_refl _), H3.out.2.1.next hb, H3.out.2.2.next hb, hp.any⟩
 have HKpl : Box (∀ d ∈ pl, NdOk d) := ⟨planP_ok hp.any⟩
 clear hp hb H3 CA k0 k1 k2 k3 k4 k5 k6 k7 k8 k9 k10
 have CA : Box (∀ W : World, TreeAt W AnyP (.node xd xs) (.slice ZT1 xd.ms.length z1, .slice ZT2 xd.bys.length z2, .slice ZT3 xs.length z3) → WordsG W → Calls Tryz.prog 18 #[.agg (ndC xd (.slice ZT1 xd.ms.length z1) (.slice ZT2 xd.bys.length z2) (.slice ZT3 xs.length z3))] W (RetPlF (pl, 0) W)) := ⟨fun W h g => by rw [← HLpl.out, ← compileM_ok HVx.out]; exact pcompile_any (.node xd xs) _ W (.slice ZT1 xd.ms.length z1, .slice ZT2 xd.bys.length z2, .slice ZT3 xs.length z3) h g⟩
 obtain ⟨k0, k1, k2, k3, k4, k5, k6, k7, k8, k9, k10⟩ := blk11z (d := xd) H4.out.2.2.1.box
 go_wp2_with fail
 with_reducible refine (CA.out _ H4.out.2.2.1.tr (wordsV_g (HWV.out.below H4.out.1))).mono ?_
 rintro e5 w5 ⟨qv', rfl, hp, hb⟩
 obtain ⟨QA, qc, rfl⟩ := hp.form
 have H5 : Box (Below w.heap.size w w5 ∧ TB w5 gx (.node xd xs) (.slice XT1 xd.ms.length x1, .slice XT2 xd.bys.length x2, .slice XT3 xs.length x3) ∧ TB w5 gz (.node xd xs) (.slice ZT1 xd.ms.length z1, .slice ZT2 xd.bys.length z2, .slice ZT3 xs.length z3) ∧ PlanP w5 AnyP (.slice PA pl.length pc) pl ∧ PlanP w5 AnyP (.slice QA pl.length qc) pl) := ⟨bthen H4.out.1 hb (Nat.le_refl _), H4.out.2.1.next hb, H4.out.2.2.1.next hb, H4.out.2.2.2.anyB hb, hp.any⟩
 clear hp hb H4 CA k0 k1 k2 k3 k4 k5 k6 k7 k8 k9 k10
 obtain ⟨bl, hbl⟩ : ∃ l, encPl pl = l := ⟨_, rfl⟩
 have HEbg := Box.mk hbl
 have HE0bg : Box (0 < bl.length) := ⟨by rw [← hbl]; exact encPl_pos _⟩
 have CE : Box (∀ W : World, PlanP W AnyP (.slice PA pl.length pc) pl → WordsV W → Calls Tryz.prog 19 #[.slice PA pl.length pc] W (RetEn (bl, 0) W)) := ⟨fun W h1 h2 => by have h := pencode_any pl _ W h1 HSpl.out h2; unfold encM at h; rw [if_pos HTpl.out, hbl] at h; exact h⟩
 clear hbl
 go_wp2_with fail
 with_reducible refine (CE.out _ H5.out.2.2.2.1 (HWV.out.below H5.out.1)).mono ?_
 rintro e4 w6 ⟨bv', rfl, hown, hlen, hb⟩
 have hseq : SeqP w6 AnyP 1 bv' bl.length (u8L bl) := SeqP.of_own hown (fun _ _ _ _ => trivial)
 obtain ⟨bg, bc, rfl, -, hsq⟩ := SqB.of_own hown HE0bg.out
 have HELbg : Box (bl.length ≤ 300000) := ⟨hlen⟩
 have H6 : Box (Below w.heap.size w w6 ∧ TB w6 gx (.node xd xs) (.slice XT1 xd.ms.length x1, .slice XT2 xd.bys.length x2, .slice XT3 xs.length x3) ∧ TB w6 gz (.node xd xs) (.slice ZT1 xd.ms.length z1, .slice ZT2 xd.bys.length z2, .slice ZT3 xs.length z3) ∧ PlanP w6 AnyP (.slice PA pl.length pc) pl ∧ PlanP w6 AnyP (.slice QA pl.length qc) pl ∧ SeqP w6 AnyP 1 (.slice (some ⟨bg, 0, none⟩) bl.length bc) bl.length (u8L bl) ∧ SqB w6 bg 0 bl) := ⟨bthen H5.out.1 hb (Nat.le_refl _), H5.out.2.1.next hb, H5.out.2.2.1.next hb, H5.out.2.2.2.1.anyB hb, H5.out.2.2.2.2.anyB hb, hseq, hsq⟩
 clear hseq hsq hown hlen hb H5 CE
 have CE : Box (∀ W : World, PlanP W AnyP (.slice QA pl.length qc) pl → WordsV W → Calls Tryz.prog 19 #[.slice QA pl.length qc] W (RetEn (bl, 0) W)) := ⟨fun W h1 h2 => by have h := pencode_any pl _ W h1 HSpl.out h2; unfold encM at h; rw [if_pos HTpl.out, HEbg.out] at h; exact h⟩
 go_wp2_with fail
 with_reducible refine (CE.out _ H6.out.2.2.2.2.1 (HWV.out.below H6.out.1)).mono ?_
 rintro e7 w7 ⟨bv', rfl, hown, hlen, hb⟩
 have hseq : SeqP w7 AnyP 1 bv' bl.length (u8L bl) := SeqP.of_own hown (fun _ _ _ _ => trivial)
 obtain ⟨cg, cc, rfl, -, hsq⟩ := SqB.of_own hown HE0bg.out
 have H7 : Box (Below w.heap.size w w7 ∧ TB w7 gx (.node xd xs) (.slice XT1 xd.ms.length x1, .slice XT2 xd.bys.length x2, .slice XT3 xs.length x3) ∧ TB w7 gz (.node xd xs) (.slice ZT1 xd.ms.length z1, .slice ZT2 xd.bys.length z2, .slice ZT3 xs.length z3) ∧ PlanP w7 AnyP (.slice PA pl.length pc) pl ∧ PlanP w7 AnyP (.slice QA pl.length qc) pl ∧ SeqP w7 AnyP 1 (.slice (some ⟨bg, 0, none⟩) bl.length bc) bl.length (u8L bl) ∧ SqB w7 bg 0 bl ∧ SeqP w7 AnyP 1 (.slice (some ⟨cg, 0, none⟩) bl.length cc) bl.length (u8L bl)) := ⟨bthen H6.out.1 hb (Nat.le_refl _), H6.out.2.1.next hb, H6.out.2.2.1.next hb, H6.out.2.2.2.1.anyB hb, H6.out.2.2.2.2.1.anyB hb, H6.out.2.2.2.2.2.1.belo hb, H6.out.2.2.2.2.2.2.below hb, hseq⟩
 clear hseq hsq hown hlen hb H6 CE
 have CB : Box (Calls Tryz.prog 20 #[.slice (some ⟨bg, 0, none⟩) bl.length bc, .slice (some ⟨cg, 0, none⟩) bl.length cc] w7 (RetB (.bool true) w7)) := ⟨by have hl := HELbg.out; have h := sameBytes_any _ _ _ _ AnyP AnyP bl bl w7 H7.out.2.2.2.2.2.1 H7.out.2.2.2.2.2.2.2 (by omega) (by omega); rw [decide_eq_true (rfl : bl = bl)] at h; exact h⟩
 go_wp2_with fail
 refine (CB.out).mono ?_
 rintro e8 w8 ⟨rfl, hb⟩
 have H8 : Box (Below w.heap.size w w8) := ⟨bthen H7.out.1 hb (Nat.le_refl _)⟩
 clear hb CB H7
 go_wp2_with fail
 refine (plives_true w8 (HWV.out.below H8.out)).mono ?_
 rintro e9 wL ⟨rfl, hb⟩
 have HBL : Box (Below w.heap.size w wL) := ⟨bthen H8.out hb (Nat.le_refl _)⟩
 clear hb
 go_wp2_with fail
 go_ret
 exact ⟨rfl, HBL.out⟩
end
end Go.Proofs.YtkdojgkiclndfaaGreatDoor
