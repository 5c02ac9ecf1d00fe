/- Contracts, packed: Ed. -/
import Derived.Test.YthoibeajhdhdhaaGreatDoorPs51
import Derived.Test.YthoibeajhdhdhaaGreatDoorPs52
set_option linter.unusedVariables false
set_option linter.unusedSimpArgs false
namespace Go.Proofs.YthoibeajhdhdhaaGreatDoor
section
open Go.RowKit FracM
theorem lst_bsL5 (l : List UInt8) : lst (bsL l) = l := by unfold bsL; simp [lst]
/-- the text Spaced makes of a text whose tokens are es -/
theorem spM_Lx {S : List UInt8} {es : List ETok} {sl : List Int} (h : Lx S es) (hl : S.length ≤ 2000) : Lx (lst (spM (bsL S) sl)) es := by
 obtain ⟨T, h1, h2⟩ := h S.length 0 (Nat.le_refl _)
 obtain ⟨-, -, h3⟩ := sp_lex S (wsF sl) (wsF_spc sl) S.length 0 T (0 + S.length) (Nat.zero_le _) (by rw [List.drop_zero]; exact h1) (by omega)
 have h4 := (h3 0).1
 unfold spM
 rw [bsL_sz, lst_bsL5, h1, if_pos ⟨hl, rfl⟩, lst_bsL5, ← h2]
 exact h4
theorem spM_big {s : ByteArray} {sl : List Int} (h : 2000 < s.size) : spM s sl = s := by
 unfold spM; rw [if_neg (by omega)]
theorem spM_len (s : ByteArray) (sl : List Int) (hs : s.size ≤ 10000) : (spM s sl).size ≤ 5000000 := by
 unfold spM
 split
 ·next h =>
  have hl : (lst s).length = s.size := data_size s
  rw [bsL_sz, spP_all (lst s) (wsF sl) _ _ (Nat.le_refl _), List.drop_length, spS, List.length_append]
  have h1 := spP_len (lst s) sl (lexM s.size 0 (lst s)).1 (lexM s.size 0 (lst s)).1.length
  have h2 := lexM_len s.size 0 (lst s)
  have h3 : (wsF sl (lexM s.size 0 (lst s)).1.length).length ≤ 2 := wsL_len _
  have h4 : ((lst s).length + 2) * (lexM s.size 0 (lst s)).1.length ≤ 2002 * 2000 := Nat.mul_le_mul (by omega) (by omega)
  omega
 ·omega
/-- what is known of a tree that the generator made -/
theorem sp_facts {t : Tree} (h : GoodT ns6 4096 t) (h1 : dep t ≤ 4) (h2 : nds t ≤ 15) (sl : List Int) : ∃ z V : ByteArray, bsL (showT t) = z ∧ bsL (showR true t 1) = V ∧ printT t = (showT t, 0) ∧ z.size ≤ 2000 ∧ V.size ≤ 9200 ∧
  ((spM z sl).size ≤ 2000 → parseT (lst (spM z sl)) = (t, 0, 0)) ∧ ((spM V sl).size ≤ 2000 → parseT (lst (spM V sl)) = (t, 0, 0)) ∧
  (lexM z.size 0 (lst z)).2.1 = 0 ∧ (lexM (spM z sl).size 0 (lst (spM z sl))).2.1 = 0 ∧
  (lexM (spM z sl).size 0 (lst (spM z sl))).1.map er = (lexM z.size 0 (lst z)).1.map er := by
 obtain ⟨g1, g2, g3⟩ := good_round ns6_ok (by omega) h (by omega) (by omega)
 have hc := good_chk ns6_ok (by omega) h
 have hn := (good_show ns6_ok (by omega) h).2
 have hp := prt_nat t hn
 have hf : fitB t = true := by unfold fitB; simp only [Bool.and_eq_true, decide_eq_true_eq]; omega
 have hx : Lx (showT t) (toksT t) := by
  have := Lx_show t hc hp [] [] (nh_nil _) Lx_nil
  simpa only [List.append_nil] using this
 have hy : Lx (showR true t 1) (tF t) := by
  have := Lx_full t hc hp 1 [] [] (nh_nil _) Lx_nil
  simpa only [List.append_nil] using this
 have hX := spM_Lx (sl := sl) hx g3
 refine ⟨_, _, rfl, rfl, g1, by rw [bsL_sz]; exact g3, ?_, fun hs => ?_, fun hs => ?_, ?_, ?_, ?_⟩
 ·have := showR_len true t hc 1
  rw [bsL_sz]; omega
 ·refine parse_Lx hX (by rw [show (lst (spM (bsL (showT t)) sl)).length = _ from data_size _]; exact hs) (fun en n T hn' hT => ?_) hf
  have := expr_done ((back_all t hc).expr en n T [] hn' (by simpa using hT) ⟨⟨rfl, rfl, rfl⟩, rfl, rfl⟩) ⟨⟨⟨rfl, rfl, rfl⟩, rfl, rfl⟩, rfl, rfl⟩
  rwa [norm_nat t hc hn] at this
 ·have hv : (showR true t 1).length ≤ 2000 := by
   rcases Nat.lt_or_ge 2000 (showR true t 1).length with hb | hb
   ·rw [spM_big (by rw [bsL_sz]; exact hb), bsL_sz] at hs; omega
   ·exact hb
  refine parse_Lx (spM_Lx (sl := sl) hy hv) (by rw [show (lst (spM (bsL (showR true t 1)) sl)).length = _ from data_size _]; exact hs) (fun en n T hn' hT => ?_) hf
  have := (backF_all t hc).expr (en := en) (n := n) (ts := T) (es := []) hn' (by simpa using hT) ⟨⟨⟨rfl, rfl, rfl⟩, rfl, rfl⟩, rfl, rfl⟩
  rwa [norm_nat t hc hn] at this
 ·obtain ⟨T, e1, -⟩ := hx (showT t).length 0 (Nat.le_refl _)
  rw [bsL_sz, lst_bsL5, e1]
 ·obtain ⟨T, e1, -⟩ := hX (spM (bsL (showT t)) sl).size 0 (by rw [show (lst (spM (bsL (showT t)) sl)).length = _ from data_size _]; exact Nat.le_refl _)
  rw [e1]
 ·obtain ⟨T, e1, e2⟩ := hX (spM (bsL (showT t)) sl).size 0 (by rw [show (lst (spM (bsL (showT t)) sl)).length = _ from data_size _]; exact Nat.le_refl _)
  obtain ⟨T', e3, e4⟩ := hx (showT t).length 0 (Nat.le_refl _)
  rw [e1, bsL_sz, lst_bsL5, e3, e2, e4]
/-- the trees in memory -/
structure SP (w W : World) (l : List (Nat × Tree × Sl)) : Prop where
 below : Below w.heap.size w W
 tb : ∀ x ∈ l, TB W x.1 x.2.1 x.2.2
theorem SP.next {w W W' : World} {l : List (Nat × Tree × Sl)} (h : SP w W l) (hb : Below W.heap.size W W') : SP w W' l := ⟨bthen h.below hb (Nat.le_refl _), fun x hx => (h.tb x hx).next hb⟩
theorem SP.cons {w W W1 : World} {l : List (Nat × Tree × Sl)} {P : Nat → Nat → Prop} {d : Nd} {ks : List Tree} {mv bv kv : Value} (h : SP w W l) (hT : TreeAt W1 P (.node d ks) (mv, bv, kv)) (hb : Below W.heap.size W W1) : SP w (W1.alloc (.cells (ndC d mv bv kv) 29)) ((W1.heap.size, .node d ks, (mv, bv, kv)) :: l) := by
 have h2 := (h.next hb).next (bel1 W1 (.cells (ndC d mv bv kv) 29))
 have hn : TB (W1.alloc (.cells (ndC d mv bv kv) 29)) W1.heap.size (.node d ks) (mv, bv, kv) := TB.new (t := .node d ks) (s := (mv, bv, kv)) (hT.mono fun _ _ _ _ => trivial)
 refine ⟨h2.below, fun x hx => ?_⟩
 rcases List.mem_cons.1 hx with rfl | hx
 ·exact hn
 ·exact h2.tb x hx
theorem SP.nil (w : World) : SP w w [] := ⟨Below.refl _ _, fun x hx => by cases hx⟩
theorem SP.a0 {w W : World} {x : Nat × Tree × Sl} {l : List (Nat × Tree × Sl)} (h : SP w W (x :: l)) : TB W x.1 x.2.1 x.2.2 := h.tb x (by simp)
theorem SP.a1 {w W : World} {x y : Nat × Tree × Sl} {l : List (Nat × Tree × Sl)} (h : SP w W (y :: x :: l)) : TB W x.1 x.2.1 x.2.2 := h.tb x (by simp)
theorem SP.a2 {w W : World} {x y z : Nat × Tree × Sl} {l : List (Nat × Tree × Sl)} (h : SP w W (z :: y :: x :: l)) : TB W x.1 x.2.1 x.2.2 := h.tb x (by simp)
theorem Ints.up5 {w : World} {B : Nat} {v : Value} {l : List Int} (h : Ints w B v l) : Ints w w.heap.size v l := by
 obtain ⟨⟨h1, A, c, hv, hn, hc, hx⟩, hz⟩ := h
 refine ⟨⟨h1, A, c, hv, hn, hc, fun h0 => ?_⟩, hz⟩
 obtain ⟨b, off, hA, hf, hcl⟩ := hx h0
 exact ⟨b, off, hA, ⟨hf.1, .inl hf.1⟩, hcl⟩
theorem pq_refl (d : Nd) (ks : List Tree) (mv bv kv mv' bv' kv' : Value) : Box (∀ W', TreeAt W' AnyP (.node d ks) (mv, bv, kv) → TreeAt W' AnyP (.node d ks) (mv', bv', kv') → Calls Tryz.prog 32 #[.agg (ndC d mv bv kv), .agg (ndC d mv' bv' kv')] W' (RetB (.bool true) W')) := ⟨fun W' h1 h2 => by
 have h := pequal_any (.node d ks) (.node d ks) AnyP AnyP W' (mv, bv, kv) (mv', bv', kv') h1 h2
 rw [eqT_refl] at h
 exact h⟩
set_option maxHeartbeats 8000000 in
set_option maxRecDepth 100000 in
theorem parserSpaced_walk (AL : Option Addr) (nl cl : Nat) (ll : List Int) (AS : Option Addr) (ns cs : Nat) (sl : List Int) (w : World) (hw : LibP w) (h1 : Ints w w.heap.size (.slice AL nl cl) ll) (h2 : Ints w w.heap.size (.slice AS ns cs) sl) :
  Calls Tryz.prog 8 #[.slice AL nl cl, .slice AS ns cs] w fun e w' => e = .returned (.bool true) ∧ Below w.heap.size w w' := by
 have HW := Box.mk hw
 have HL := Box.mk h1.toPv
 have HS := Box.mk h2
 clear hw h1 h2
 go_enter Tryz.func8, Tryz.ntmps8
 go_wp2_with fail
 refine (expr0_any _ ll _ HL.out).mono ?_
 rintro e0 w1 ⟨t1, s1, rfl, htree, hgt, hdp, hnd, hb1⟩
 obtain ⟨xd, xs⟩ := t1
 obtain ⟨q1, q2, q3⟩ := s1
 obtain ⟨xT1, x1, rfl, -⟩ := htree.form.1
 obtain ⟨xT2, x2, rfl, -⟩ := htree.form.2.1
 obtain ⟨xT3, x3, rfl, -⟩ := htree.form.2.2
 simp only [Tree.d]
 have HG : Box (chk (.node xd xs) = 0 ∧ prtB (.node xd xs) = true ∧ nds (.node xd xs) ≤ 15) := ⟨good_chk ns6_ok (by omega) hgt, prt_nat _ (good_show ns6_ok (by omega) hgt).2, hnd⟩
 obtain ⟨z, V, hz, hV, hpr, hzs, hVs, hpx, hpy, hlz, hlt, hmap⟩ := sp_facts hgt hdp hnd sl
 obtain ⟨X, HX⟩ : ∃ X, Box (spM z sl = X) := ⟨_, ⟨rfl⟩⟩
 obtain ⟨Y, HY⟩ : ∃ Y, Box (spM V sl = Y) := ⟨_, ⟨rfl⟩⟩
 have HXZ : Box (X.size ≤ maxLen ∧ Y.size ≤ maxLen) := ⟨by
  have h1 := spM_len z sl (by omega)
  have h2 := spM_len V sl (by omega)
  rw [HX.out] at h1
  rw [HY.out] at h2
  unfold maxLen; omega⟩
 rw [HX.out] at hpx hlt hmap
 rw [HY.out] at hpy
 have HPX := Box.mk hpx
 have HPY := Box.mk hpy
 have HTK := Box.mk (And.intro hlz (And.intro hlt hmap))
 have HZV := Box.mk (And.intro hz hV)
 have HPR := Box.mk hpr
 have HS0 : Box (SP w (w1.alloc (.cells (ndC xd (.slice xT1 xd.ms.length x1) (.slice xT2 xd.bys.length x2) (.slice xT3 xs.length x3)) 29)) [(w1.heap.size, .node xd xs, (.slice xT1 xd.ms.length x1, .slice xT2 xd.bys.length x2, .slice xT3 xs.length x3))]) := by
  obtain ⟨L, h⟩ := htree
  exact ⟨(SP.nil w).cons h.tree hb1⟩
 clear htree hgt hdp hnd hb1 HL hz hV hpr hpx hpy hlz hlt hmap
 go_upto_region 2 with (fail)
 generalize hgx : w1.heap.size = gx at *
 generalize (w1.alloc (.cells (ndC xd (.slice xT1 xd.ms.length x1) (.slice xT2 xd.bys.length x2) (.slice xT3 xs.length x3)) 29)) = W1 at HS0 ⊢
 clear hgx
 obtain ⟨k0, k1, k2, k3, k4, k5, k6, k7, k8, k9, k10⟩ := blk11z (d := xd) HS0.out.a0.box
 go_wp2_with fail
 refine (print_at (.node xd xs) (showT (.node xd xs)) 0 AnyP _ (.slice xT1 xd.ms.length x1, .slice xT2 xd.bys.length x2, .slice xT3 xs.length x3) HS0.out.a0.tr (HW.out.below HS0.out.below) HPR.out).mono ?_
 rintro e w3 ⟨rfl, hb⟩
 clear k0 k1 k2 k3 k4 k5 k6 k7 k8 k9 k10
 have HS1 := Box.mk (HS0.out.next hb)
 clear hb HS0
 rw [HZV.out.1]
 go_wp2_with fail
 refine (spaced_any z _ _ _ sl _ (by unfold maxLen; omega) (HS.out.below HS1.out.below).up5).mono ?_
 rintro e w4 ⟨rfl, hb⟩
 rw [HX.out]
 have HS2 := Box.mk (HS1.out.next hb)
 clear hb HS1
 obtain ⟨k0, k1, k2, k3, k4, k5, k6, k7, k8, k9, k10⟩ := blk11z (d := xd) HS2.out.a0.box
 go_wp2_with fail
 refine (rloose_any (.node xd xs) AnyP _ (.slice xT1 xd.ms.length x1, .slice xT2 xd.bys.length x2, .slice xT3 xs.length x3) HS2.out.a0.tr HG.out.1 HG.out.2.1 (by have := HG.out.2.2; omega)).mono ?_
 rintro e w5 ⟨rfl, hb⟩
 clear k0 k1 k2 k3 k4 k5 k6 k7 k8 k9 k10
 rw [HZV.out.2]
 have HS3 := Box.mk (HS2.out.next hb)
 clear hb HS2
 go_wp2_with fail
 refine (spaced_any V _ _ _ sl _ (by unfold maxLen; omega) (HS.out.below HS3.out.below).up5).mono ?_
 rintro e w6 ⟨rfl, hb⟩
 rw [HY.out]
 have HS4 := Box.mk (HS3.out.next hb)
 clear hb HS3
 go_wp2_with fail
 refine (pparse_any X _ HXZ.out.1 (HW.out.below HS4.out.below).v).mono ?_
 rintro e w7 ⟨mv, bv, kv, rfl, hT, hb⟩
 have HPX2 : Box (X.size ≤ 2000 → (parseT (lst X)).1 = .node xd xs ∧ (parseT (lst X)).2.2 = 0) := ⟨fun h => by rw [HPX.out h]; exact ⟨rfl, rfl⟩⟩
 obtain ⟨yt, HTy⟩ : ∃ a, Box ((parseT (lst X)).1 = a) := ⟨_, ⟨rfl⟩⟩
 obtain ⟨yp, HAy⟩ : ∃ a, Box ((parseT (lst X)).2.1 = a) := ⟨_, ⟨rfl⟩⟩
 obtain ⟨ye, HEy⟩ : ∃ a, Box ((parseT (lst X)).2.2 = a) := ⟨_, ⟨rfl⟩⟩
 rw [HTy.out] at hT HPX2
 rw [HEy.out] at HPX2
 rw [HTy.out, HAy.out, HEy.out]
 obtain ⟨yd, ys⟩ := yt
 simp only [Tree.d] at hT ⊢
 obtain ⟨yT1, y1, rfl, -⟩ := hT.nod.ms.form
 obtain ⟨yT2, y2, rfl, -⟩ := hT.nod.bys.form
 obtain ⟨yT3, y3, rfl, -⟩ := hT.nod.kform
 have HS5 := Box.mk (HS4.out.cons hT hb)
 clear hT hb HS4 HPX HTy HAy HEy
 go_upto_region 8 with (fail)
 generalize hgy : w7.heap.size = gy at *
 generalize (w7.alloc (.cells (ndC yd (.slice yT1 yd.ms.length y1) (.slice yT2 yd.bys.length y2) (.slice yT3 ys.length y3)) 29)) = W7 at HS5 ⊢
 clear hgy
 go_wp2_with fail
 refine (pparse_any Y _ HXZ.out.2 (HW.out.below HS5.out.below).v).mono ?_
 rintro e w8 ⟨mv, bv, kv, rfl, hT, hb⟩
 have HPY2 : Box (Y.size ≤ 2000 → (parseT (lst Y)).1 = .node xd xs ∧ (parseT (lst Y)).2.2 = 0) := ⟨fun h => by rw [HPY.out h]; exact ⟨rfl, rfl⟩⟩
 obtain ⟨ut, HTu⟩ : ∃ a, Box ((parseT (lst Y)).1 = a) := ⟨_, ⟨rfl⟩⟩
 obtain ⟨up, HAu⟩ : ∃ a, Box ((parseT (lst Y)).2.1 = a) := ⟨_, ⟨rfl⟩⟩
 obtain ⟨ue, HEu⟩ : ∃ a, Box ((parseT (lst Y)).2.2 = a) := ⟨_, ⟨rfl⟩⟩
 rw [HTu.out] at hT HPY2
 rw [HEu.out] at HPY2
 rw [HTu.out, HAu.out, HEu.out]
 obtain ⟨ud, us⟩ := ut
 simp only [Tree.d] at hT ⊢
 obtain ⟨uT1, u1, rfl, -⟩ := hT.nod.ms.form
 obtain ⟨uT2, u2, rfl, -⟩ := hT.nod.bys.form
 obtain ⟨uT3, u3, rfl, -⟩ := hT.nod.kform
 have HS6 := Box.mk (HS5.out.cons hT hb)
 clear hT hb HS5 HPY HTu HAu HEu
 go_upto_region 9 with (fail)
 generalize hgu : w8.heap.size = gu at *
 generalize (w8.alloc (.cells (ndC ud (.slice uT1 ud.ms.length u1) (.slice uT2 ud.bys.length u2) (.slice uT3 us.length u3)) 29)) = W8 at HS6 ⊢
 clear hgu
 go_cut [78] (fun v wx => v = .bool false ∧ Box (SP w wx [(gu, .node ud us, (.slice uT1 ud.ms.length u1, .slice uT2 ud.bys.length u2, .slice uT3 us.length u3)), (gy, .node yd ys, (.slice yT1 yd.ms.length y1, .slice yT2 yd.bys.length y2, .slice yT3 ys.length y3)), (gx, .node xd xs, (.slice xT1 xd.ms.length x1, .slice xT2 xd.bys.length x2, .slice xT3 xs.length x3))]))
 case first =>
  have CEy : Box _ := pq_refl xd xs (.slice yT1 xd.ms.length y1) (.slice yT2 xd.bys.length y2) (.slice yT3 xs.length y3) (.slice xT1 xd.ms.length x1) (.slice xT2 xd.bys.length x2) (.slice xT3 xs.length x3)
  have CEu : Box _ := pq_refl xd xs (.slice uT1 xd.ms.length u1) (.slice uT2 xd.bys.length u2) (.slice uT3 xs.length u3) (.slice xT1 xd.ms.length x1) (.slice xT2 xd.bys.length x2) (.slice xT3 xs.length x3)
  by_cases hX : X.size ≤ 2000
  ·have hX2 : (X.size : Int) ≤ 2000 := by omega
   obtain ⟨h1, h2⟩ := HPX2.out hX
   injection h1 with e1 e2
   have e1 := e1.symm
   have e2 := e2.symm
   subst e1 e2 h2
   by_cases hY : Y.size ≤ 2000
   ·have hY2 : (Y.size : Int) ≤ 2000 := by omega
    obtain ⟨h1, h2⟩ := HPY2.out hY
    injection h1 with e1 e2
    have e1 := e1.symm
    have e2 := e2.symm
    subst e1 e2 h2
    obtain ⟨ak0, ak1, ak2, ak3, ak4, ak5, ak6, ak7, ak8, ak9, ak10⟩ := blk11z (d := xd) HS6.out.a2.box
    obtain ⟨am0, am1, am2, am3, am4, am5, am6, am7, am8, am9, am10⟩ := blk11z (d := xd) HS6.out.a1.box
    obtain ⟨an0, an1, an2, an3, an4, an5, an6, an7, an8, an9, an10⟩ := blk11z (d := xd) HS6.out.a0.box
    go_wp2_with (first
     | (go_at_call 32; (with_reducible refine (CEy.out _ ?_ ?_).mono ?_); (exact HS6.out.a1.tr); (exact HS6.out.a2.tr); rintro e9 w9 ⟨rfl, hb9⟩; have HS7 := Box.mk (HS6.out.next hb9); clear hb9; (obtain ⟨bk0, bk1, bk2, bk3, bk4, bk5, bk6, bk7, bk8, bk9, bk10⟩ := blk11z (d := xd) HS7.out.a2.box; obtain ⟨bm0, bm1, bm2, bm3, bm4, bm5, bm6, bm7, bm8, bm9, bm10⟩ := blk11z (d := xd) HS7.out.a1.box; obtain ⟨bn0, bn1, bn2, bn3, bn4, bn5, bn6, bn7, bn8, bn9, bn10⟩ := blk11z (d := xd) HS7.out.a0.box))
     | (go_at_call 32; (with_reducible refine (CEu.out _ ?_ ?_).mono ?_); (exact HS7.out.a0.tr); (exact HS7.out.a2.tr); rintro e9 w10 ⟨rfl, hb9⟩; have HS8 := Box.mk (HS7.out.next hb9); clear hb9))
    go_meet
    exact ⟨rfl, HS8⟩
   ·have hY2 : ¬ (Y.size : Int) ≤ 2000 := by omega
    obtain ⟨ak0, ak1, ak2, ak3, ak4, ak5, ak6, ak7, ak8, ak9, ak10⟩ := blk11z (d := xd) HS6.out.a2.box
    obtain ⟨am0, am1, am2, am3, am4, am5, am6, am7, am8, am9, am10⟩ := blk11z (d := xd) HS6.out.a1.box
    obtain ⟨an0, an1, an2, an3, an4, an5, an6, an7, an8, an9, an10⟩ := blk11z (d := ud) HS6.out.a0.box
    go_wp2_with (go_at_call 32; (with_reducible refine (CEy.out _ ?_ ?_).mono ?_); (exact HS6.out.a1.tr); (exact HS6.out.a2.tr); rintro e9 w9 ⟨rfl, hb9⟩; have HS7 := Box.mk (HS6.out.next hb9); clear hb9)
    go_meet
    exact ⟨rfl, HS7⟩
  ·have hX2 : ¬ (X.size : Int) ≤ 2000 := by omega
   by_cases hY : Y.size ≤ 2000
   ·have hY2 : (Y.size : Int) ≤ 2000 := by omega
    obtain ⟨h1, h2⟩ := HPY2.out hY
    injection h1 with e1 e2
    have e1 := e1.symm
    have e2 := e2.symm
    subst e1 e2 h2
    obtain ⟨ak0, ak1, ak2, ak3, ak4, ak5, ak6, ak7, ak8, ak9, ak10⟩ := blk11z (d := xd) HS6.out.a2.box
    obtain ⟨am0, am1, am2, am3, am4, am5, am6, am7, am8, am9, am10⟩ := blk11z (d := yd) HS6.out.a1.box
    obtain ⟨an0, an1, an2, an3, an4, an5, an6, an7, an8, an9, an10⟩ := blk11z (d := xd) HS6.out.a0.box
    go_wp2_with (go_at_call 32; (with_reducible refine (CEu.out _ ?_ ?_).mono ?_); (exact HS6.out.a0.tr); (exact HS6.out.a2.tr); rintro e9 w9 ⟨rfl, hb9⟩; have HS7 := Box.mk (HS6.out.next hb9); clear hb9)
    go_meet
    exact ⟨rfl, HS7⟩
   ·have hY2 : ¬ (Y.size : Int) ≤ 2000 := by omega
    go_wp2_with fail
    go_meet
    exact ⟨rfl, HS6⟩
 case rest =>
  obtain ⟨rfl, HS7⟩ := hcut
  rename World => W9
  clear HPX2 HPY2 HS6 HG HPR
  go_wp2_with fail
  refine (ktokens_any z _ (by unfold maxLen; omega)).mono ?_
  intro e wa ha
  obtain ⟨hba, ⟨_, _, _, -, hno⟩ | ⟨-, A, ca, ta, rfl, hqa, -, hla, hta, -⟩⟩ := retTk_lexN ha
  ·exact absurd ⟨hzs, HTK.out.1⟩ hno
  have HA : Box (Below w.heap.size w wa ∧ SeqP wa (fun b _ => b < wa.heap.size) 4 (.slice A ta.length ca) ta.length (ta.flatMap tokL)) := ⟨bthen HS7.out.below hba (Nat.le_refl _), hqa.mono fun b _ hb _ => hb⟩
  have HTA := Box.mk hta
  have HLA : Box (ta.length ≤ 2000) := ⟨by omega⟩
  clear hba hqa hta hla ha HS7
  go_wp2_with fail
  refine (ktokens_any X _ HXZ.out.1).mono ?_
  intro e wb hb'
  obtain ⟨B, cb, tb, aq, eq, rfl, hbb, hqb, hcs⟩ : ∃ (B : Option Addr) (cb : Nat) (tb : List Tok) (aq eq : Int), e = .returned (.tuple #[.slice B tb.length cb, .int .i64 aq, .int .i64 eq]) ∧ Below wa.heap.size wa wb ∧ SeqP wb (fun b _ => wa.heap.size ≤ b) 4 (.slice B tb.length cb) tb.length (tb.flatMap tokL) ∧ ((X.size ≤ 2000 ∧ eq = 0 ∧ tb.map er = ta.map er) ∨ (2000 < X.size ∧ eq ≠ 0 ∧ tb = [])) := by
   obtain ⟨hbb, ⟨aq, eq, h1, h2, h3⟩ | ⟨h1, B, cb, tb, h2, h3, -, -, h4, -⟩⟩ := retTk_lexN hb'
   ·refine ⟨none, 0, [], aq, eq, h2, hbb, ⟨rfl, none, 0, rfl, Nat.le_refl _, Nat.zero_le _, fun h => by simp at h⟩, .inr ⟨?_, h1, rfl⟩⟩
    rcases Nat.lt_or_ge 2000 X.size with h | h
    ·exact h
    ·exact absurd ⟨h, HTK.out.2.1⟩ h3
   ·exact ⟨B, cb, tb, 0, 0, h2, hbb, h3, .inl ⟨h1, rfl, by rw [h4, HTA.out]; exact HTK.out.2.2⟩⟩
  have HB : Box (Below w.heap.size w wb ∧ SeqP wb (fun b _ => b < wa.heap.size) 4 (.slice A ta.length ca) ta.length (ta.flatMap tokL) ∧ SeqP wb (fun b _ => wa.heap.size ≤ b) 4 (.slice B tb.length cb) tb.length (tb.flatMap tokL)) := ⟨bthen HA.out.1 hbb (Nat.le_refl _), HA.out.2.keep (Agree.of_below hbb), hqb⟩
  have HM : Box (tb = [] ∨ tb.map er = ta.map er) := ⟨hcs.elim (fun h => .inr h.2.2) fun h => .inl h.2.2⟩
  have HLB : Box (tb.length ≤ 2000) := ⟨by
   rcases HM.out with h | h
   ·rw [h]; simp
   ·have := congrArg List.length h
    simp only [List.length_map] at this
    have := HLA.out
    omega⟩
  have HC := Box.mk hcs
  clear hbb hqb hcs hb' HA HTA HTK
  go_upto_region 13 with (fail)
  go_cut [112] (fun v wx => v = .bool false ∧ wx = wb)
  case first =>
   rcases HC.out with ⟨h1, h2, h3⟩ | ⟨h1, h2, h3⟩
   ·have hX2 : (X.size : Int) ≤ 2000 := by omega
    have hl : ta.length = tb.length := by have := congrArg List.length h3; simpa using this.symm
    subst h2
    have hq3 : ((ta.length : Int) != (tb.length : Int)) = false := by simp [hl]
    clear h3 hl
    go_wp2_with fail
    go_meet
    exact ⟨rfl, rfl⟩
   ·have hX2 : ¬ (X.size : Int) ≤ 2000 := by omega
    have hq1 : (eq != 0) = true := by simpa using h2
    have hq2 : (eq == 0) = false := by simpa using h2
    clear h2 h3
    go_wp2_with fail
    go_meet
    exact ⟨rfl, rfl⟩
  case rest =>
   obtain ⟨rfl, rfl⟩ := hcut
   rename World => wb
   clear HC
   go_wp2_with fail
   go_loopw [22] (fun i wr => ∃ k : Nat, i = .int .i64 (k : Int) ∧ k ≤ tb.length ∧ ∃ m, wr = wb.drewN m) (fun i _ => tb.length - (intOf i).toNat)
   case atStart => exact ⟨0, rfl, by omega, 0, rfl⟩
   case round =>
    obtain ⟨k, rfl, hk, mm, rfl⟩ := hrel
    have hlb := HLB.out
    have hla := HLA.out
    by_cases hlt : k < tb.length
    ·have hlt2 : (k : Int) < (tb.length : Int) := by omega
     have hmap : tb.map er = ta.map er := HM.out.resolve_left fun h => by subst h; simp at hlt
     have hl : tb.length = ta.length := by have := congrArg List.length hmap; simpa using this
     obtain ⟨u, HU⟩ : ∃ u, Box (tb[k]? = some u) := ⟨tb[k], ⟨List.getElem?_eq_getElem hlt⟩⟩
     obtain ⟨v, HV⟩ : ∃ v, Box (ta[k]? = some v) := ⟨ta[k]'(by omega), ⟨List.getElem?_eq_getElem (by omega)⟩⟩
     have heq : er u = er v := by
      have := congrArg (fun l => l[k]?) hmap
      simp only [List.getElem?_map, HU.out, HV.out, Option.map_some, Option.some.injEq] at this
      exact this
     have hlta : (k : Int) < (ta.length : Int) := by omega
     clear hmap hl
     unfold er at heq
     simp only [Prod.mk.injEq] at heq
     obtain ⟨e1, e2, e3⟩ := heq
     obtain ⟨b, off, hA, hbl, hlc, hcm, a0, a1, a2, -⟩ := toks_at (HB.out.2.1.keep (Agree.of_below (below_drewN _ mm))) HV.out
     obtain ⟨b', off', hA', hbl', hlc', hcm', b0, b1, b2, -⟩ := toks_at (HB.out.2.2.keep (Agree.of_below (below_drewN _ mm))) HU.out
     subst hA hA'
     rw [e1] at b0
     rw [e2] at b1
     rw [e3] at b2
     clear e1 e2 e3
     have HC := Box.mk (And.intro a0 (And.intro a1 (And.intro a2 (And.intro b0 (And.intro b1 b2)))))
     go_wp2_with fail
     go_region_held3 (fun w' => w'.cell? ⟨b, off + k * 4, none⟩ = some (.int .i64 v.kind) ∧ w'.cell? ⟨b, off + k * 4 + 1, none⟩ = some (.string (bsL v.text)) ∧ w'.cell? ⟨b, off + k * 4 + 2, none⟩ = some (.int .i64 v.n) ∧ w'.cell? ⟨b', off' + k * 4, none⟩ = some (.int .i64 v.kind) ∧ w'.cell? ⟨b', off' + k * 4 + 1, none⟩ = some (.string (bsL v.text)) ∧ w'.cell? ⟨b', off' + k * 4 + 2, none⟩ = some (.int .i64 v.n)) (first | exact HC.out | go_keep) (first | fail)
     go_wp2_with fail
     go_roundw
     case rel => exact ⟨k + 1, by go_num, by omega, mm + 1, rfl⟩
     case measure => simp [intOf]; omega
    ·have hlt2 : ¬ (k : Int) < (tb.length : Int) := by omega
     have HBm : Box (Below w.heap.size w (wb.drewN mm)) := ⟨bdrew HB.out.1 mm⟩
     go_wp2_with fail
     refine (lives_true _ (HW.out.below HBm.out)).mono ?_
     rintro e w11 ⟨rfl, hb⟩
     have hbf := bthen HBm.out hb (Nat.le_refl _)
     go_wp2_with fail
     go_ret
     exact ⟨rfl, hbf⟩
end
end Go.Proofs.YthoibeajhdhdhaaGreatDoor
