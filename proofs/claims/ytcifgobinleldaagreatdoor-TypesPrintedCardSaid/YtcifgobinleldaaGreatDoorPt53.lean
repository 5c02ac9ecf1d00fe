/- Contracts, packed: Jh Jn Jo Jp Jq Mk. -/
import Derived.Test.YtcifgobinleldaaGreatDoorPt29
import Derived.Test.YtcifgobinleldaaGreatDoorPt37
import Derived.Test.YtcifgobinleldaaGreatDoorPt40
import Derived.Test.YtcifgobinleldaaGreatDoorPt50
import Derived.Test.YtcifgobinleldaaGreatDoorPt51
set_option linter.unusedVariables false
set_option linter.unusedSimpArgs false
namespace Go.Proofs.YtcifgobinleldaaGreatDoor
section
open Go.RowKit FracM

/-- Parse at a text whose parse is known -/
theorem parse_at (s : ByteArray) (T : Tree) (a er : Int) (w : World) (hs : s.size ≤ maxLen) (hw : WordsV w) (hp : parseT (lst s) = (T, a, er)) :
    Calls Tryz.prog 26 #[.string s] w fun e w' => ∃ mv bv kv, e = .returned (.tuple #[.agg (ndC T.d mv bv kv), .int .i64 a, .int .i64 er]) ∧ TreeAt w' (fun b _ => w.heap.size ≤ b) T (mv, bv, kv) ∧ Below w.heap.size w w' :=
  (pparse_any s w hs hw).mono fun e w' ⟨mv, bv, kv, he, hT, hb⟩ => ⟨mv, bv, kv, by rw [he, hp], by rw [hp] at hT; exact hT, hb⟩
theorem LibP.v {w : World} (h : LibP w) : WordsV w := ⟨h.grp, h.fn, h.mat, h.opr⟩
theorem print_at (T : Tree) (l : List UInt8) (er : Int) (P : Nat → Nat → Prop) (w : World) (s : Sl) (hT : TreeAt w P T s) (hl : LibP w) (hp : printT T = (l, er)) : Calls Tryz.prog 25 #[.agg (ndC T.d s.1 s.2.1 s.2.2)] w (RetB (.tuple #[.string (bsL l), .int .i64 er]) w) :=
  (pprint_any T P w s hT hl).mono fun e w' ⟨he, hb⟩ => ⟨by rw [he, hp], hb⟩
end
section
open Go.RowKit FracM

theorem SeqP.mat {w : World} {P : Nat → Nat → Prop} {A : Option Addr} {n c : Nat} {l : List Mat} (h : SeqP w P 3 (.slice A n c) n (l.flatMap matCells)) (k : Nat) (x : Mat) (hx : l[k]? = some x) :
    ∃ b off, A = some ⟨b, off, none⟩ ∧ w.cell? ⟨b, off + k * 3, none⟩ = some (.string x.1) ∧ w.cell? ⟨b, off + k * 3 + 1, none⟩ = some (.int .i64 x.2.1) ∧ w.cell? ⟨b, off + k * 3 + 2, none⟩ = some (.string x.2.2) := by
  obtain ⟨hl, A', c', hv, h1, h2, h3⟩ := h
  cases hv
  have hlt := (List.getElem?_eq_some_iff.1 hx).1
  have g := fun j hj => flat_get matCells 3 (fun _ => rfl) l k j x hx hj
  have hm : 0 < n := by
    rcases Nat.eq_zero_or_pos n with h0 | h0
    · subst h0
      have g0 := g 0 (by omega)
      rw [show l.flatMap matCells = [] from List.eq_nil_of_length_eq_zero (by rw [hl])] at g0
      simp [matCells] at g0
    · exact h0
  obtain ⟨b, off, rfl, hb, hp, hc⟩ := h3 hm
  refine ⟨b, off, rfl, ?_, ?_, ?_⟩
  · exact hc _ _ ((g 0 (by omega)).trans rfl)
  · rw [Nat.add_assoc]; exact hc _ _ ((g 1 (by omega)).trans rfl)
  · rw [Nat.add_assoc]; exact hc _ _ ((g 2 (by omega)).trans rfl)
end
section
open Go.RowKit FracM

/-- two nodes in boxes -/
structure E2b (w W : World) (P Q : Nat → Nat → Prop) (d e : Nd) (ks es : List Tree) (s r : Sl) : Prop where
  below : Below w.heap.size w W
  b1 : Blk W w.heap.size exT (ndC d s.1 s.2.1 s.2.2)
  b2 : Blk W (w.heap.size + 1) exT (ndC e r.1 r.2.1 r.2.2)
  t1 : TreeAt W P (.node d ks) s
  t2 : TreeAt W Q (.node e es) r
theorem E2b.next {w W W' : World} {P Q : Nat → Nat → Prop} {d e : Nd} {ks es : List Tree} {s r : Sl} (h : E2b w W P Q d e ks es s r) (hb : Below W.heap.size W W') : E2b w W' P Q d e ks es s r :=
  ⟨bthen h.below hb (Nat.le_refl _), h.b1.below hb, h.b2.below hb, h.t1.belo hb, h.t2.belo hb⟩
end
section
open Go.RowKit FracM
end
section
open Go.RowKit FracM

set_option maxHeartbeats 1000000 in
theorem sameTexts_any (A : Option Addr) (n c : Nat) (A' : Option Addr) (n' c' : Nat) (l l' : List ByteArray) (w : World) (h : StrsP w (.slice A n c) l) (h' : StrsP w (.slice A' n' c') l') :
    Calls Tryz.prog 36 #[.slice A n c, .slice A' n' c'] w (RetB (.bool (sameB l l')) w) := by
  obtain ⟨hn, hm⟩ := h.len
  obtain ⟨hn', hm'⟩ := h'.len
  have HS := Box.mk (And.intro h h')
  clear h h'
  by_cases hl : n = n'
  · subst hl
    have HN := Box.mk (And.intro hn hn')
    clear hn hn'
    have hne : ((n : Int) != (n : Int)) = false := by simp
    go_enter Tryz.func36, Tryz.ntmps36
    go_wp2_with fail
    go_loopw [5] (fun v wr => ∃ k : Nat, k ≤ n ∧ v = .int .i64 (k : Nat) ∧ Below w.heap.size w wr ∧ Box (sameB (l.drop k) (l'.drop k) = sameB l l')) (fun v _ => n - (intOf v).toNat)
    case atStart => exact ⟨0, by omega, rfl, Below.refl _ _, ⟨rfl⟩⟩
    case round =>
      obtain ⟨k, hk, rfl, hb, HA⟩ := hrel
      have HB := Lib.hid hb
      by_cases hlt : k < n
      · obtain ⟨x, b1, off1, hx, rfl, hb1, p1⟩ := (HS.out.1.below hb).at_ k (by rw [← HN.out.1]; exact hlt)
        obtain ⟨y, b2, off2, hy, rfl, hb2, p2⟩ := (HS.out.2.below hb).at_ k (by rw [← HN.out.2]; exact hlt)
        have HD := Box.mk (And.intro (drop_at hx) (drop_at hy))
        have hlt2 : (k : Int) < (n : Int) := by omega
        clear hb hx hy
        obtain ⟨q, E⟩ : ∃ z, Box ((x.toList == y.toList) = z) := ⟨_, ⟨rfl⟩⟩
        cases q
        · have hq := E.out
          have hq2 : (x.toList != y.toList) = true := by rw [bne, hq]; rfl
          go_wp2_with fail
          first | go_region | skip
          all_goals
            go_wp2_with fail
            go_ret
            exact ⟨ret_bool (by rw [← HA.out, HD.out.1, HD.out.2, sameB, E.out]; rfl), by first | exact HB.out | exact bdrew HB.out 1⟩
        · have hq := E.out
          have hq2 : (x.toList != y.toList) = false := by rw [bne, hq]; rfl
          go_wp2_with fail
          first | go_region | skip
          all_goals
            go_wp2_with fail
            go_roundw
            case rel => exact ⟨k + 1, by omega, by go_num, by first | exact HB.out | exact bdrew HB.out 1, ⟨by rw [← HA.out, HD.out.1, HD.out.2, sameB, E.out]; rfl⟩⟩
            case measure => simp [intOf]; omega
      · have hlt2 : ¬ (k : Int) < (n : Int) := by omega
        clear hb
        go_wp2_with fail
        go_ret
        exact ⟨ret_bool (by rw [← HA.out, List.drop_eq_nil_of_le (by rw [← HN.out.1]; omega), List.drop_eq_nil_of_le (by rw [← HN.out.2]; omega)]; rfl), HB.out⟩
  · have hne : ((n : Int) != (n' : Int)) = true := by simp; omega
    have E : Box (sameB l l' = false) := ⟨by rw [same_eq]; apply decide_eq_false; intro h; rw [h] at hn; omega⟩
    go_enter Tryz.func36, Tryz.ntmps36
    go_wp2_with fail
    go_ret
    exact ⟨ret_bool E.out.symm, Below.refl _ _⟩
end
section
open Go.RowKit FracM

theorem lst_bsL0 (l : List UInt8) : lst (bsL l) = l := by unfold bsL; simp [lst]
theorem sameB_self (l : List ByteArray) : sameB l l = true := by rw [same_eq]; simp
set_option maxHeartbeats 8000000 in
set_option maxRecDepth 100000 in
theorem typesPrinted_walk (AM : Option Addr) (nm cm : Nat) (lm : List Int) (AL : Option Addr) (nl cl : Nat) (ll : List Int) (w : World) (hw : LibP w ∧ WordsG w) (h1 : Ints w w.heap.size (.slice AM nm cm) lm) (h2 : Ints w w.heap.size (.slice AL nl cl) ll) :
    Calls Tryz.prog 8 #[.slice AM nm cm, .slice AL nl cl] w fun e w' => e = .returned (.bool true) ∧ Below w.heap.size w w' := by
  have HW := Box.mk hw.2
  have HP := Box.mk hw.1
  have HL := Box.mk h2
  have HM := Box.mk h1
  clear h1 h2 hw
  go_enter Tryz.func8, Tryz.ntmps8
  go_wp2_with fail
  refine (decls_any _ _ _ lm _ HM.out).mono ?_
  rintro e w1 ⟨D, AD, nD, cD, rfl, hown, hDl, hgood, hb1⟩
  obtain ⟨AD', cD', hvD⟩ := own_form hown
  obtain rfl : nD = D.length := by injection hvD
  clear hvD
  have HD1 := Box.mk (And.intro (decs_of hown hgood) hb1)
  have HL1 := Box.mk (IntsP.belo HL.out.toP hb1)
  generalize hdv : (Value.slice AD D.length cD) = dv at HD1
  have HDV := Box.mk hdv
  clear hown hgood hb1 hdv HM
  go_wp2_with fail
  refine (query_any _ ll _ HL1.out).mono ?_
  rintro e w2 ⟨t, s, rfl, htree, hgt, hdp, hnd, hb2⟩
  obtain ⟨d, ks⟩ := t
  obtain ⟨mv, bv, kv⟩ := s
  obtain ⟨P1, p1, rfl, -⟩ := htree.form.1
  obtain ⟨Q1, q1, rfl, -⟩ := htree.form.2.1
  obtain ⟨R1, r1, rfl, -⟩ := htree.form.2.2
  simp only [Tree.d]
  have HT : Box (TreeAt w2 AnyP (.node d ks) (.slice P1 d.ms.length p1, .slice Q1 d.bys.length q1, .slice R1 ks.length r1)) := ⟨by obtain ⟨L, h⟩ := htree; exact h.tree.mono fun _ _ _ _ => trivial⟩
  have HQ0 : Box (QS w w2 dv D []) := ⟨⟨bthen HD1.out.2 hb2 (Nat.le_refl _), HD1.out.1.keep (Agree.of_below hb2), fun v hv => by simp at hv⟩⟩
  obtain ⟨g1, g2, g3⟩ := good_round ns3_ok (by omega) hgt (by omega) (by omega)
  obtain ⟨z, hz⟩ : ∃ z, z = bsL (showT (.node d ks)) := ⟨_, rfl⟩
  have HPR : Box (∀ W' s', TreeAt W' AnyP (.node d ks) s' → LibP W' → Calls Tryz.prog 25 #[.agg (ndC d s'.1 s'.2.1 s'.2.2)] W' (RetB (.tuple #[.string z, .int .i64 0]) W')) := ⟨fun W' s' hT hl => by rw [hz]; exact print_at (.node d ks) (showT (.node d ks)) 0 AnyP W' s' hT hl g1⟩
  have HPA : Box (∀ W', WordsV W' → Calls Tryz.prog 26 #[.string z] W' fun e w' => ∃ mv bv kv, e = .returned (.tuple #[.agg (ndC d mv bv kv), .int .i64 0, .int .i64 0]) ∧ TreeAt w' (fun b _ => W'.heap.size ≤ b) (.node d ks) (mv, bv, kv) ∧ Below W'.heap.size W' w') := ⟨fun W' hw => by
    refine parse_at _ (.node d ks) 0 0 W' ?_ hw (by rw [hz, lst_bsL0]; exact g2)
    rw [hz, ← data_size, show (bsL (showT (.node d ks))).data.toList = showT (.node d ks) from lst_bsL0 _]; unfold maxLen; omega⟩
  have HDL : Box (D.length ≤ 1000) := ⟨by omega⟩
  clear htree hgt hdp hnd hb2 HD1 HL1 HL g1 g2 g3 hz hDl
  go_upto_region 3 with (fail)
  have HQ1 := Box.mk (HQ0.out.add 33 (ndC d (.slice P1 d.ms.length p1) (.slice Q1 d.bys.length q1) (.slice R1 ks.length r1)))
  have HT' := Box.mk (TreeAt.belo HT.out (bel1 w2 (.cells (ndC d (.slice P1 d.ms.length p1) (.slice Q1 d.bys.length q1) (.slice R1 ks.length r1)) 33)))
  clear HT
  have HT := Box.mk HT'.out
  clear HT'
  clear HQ0
  generalize w2.alloc (.cells (ndC d (.slice P1 d.ms.length p1) (.slice Q1 d.bys.length q1) (.slice R1 ks.length r1)) 33) = V0 at *
  generalize w2.heap.size = eb at *
  obtain ⟨k0, k1, k2, k3, k4, k5, k6, k7, k8, k9, k10⟩ := blk11z (HQ1.out.vars (eb, 33, (ndC d (.slice P1 d.ms.length p1) (.slice Q1 d.bys.length q1) (.slice R1 ks.length r1))) (by simp))
  go_wp2_with fail
  refine (HPR.out _ (.slice P1 d.ms.length p1, .slice Q1 d.bys.length q1, .slice R1 ks.length r1) HT.out (HP.out.below HQ1.out.below)).mono ?_
  rintro e w3 ⟨rfl, hb5⟩
  have HQ2 := Box.mk (HQ1.out.next hb5)
  have HT' := Box.mk (TreeAt.belo HT.out hb5)
  clear HT
  have HT := Box.mk HT'.out
  clear HT'
  clear HQ1 hb5 k0 k1 k2 k3 k4 k5 k6 k7 k8 k9 k10
  go_wp2_with fail
  refine (HPA.out _ (HP.out.below HQ2.out.below).v).mono ?_
  rintro e w4 ⟨mv2, bv2, kv2, rfl, hT2, hb4⟩
  obtain ⟨P2, p2, rfl, -⟩ := hT2.nod.ms.form
  obtain ⟨Q2, q2, rfl, -⟩ := hT2.nod.bys.form
  obtain ⟨R2, r2, rfl, -⟩ := hT2.nod.kform
  have HX : Box (TreeAt w4 AnyP (.node d ks) (.slice P2 d.ms.length p2, .slice Q2 d.bys.length q2, .slice R2 ks.length r2)) := ⟨hT2.mono fun _ _ _ _ => trivial⟩
  have HQ3 := Box.mk (HQ2.out.next hb4)
  have HT' := Box.mk (TreeAt.belo HT.out hb4)
  clear HT
  have HT := Box.mk HT'.out
  clear HT'
  clear hT2 hb4 HQ2 HPR HPA
  go_upto_region 5 with (fail)
  have HQ4 := Box.mk (HQ3.out.add 33 (ndC d (.slice P2 d.ms.length p2) (.slice Q2 d.bys.length q2) (.slice R2 ks.length r2)))
  have HT' := Box.mk (TreeAt.belo HT.out (bel1 w4 (.cells (ndC d (.slice P2 d.ms.length p2) (.slice Q2 d.bys.length q2) (.slice R2 ks.length r2)) 33)))
  have HX' := Box.mk (TreeAt.belo HX.out (bel1 w4 (.cells (ndC d (.slice P2 d.ms.length p2) (.slice Q2 d.bys.length q2) (.slice R2 ks.length r2)) 33)))
  clear HT HX
  have HT := Box.mk HT'.out
  clear HT'
  have HX := Box.mk HX'.out
  clear HX'
  clear HQ3
  generalize w4.alloc (.cells (ndC d (.slice P2 d.ms.length p2) (.slice Q2 d.bys.length q2) (.slice R2 ks.length r2)) 33) = V1 at *
  generalize w4.heap.size = xb at *
  obtain ⟨u, f, HU⟩ : ∃ u f, Box (ofM (dcs D) (.node d ks) = (u, f)) := ⟨_, _, ⟨rfl⟩⟩
  obtain ⟨k0, k1, k2, k3, k4, k5, k6, k7, k8, k9, k10⟩ := blk11z (HQ4.out.vars (eb, 33, (ndC d (.slice P1 d.ms.length p1) (.slice Q1 d.bys.length q1) (.slice R1 ks.length r1))) (by simp))
  go_wp2_with fail
  refine (of_any (.node d ks) AnyP _ (.slice P1 d.ms.length p1, .slice Q1 d.bys.length q1, .slice R1 ks.length r1) dv D HT.out HQ4.out.decs (HW.out.below HQ4.out.below) HDL.out).mono ?_
  rintro e w5 ⟨rfl, hb5⟩
  rw [HU.out]
  simp only
  have HQ5 := Box.mk (HQ4.out.next hb5)
  have HT' := Box.mk (TreeAt.belo HT.out hb5)
  have HX' := Box.mk (TreeAt.belo HX.out hb5)
  clear HT HX
  have HT := Box.mk HT'.out
  clear HT'
  have HX := Box.mk HX'.out
  clear HX'
  clear HQ4 hb5 k0 k1 k2 k3 k4 k5 k6 k7 k8 k9 k10
  go_upto_region 6 with (fail)
  have HQ6 := Box.mk (HQ5.out.add 61 (uC u))
  have HT' := Box.mk (TreeAt.belo HT.out (bel1 w5 (.cells (uC u) 61)))
  have HX' := Box.mk (TreeAt.belo HX.out (bel1 w5 (.cells (uC u) 61)))
  clear HT HX
  have HT := Box.mk HT'.out
  clear HT'
  have HX := Box.mk HX'.out
  clear HX'
  clear HQ5
  generalize w5.alloc (.cells (uC u) 61) = V2 at *
  generalize w5.heap.size = ub at *
  obtain ⟨k0, k1, k2, k3, k4, k5, k6, k7, k8, k9, k10⟩ := blk11z (HQ6.out.vars (xb, 33, (ndC d (.slice P2 d.ms.length p2) (.slice Q2 d.bys.length q2) (.slice R2 ks.length r2))) (by simp))
  go_wp2_with fail
  refine (of_any (.node d ks) AnyP _ (.slice P2 d.ms.length p2, .slice Q2 d.bys.length q2, .slice R2 ks.length r2) dv D HX.out HQ6.out.decs (HW.out.below HQ6.out.below) HDL.out).mono ?_
  rintro e w6 ⟨rfl, hb6⟩
  rw [HU.out]
  simp only
  have HQ7 := Box.mk (HQ6.out.next hb6)
  have HT' := Box.mk (TreeAt.belo HT.out hb6)
  have HX' := Box.mk (TreeAt.belo HX.out hb6)
  clear HT HX
  have HT := Box.mk HT'.out
  clear HT'
  have HX := Box.mk HX'.out
  clear HX'
  clear HQ6 hb6 k0 k1 k2 k3 k4 k5 k6 k7 k8 k9 k10
  go_upto_region 7 with (fail)
  have HQ8 := Box.mk (HQ7.out.add 61 (uC u))
  have HT' := Box.mk (TreeAt.belo HT.out (bel1 w6 (.cells (uC u) 61)))
  have HX' := Box.mk (TreeAt.belo HX.out (bel1 w6 (.cells (uC u) 61)))
  clear HT HX
  have HT := Box.mk HT'.out
  clear HT'
  have HX := Box.mk HX'.out
  clear HX'
  clear HQ7
  generalize w6.alloc (.cells (uC u) 61) = V3 at *
  generalize w6.heap.size = vb at *
  obtain ⟨k0, k1, k2, k3, k4, k5, k6, k7, k8, k9, k10⟩ := blk11z (HQ8.out.vars (eb, 33, (ndC d (.slice P1 d.ms.length p1) (.slice Q1 d.bys.length q1) (.slice R1 ks.length r1))) (by simp))
  go_wp2_with fail
  refine (by_any (.node d ks) AnyP _ (.slice P1 d.ms.length p1, .slice Q1 d.bys.length q1, .slice R1 ks.length r1) HT.out (HW.out.below HQ8.out.below)).mono ?_
  rintro e w7 ⟨A7, n7, c7, rfl, rfl, hs7, hb7⟩
  have HQ9 := Box.mk (HQ8.out.next hb7)
  have HS7 := Box.mk hs7
  have HX' := Box.mk (TreeAt.belo HX.out hb7)
  clear HX
  have HX := Box.mk HX'.out
  clear HX'
  clear HQ8 HT hs7 hb7 k0 k1 k2 k3 k4 k5 k6 k7 k8 k9 k10
  obtain ⟨k0, k1, k2, k3, k4, k5, k6, k7, k8, k9, k10⟩ := blk11z (HQ9.out.vars (xb, 33, (ndC d (.slice P2 d.ms.length p2) (.slice Q2 d.bys.length q2) (.slice R2 ks.length r2))) (by simp))
  obtain ⟨l, hl⟩ : ∃ l, byL (.node d ks) = l := ⟨_, rfl⟩
  obtain ⟨q, hq⟩ : ∃ q, byN (.node d ks) = q := ⟨_, rfl⟩
  have HLQ := Box.mk (And.intro hl hq)
  rw [hl, hq]
  rw [hl] at HS7
  clear hl hq
  go_wp2_with fail
  refine (by_any (.node d ks) AnyP _ (.slice P2 d.ms.length p2, .slice Q2 d.bys.length q2, .slice R2 ks.length r2) HX.out (HW.out.below HQ9.out.below)).mono ?_
  rintro e w8 ⟨A8, n8, c8, rfl, rfl, hs8, hb8⟩
  rw [HLQ.out.1, HLQ.out.2]
  rw [HLQ.out.1] at hs8
  have HQ10 := Box.mk (HQ9.out.next hb8)
  have HS8 := Box.mk hs8
  have HS7' : Box (StrsP w8 (.slice A7 l.length c7) l) := ⟨SeqP.keep HS7.out (Agree.of_below hb8)⟩
  clear HQ9 HX HS7 hs8 hb8 k0 k1 k2 k3 k4 k5 k6 k7 k8 k9 k10
  have zu : ∀ W, (Op.equalIn 10000 61 (uV u) (uV u)).run Tryz.prog W = .ok true W := fun W => (eq_units u u W).trans (by rw [decide_eq_true rfl])
  obtain ⟨p0, p1, p2⟩ := (HQ10.out.vars (ub, 61, uC u) (by simp)).c3
  obtain ⟨b0, b1, b2⟩ := (HQ10.out.vars (vb, 61, uC u) (by simp)).c3
  go_wp2_with fail
  refine (sameTexts_any _ _ _ _ _ _ l l _ HS7'.out HS8.out).mono ?_
  rintro e w9 ⟨rfl, hb9⟩
  rw [sameB_self]
  have HQ11 := Box.mk (HQ10.out.next hb9)
  clear p0 p1 p2 b0 b1 b2 hb9 HQ10
  go_wp2_with fail
  refine (lives_true _ (HW.out.below HQ11.out.below).base).mono ?_
  rintro e w11 ⟨rfl, hb11⟩
  have HB11 := Box.mk (bthen HQ11.out.below hb11 (Nat.le_refl _))
  clear hb11
  go_wp2_with fail
  go_ret
  exact ⟨rfl, HB11.out⟩
end
end Go.Proofs.YtcifgobinleldaaGreatDoor
