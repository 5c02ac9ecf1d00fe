/- Contracts, packed: Aa. -/
import Derived.Test.YtipafbppaaflcaaDoorPc51
set_option linter.unusedVariables false
set_option linter.unusedSimpArgs false
namespace Go.Proofs.YtipafbppaaflcaaDoor
section
open Go.RowKit FracM
theorem Ints.toP {w : World} {v : Value} {l : List Int} (h : Ints w w.heap.size v l) : IntsP w v l := by
 obtain ⟨⟨h1, A, c, hv, hn, hc, hx⟩, hz⟩ := h
 refine ⟨⟨h1, A, c, hv, hn, hc, fun h0 => ?_⟩, hz⟩
 obtain ⟨b, off, hA, hf, hcl⟩ := hx h0
 exact ⟨b, off, hA, hf.1, hf.1, hcl⟩
/-- a variable that holds a tree that was handed in -/
structure TA (w W : World) (g : Nat) (t : Tree) (s : Sl) : Prop where
 box : Blk W g 29 (ndC t.d s.1 s.2.1 s.2.2)
 tr : TreeAt W (fun b _ => b < w.heap.size) t s
theorem TA.next {w W W' : World} {g : Nat} {t : Tree} {s : Sl} (h : TA w W g t s) (hb : Below W.heap.size W W') : TA w W' g t s := ⟨h.box.below hb, h.tr.belo hb⟩
set_option maxHeartbeats 8000000 in
set_option maxRecDepth 100000 in
theorem planCompile_walk (AL : Option Addr) (nl cl : Nat) (ll : List Int) (at' wh v : Int) (t : Tree) (s : Sl) (w : World) (hw : WordsV w) (h1 : Ints w w.heap.size (.slice AL nl cl) ll)
  (a1 : -9223372036854775808 ≤ at') (a2 : at' ≤ 9223372036854775807) (b1 : -9223372036854775808 ≤ wh) (b2 : wh ≤ 9223372036854775807) (c1 : -9223372036854775808 ≤ v) (c2 : v ≤ 9223372036854775807) (hT : TreeAt w AnyP t s) :
  Calls Tryd.prog 3 #[.slice AL nl cl, .int .i64 at', .int .i64 wh, .int .i64 v, .agg (ndC t.d s.1 s.2.1 s.2.2)] w fun e w' => e = .returned (.bool true) ∧ Below w.heap.size w w' := by
 obtain ⟨rd, rs⟩ := t
 obtain ⟨mv, bv, kv⟩ := s
 obtain ⟨D1, n1, rfl, -⟩ := hT.nod.ms.form
 obtain ⟨D2, n2, rfl, -⟩ := hT.nod.bys.form
 obtain ⟨D3, n3, rfl, -⟩ := hT.nod.kform
 have HW := Box.mk hw
 have HI := Box.mk (And.intro (And.intro a1 a2 : I64 at') (And.intro (And.intro b1 b2 : I64 wh) (And.intro c1 c2 : I64 v)))
 have HTB : Box (TA w (w.alloc (.cells (ndC rd (.slice D1 rd.ms.length n1) (.slice D2 rd.bys.length n2) (.slice D3 rs.length n3)) 29)) w.heap.size (.node rd rs) (.slice D1 rd.ms.length n1, .slice D2 rd.bys.length n2, .slice D3 rs.length n3)) := ⟨Blk.new _ _ _, hT.low.belo (bel1 _ _)⟩
 have HB0 := Box.mk (bel1 w (.cells (ndC rd (.slice D1 rd.ms.length n1) (.slice D2 rd.bys.length n2) (.slice D3 rs.length n3)) 29))
 have HL := Box.mk (IntsP.belo h1.toP (bel1 w (.cells (ndC rd (.slice D1 rd.ms.length n1) (.slice D2 rd.bys.length n2) (.slice D3 rs.length n3)) 29)))
 have hz0 : w.heap.size < (w.alloc (.cells (ndC rd (.slice D1 rd.ms.length n1) (.slice D2 rd.bys.length n2) (.slice D3 rs.length n3)) 29)).heap.size := by simp
 clear hw h1 hT a1 a2 b1 b2 c1 c2
 simp only [Tree.d]
 go_enter Tryd.func3, Tryd.ntmps3
 go_upto_region 1 with (fail)
 generalize w.alloc (.cells (ndC rd (.slice D1 rd.ms.length n1) (.slice D2 rd.bys.length n2) (.slice D3 rs.length n3)) 29) = W1 at HB0 HL HTB hz0 ⊢
 go_wp2_with fail
 refine (expr0_any _ ll _ HL.out).mono ?_
 rintro e0 w2 ⟨t1, s1, rfl, htree, hgt, hdp, hnd, hb1⟩
 obtain ⟨xd, xs⟩ := t1
 obtain ⟨q1, q2, q3⟩ := s1
 obtain ⟨B1, b1, rfl, -⟩ := htree.form.1
 obtain ⟨B2, b2, rfl, -⟩ := htree.form.2.1
 obtain ⟨B3, b3, rfl, -⟩ := htree.form.2.2
 simp only [Tree.d]
 obtain ⟨Lf, HTG⟩ : ∃ Lf : Nat → Nat, Box (TreeG w2 (fun b z => W1.heap.size ≤ b ∧ b < w2.heap.size ∧ z = Lf b) (.node xd xs) (.slice B1 xd.ms.length b1, .slice B2 xd.bys.length b2, .slice B3 xs.length b3)) := by
  obtain ⟨L, h⟩ := htree
  exact ⟨L, ⟨h.mono fun b z hb hp => ⟨hp.1, hb, hp.2⟩⟩⟩
 have HG := Box.mk (And.intro hgt (And.intro hdp hnd))
 have HTG2 := Box.mk (HTG.out.belo (bel1 w2 (.cells (ndC xd (.slice B1 xd.ms.length b1) (.slice B2 xd.bys.length b2) (.slice B3 xs.length b3)) 29)))
 have HS2 : Box (Below w.heap.size w (w2.alloc (.cells (ndC xd (.slice B1 xd.ms.length b1) (.slice B2 xd.bys.length b2) (.slice B3 xs.length b3)) 29)) ∧ Blk (w2.alloc (.cells (ndC xd (.slice B1 xd.ms.length b1) (.slice B2 xd.bys.length b2) (.slice B3 xs.length b3)) 29)) w2.heap.size 29 (ndC xd (.slice B1 xd.ms.length b1) (.slice B2 xd.bys.length b2) (.slice B3 xs.length b3)) ∧ TA w (w2.alloc (.cells (ndC xd (.slice B1 xd.ms.length b1) (.slice B2 xd.bys.length b2) (.slice B3 xs.length b3)) 29)) w.heap.size (.node rd rs) (.slice D1 rd.ms.length n1, .slice D2 rd.bys.length n2, .slice D3 rs.length n3)) := ⟨bthen (bthen HB0.out hb1 (Nat.le_refl _)) (bel1 _ _) (Nat.le_refl _), Blk.new _ _ _, (HTB.out.next hb1).next (bel1 _ _)⟩
 have hz1 := hb1.size
 clear htree hgt hdp hnd hb1 HTG HL HB0 HTB
 go_upto_region 2 with (fail)
 have hz2 : w2.heap.size < (w2.alloc (.cells (ndC xd (.slice B1 xd.ms.length b1) (.slice B2 xd.bys.length b2) (.slice B3 xs.length b3)) 29)).heap.size := by simp
 obtain ⟨g2, hg2⟩ : ∃ g, w2.heap.size = g := ⟨_, rfl⟩
 rw [hg2] at HTG2 HS2 hz1 hz2 ⊢
 clear hg2
 generalize w2.alloc (.cells (ndC xd (.slice B1 xd.ms.length b1) (.slice B2 xd.bys.length b2) (.slice B3 xs.length b3)) 29) = W2 at HTG2 HS2 hz2 ⊢
 obtain ⟨k0, k1, k2, k3, k4, k5, k6, k7, k8, k9, k10⟩ := blk11z HS2.out.2.1
 have CX : Box (Calls Tryd.prog 9 #[.agg (ndC xd (.slice B1 xd.ms.length b1) (.slice B2 xd.bys.length b2) (.slice B3 xs.length b3))] W2 (RetB (.bool true) W2)) := ⟨compiles_any (.node xd xs) _ W2 (.slice B1 xd.ms.length b1, .slice B2 xd.bys.length b2, .slice B3 xs.length b3) HTG2.out.tree (by have := HG.out.2; omega) (by have := HG.out.2; omega) (HW.out.below HS2.out.1)⟩
 go_wp2_with fail
 refine (CX.out).mono ?_
 rintro e3 w3 ⟨rfl, hb3⟩
 have HTG3 := Box.mk (HTG2.out.belo hb3)
 have HS3 : Box (Below w.heap.size w w3 ∧ Blk w3 g2 29 (ndC xd (.slice B1 xd.ms.length b1) (.slice B2 xd.bys.length b2) (.slice B3 xs.length b3)) ∧ TA w w3 w.heap.size (.node rd rs) (.slice D1 rd.ms.length n1, .slice D2 rd.bys.length n2, .slice D3 rs.length n3)) := ⟨bthen HS2.out.1 hb3 (Nat.le_refl _), HS2.out.2.1.below hb3, HS2.out.2.2.next hb3⟩
 have hz3 := hb3.size
 clear k0 k1 k2 k3 k4 k5 k6 k7 k8 k9 k10
 clear hb3 CX HS2 HTG2
 obtain ⟨k0, k1, k2, k3, k4, k5, k6, k7, k8, k9, k10⟩ := blk11z HS3.out.2.1
 go_wp2_with fail
 refine (spoilt_any changed_ok ns6 4096 wh v HI.out.2.1 HI.out.2.2 (.node xd xs) W1.heap.size g2 Lf at' _ (.slice B1 xd.ms.length b1, .slice B2 xd.bys.length b2, .slice B3 xs.length b3) HTG3.out HG.out.1 (by omega) HI.out.1).mono ?_
 rintro e4 w4 ⟨t5, s5, rfl, ht5, hd5, hn5, hsp⟩
 obtain ⟨yd, ys⟩ := t5
 obtain ⟨q1, q2, q3⟩ := s5
 obtain ⟨C1, c1, rfl, -⟩ := ht5.nod.ms.form
 obtain ⟨C2, c2, rfl, -⟩ := ht5.nod.bys.form
 obtain ⟨C3, c3, rfl, -⟩ := ht5.nod.kform
 simp only [Tree.d]
 have hbel : Below W1.heap.size w3 w4 := hsp.below (by omega)
 have HS4 : Box (Below w.heap.size w w4 ∧ TA w w4 w.heap.size (.node rd rs) (.slice D1 rd.ms.length n1, .slice D2 rd.bys.length n2, .slice D3 rs.length n3) ∧ TreeAt w4 AnyP (.node yd ys) (.slice C1 yd.ms.length c1, .slice C2 yd.bys.length c2, .slice C3 ys.length c3) ∧ nds (.node yd ys) ≤ 1000000 ∧ dep (.node yd ys) ≤ 1000000) :=
  ⟨HS3.out.1.trans (hbel.mono (by omega)), ⟨(hbel.block _ (by omega)).trans HS3.out.2.2.box, HS3.out.2.2.tr.keep (Agree.of_lt hbel fun b _ h => by omega)⟩, ht5.mono fun _ _ _ _ => trivial, by have := HG.out.2; omega, by have := HG.out.2; omega⟩
 clear k0 k1 k2 k3 k4 k5 k6 k7 k8 k9 k10
 clear ht5 hd5 hn5 hsp HTG3 HS3 hbel hz3 hz2 hz1
 have CY : Box (Calls Tryd.prog 9 #[.agg (ndC yd (.slice C1 yd.ms.length c1) (.slice C2 yd.bys.length c2) (.slice C3 ys.length c3))] w4 (RetB (.bool true) w4)) := ⟨compiles_any (.node yd ys) _ w4 (.slice C1 yd.ms.length c1, .slice C2 yd.bys.length c2, .slice C3 ys.length c3) HS4.out.2.2.1 HS4.out.2.2.2.1 HS4.out.2.2.2.2 (HW.out.below HS4.out.1)⟩
 go_wp2_with fail
 refine (CY.out).mono ?_
 rintro e5 w5 ⟨rfl, hb5⟩
 have HS5 : Box (Below w.heap.size w w5 ∧ TA w w5 w.heap.size (.node rd rs) (.slice D1 rd.ms.length n1, .slice D2 rd.bys.length n2, .slice D3 rs.length n3)) := ⟨bthen HS4.out.1 hb5 (Nat.le_refl _), HS4.out.2.1.next hb5⟩
 clear hb5 CY HS4
 obtain ⟨k0, k1, k2, k3, k4, k5, k6, k7, k8, k9, k10⟩ := blk11z HS5.out.2.box
 go_wp2_with fail
 refine (cut_any (.node rd rs) _ _ (.slice D1 rd.ms.length n1, .slice D2 rd.bys.length n2, .slice D3 rs.length n3) 3 4 HS5.out.2.tr (by omega) (by omega) (by omega)).mono ?_
 rintro e6 w6 ⟨t1, s1, rfl, htc, hdc, hnc, hbc⟩
 obtain ⟨zd, zs⟩ := t1
 obtain ⟨q1, q2, q3⟩ := s1
 obtain ⟨E1, q1, rfl, -⟩ := htc.nod.ms.form
 obtain ⟨E2, q2, rfl, -⟩ := htc.nod.bys.form
 obtain ⟨E3, q3, rfl, -⟩ := htc.nod.kform
 simp only [Tree.d]
 have HS6 : Box (Below w.heap.size w w6 ∧ TreeAt w6 AnyP (.node zd zs) (.slice E1 zd.ms.length q1, .slice E2 zd.bys.length q2, .slice E3 zs.length q3) ∧ nds (.node zd zs) ≤ 1000000 ∧ dep (.node zd zs) ≤ 1000000) := ⟨bthen HS5.out.1 hbc (Nat.le_refl _), htc.mono fun _ _ _ _ => trivial, by omega, by omega⟩
 clear k0 k1 k2 k3 k4 k5 k6 k7 k8 k9 k10
 clear htc hdc hnc hbc HS5
 have CZ : Box (Calls Tryd.prog 9 #[.agg (ndC zd (.slice E1 zd.ms.length q1) (.slice E2 zd.bys.length q2) (.slice E3 zs.length q3))] w6 (RetB (.bool true) w6)) := ⟨compiles_any (.node zd zs) _ w6 (.slice E1 zd.ms.length q1, .slice E2 zd.bys.length q2, .slice E3 zs.length q3) HS6.out.2.1 HS6.out.2.2.1 HS6.out.2.2.2 (HW.out.below HS6.out.1)⟩
 go_wp2_with fail
 refine (CZ.out).mono ?_
 rintro e7 w7 ⟨rfl, hb7⟩
 have HS7 : Box (Below w.heap.size w w7) := ⟨bthen HS6.out.1 hb7 (Nat.le_refl _)⟩
 clear hb7 CZ HS6
 go_wp2_with fail
 refine (plives_true w7 (HW.out.below HS7.out)).mono ?_
 rintro e8 w8 ⟨rfl, hb8⟩
 have HS8 : Box (Below w.heap.size w w8) := ⟨bthen HS7.out hb8 (Nat.le_refl _)⟩
 clear hb8 HS7
 go_wp2_with fail
 go_ret
 exact ⟨rfl, HS8.out⟩
end
end Go.Proofs.YtipafbppaaflcaaDoor
