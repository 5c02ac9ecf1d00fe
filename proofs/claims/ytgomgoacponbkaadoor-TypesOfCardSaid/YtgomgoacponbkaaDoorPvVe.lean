/- TypesOf: the walk. -/
import Derived.Test.YtgomgoacponbkaaDoorPvVd
set_option linter.unusedVariables false
set_option linter.unusedSimpArgs false
namespace Go.Proofs.YtgomgoacponbkaaDoor
open Go.RowKit FracM

set_option maxHeartbeats 8000000 in
set_option maxRecDepth 100000 in
theorem typesOf_walk (AM : Option Addr) (nm cm : Nat) (lm : List Int) (AL : Option Addr) (nl cl : Nat) (ll : List Int) (at' wh v : Int) (w : World) (hw : WordsG w) (h1 : Ints w w.heap.size (.slice AM nm cm) lm) (h2 : Ints w w.heap.size (.slice AL nl cl) ll)
    (a1 : -9223372036854775808 ≤ at') (a2 : at' ≤ 9223372036854775807) (b1 : -9223372036854775808 ≤ wh) (b2 : wh ≤ 9223372036854775807) (c1 : -9223372036854775808 ≤ v) (c2 : v ≤ 9223372036854775807) :
    Calls Tryd.prog 4 #[.slice AM nm cm, .slice AL nl cl, .int .i64 at', .int .i64 wh, .int .i64 v] w fun e w' => e = .returned (.bool true) ∧ Below w.heap.size w w' := by
  have HW := Box.mk hw
  have HI := Box.mk (And.intro (And.intro a1 a2 : I64 at') (And.intro (And.intro b1 b2 : I64 wh) (And.intro c1 c2 : I64 v)))
  have HL := Box.mk h2
  have HM := Box.mk h1
  clear h1 h2 hw a1 a2 b1 b2 c1 c2
  go_enter Tryd.func4, Tryd.ntmps4
  go_wp2_with fail
  refine (decls_any _ _ _ lm _ HM.out).mono ?_
  rintro e w1 ⟨D, AD, nD, cD, rfl, hown, hDl, hgood, hb1⟩
  obtain ⟨AD', cD', hvD⟩ := own_form hown
  obtain rfl : nD = D.length := by injection hvD
  clear hvD
  have HD1 := Box.mk (And.intro ((decs_of hown hgood).mono (Q := LowP w1.heap.size) fun _ _ hb _ => hb) hb1)
  have HL1 := Box.mk (IntsP.belo HL.out.toP hb1)
  generalize hdv : (Value.slice AD D.length cD) = dv at HD1
  have HDV := Box.mk hdv
  clear hown hgood hb1 hdv HM
  go_wp2_with fail
  refine (query_any _ ll _ HL1.out).mono ?_
  rintro e0 w2 ⟨t, s, rfl, htree, hgt, hdp, hnd, hb2⟩
  obtain ⟨e, es⟩ := t
  obtain ⟨q1, q2, q3⟩ := s
  obtain ⟨B1, m1, rfl, -⟩ := htree.form.1
  obtain ⟨B2, m2, rfl, -⟩ := htree.form.2.1
  obtain ⟨B3, m3, rfl, -⟩ := htree.form.2.2
  simp only [Tree.d]
  obtain ⟨Lf, HTG⟩ : ∃ Lf : Nat → Nat, Box (TreeG w2 (fun b z => w1.heap.size ≤ b ∧ b < w2.heap.size ∧ z = Lf b) (.node e es) (.slice B1 e.ms.length m1, .slice B2 e.bys.length m2, .slice B3 es.length m3)) := by
    obtain ⟨L, h⟩ := htree
    exact ⟨L, ⟨h.mono fun b z hb hp => ⟨hp.1, hb, hp.2⟩⟩⟩
  have HG := Box.mk (And.intro hgt (And.intro hdp hnd))
  have HB2 := Box.mk (bthen HD1.out.2 hb2 (Nat.le_refl _))
  have HD2 := Box.mk (HD1.out.1.keep (Agree.of_below hb2))
  have hs1 := HD1.out.2.size
  have hs2 := hb2.size
  clear htree hgt hdp hnd hb2 HL1 HL HD1
  go_upto_region 3 with (fail)
  have HBE : Box (Blk (w2.alloc (.cells (ndC e (.slice B1 e.ms.length m1) (.slice B2 e.bys.length m2) (.slice B3 es.length m3)) 38)) w2.heap.size 38 (ndC e (.slice B1 e.ms.length m1) (.slice B2 e.bys.length m2) (.slice B3 es.length m3))) := ⟨Blk.new _ _ _⟩
  have HTG3 := Box.mk (HTG.out.belo (bel1 w2 (.cells (ndC e (.slice B1 e.ms.length m1) (.slice B2 e.bys.length m2) (.slice B3 es.length m3)) 38)))
  have HB3 := Box.mk (bthen HB2.out (bel1 w2 (.cells (ndC e (.slice B1 e.ms.length m1) (.slice B2 e.bys.length m2) (.slice B3 es.length m3)) 38)) (Nat.le_refl _))
  have HD3 := Box.mk (HD2.out.keep (Agree.of_below (bel1 w2 (.cells (ndC e (.slice B1 e.ms.length m1) (.slice B2 e.bys.length m2) (.slice B3 es.length m3)) 38))))
  have hs3 : (w2.alloc (.cells (ndC e (.slice B1 e.ms.length m1) (.slice B2 e.bys.length m2) (.slice B3 es.length m3)) 38)).heap.size = w2.heap.size + 1 := by simp
  clear HTG HB2 HD2
  generalize w2.alloc (.cells (ndC e (.slice B1 e.ms.length m1) (.slice B2 e.bys.length m2) (.slice B3 es.length m3)) 38) = W3 at HBE HTG3 HB3 HD3 hs3 ⊢
  obtain ⟨k0, k1, k2, k3, k4, k5, k6, k7, k8, k9, k10⟩ := blk11z HBE.out
  go_wp2_with fail
  refine (lof_any (.node e es) _ (.slice B1 e.ms.length m1, .slice B2 e.bys.length m2, .slice B3 es.length m3) dv D (HTG3.out.tree.mono fun _ _ _ _ => trivial) (HD3.out.mono fun _ _ _ _ => trivial) (HW.out.below HB3.out) (by have := HG.out.2.2; omega) (by have := HG.out.2.1; omega) (by omega)).mono ?_
  rintro e1 w4 ⟨rfl, hb4⟩
  have HBE4 := Box.mk (HBE.out.below hb4)
  have HTG4 := Box.mk (HTG3.out.belo hb4)
  have HB4 := Box.mk (bthen HB3.out hb4 (Nat.le_refl _))
  have HD4 := Box.mk (HD3.out.keep (Agree.of_below hb4))
  have hs4 := hb4.size
  clear hb4 HBE HTG3 HB3 HD3 k0 k1 k2 k3 k4 k5 k6 k7 k8 k9 k10
  obtain ⟨k0, k1, k2, k3, k4, k5, k6, k7, k8, k9, k10⟩ := blk11z HBE4.out
  go_wp2_with fail
  refine (spoilt_any changed_ok ns3 5 wh v HI.out.2.1 HI.out.2.2 (.node e es) w1.heap.size w2.heap.size Lf at' _ (.slice B1 e.ms.length m1, .slice B2 e.bys.length m2, .slice B3 es.length m3) HTG4.out HG.out.1 (by omega) HI.out.1).mono ?_
  rintro e2 w5 ⟨t5, s5, rfl, ht5, hd5, hn5, hsp⟩
  obtain ⟨f, fs⟩ := t5
  obtain ⟨q1, q2, q3⟩ := s5
  obtain ⟨C1, p1, rfl, -⟩ := ht5.nod.ms.form
  obtain ⟨C2, p2, rfl, -⟩ := ht5.nod.bys.form
  obtain ⟨C3, p3, rfl, -⟩ := ht5.nod.kform
  simp only [Tree.d]
  have HB5 : Box (Below w.heap.size w w5) := ⟨HB4.out.trans ((hsp.below (by omega)).mono (by omega))⟩
  have HT5 := Box.mk (And.intro (ht5.mono (Q := AnyP) fun _ _ _ _ => trivial) (And.intro hd5 hn5))
  have HBE5 : Box (Blk w5 w2.heap.size 38 (ndC e (.slice B1 e.ms.length m1) (.slice B2 e.bys.length m2) (.slice B3 es.length m3))) := ⟨(hsp.block _ (by omega) (.inr (Nat.le_refl _))).trans HBE4.out⟩
  have HTE5 := Box.mk (HTG4.out.tree.keep hsp.agree)
  have HD5 := Box.mk (HD4.out.keep (Agree.of_lt (hsp.below (by omega)) fun _ _ h => h))
  have hs5 := hsp.size
  clear ht5 hd5 hn5 hsp HBE4 HTG4 HB4 HD4 k0 k1 k2 k3 k4 k5 k6 k7 k8 k9 k10
  go_wp2_with fail
  refine (lof_any (.node f fs) _ (.slice C1 f.ms.length p1, .slice C2 f.bys.length p2, .slice C3 fs.length p3) dv D HT5.out.1 (HD5.out.mono fun _ _ _ _ => trivial) (HW.out.below HB5.out) (by have := HG.out.2.2; have := HT5.out.2.2; omega) (by have := HG.out.2.1; have := HT5.out.2.1; omega) (by omega)).mono ?_
  rintro e3 w6 ⟨rfl, hb6⟩
  have HBE6 := Box.mk (HBE5.out.below hb6)
  have HTE6 := Box.mk (HTE5.out.belo hb6)
  have HB6 := Box.mk (bthen HB5.out hb6 (Nat.le_refl _))
  clear hb6 HT5 HBE5 HTE5 HB5 HD5
  obtain ⟨k0, k1, k2, k3, k4, k5, k6, k7, k8, k9, k10⟩ := blk11z HBE6.out
  go_wp2_with fail
  refine (lof_any (.node e es) _ (.slice B1 e.ms.length m1, .slice B2 e.bys.length m2, .slice B3 es.length m3) (.slice none 0 0) [] (HTE6.out.mono fun _ _ _ _ => trivial) ⟨SeqP.nil _ _ _, fun x hx => by simp at hx⟩ (HW.out.below HB6.out) (by have := HG.out.2.2; omega) (by have := HG.out.2.1; omega) (by simp)).mono ?_
  rintro e4 w7 ⟨rfl, hb7⟩
  have HB7 := Box.mk (bthen HB6.out hb7 (Nat.le_refl _))
  clear hb7 HBE6 HTE6 HB6 k0 k1 k2 k3 k4 k5 k6 k7 k8 k9 k10
  go_wp2_with fail
  refine (lives_true _ (HW.out.below HB7.out).base).mono ?_
  rintro e6 w8 ⟨rfl, hb9⟩
  have HB9 := Box.mk (bthen HB7.out hb9 (Nat.le_refl _))
  clear hb9 HB7
  go_wp2_with fail
  go_ret
  exact ⟨rfl, HB9.out⟩
end Go.Proofs.YtgomgoacponbkaaDoor
