/- The reference 08's Of, the law 08's of. -/
import Derived.Test.YtgomgoacponbkaaDoorPvVc
import Derived.Test.YtgomgoacponbkaaDoorPk31
set_option linter.unusedVariables false
set_option linter.unusedSimpArgs false
namespace Go.Proofs.YtgomgoacponbkaaDoor
open Go.RowKit FracM

set_option maxHeartbeats 2000000 in
set_option maxRecDepth 100000 in
theorem rOf_any (t : Tree) (P : Nat → Nat → Prop) (w : World) (s : Sl) (dv : Value) (D : List Dx) (hT : TreeAt w P t s) (hD : DecsAt w P dv D) (hn : nds t ≤ 1000000) (hd : dep t ≤ 1000000) (hDl : D.length ≤ 1000) :
    Calls Tryd.prog 34 #[dv, .agg (ndC t.d s.1 s.2.1 s.2.2)] w (RetB (.tuple #[uV (ofM (dcs D) t).1, .int .i64 (ofM (dcs D) t).2]) w) := by
  obtain ⟨d, ks⟩ := t
  obtain ⟨mv, bv, kv⟩ := s
  have HB := Box.mk (O3.start hT hD)
  obtain ⟨A1, n1, rfl, -⟩ := hT.nod.ms.form
  obtain ⟨A2, n2, rfl, -⟩ := hT.nod.bys.form
  obtain ⟨A3, n3, rfl, -⟩ := hT.nod.kform
  obtain ⟨AD, nD, rfl, -⟩ := hD.1.form
  clear hT hD
  simp only [Tree.d]
  go_enter Tryd.func34, Tryd.ntmps34
  go_upto_region 1 with (fail)
  generalize ((w.alloc (.cells (ndC d (.slice A1 d.ms.length n1) (.slice A2 d.bys.length n2) (.slice A3 ks.length n3)) 38)).alloc (.cells #[.int .i64 0, .int .i64 0, .int .i64 0] 23)) = W at HB ⊢
  obtain ⟨c0, c1, c2, c3, c4, c5, c6, c7, c8, c9, c10⟩ := blk11z HB.out.Q
  go_wp2_with fail
  refine (rpvalid_any (.node d ks) _ _ (.slice A1 d.ms.length n1, .slice A2 d.bys.length n2, .slice A3 ks.length n3) HB.out.nod.tree hn hd).mono ?_
  rintro e w1 ⟨rfl, hb⟩
  clear c0 c1 c2 c3 c4 c5 c6 c7 c8 c9 c10
  have HB2 := Box.mk (HB.out.next hb); clear HB hb
  obtain ⟨q, HQ⟩ : ∃ z, Box (validE (.node d ks) = z) := ⟨_, ⟨rfl⟩⟩
  rw [HQ.out]
  by_cases h0 : q = 0
  · subst h0
    have HOF : Box (ofM (dcs D) (.node d ks) = unitM (dcs D) (.node d ks)) := ⟨ofM_ok HQ.out⟩
    obtain ⟨c0, c1, c2, c3, c4, c5, c6, c7, c8, c9, c10⟩ := blk11z HB2.out.Q
    have HUN := Box.mk (rof_any (.node d ks))
    unfold ROfOk at HUN
    go_wp2_with fail
    refine (HUN.out _ _ (.slice A1 d.ms.length n1, .slice A2 d.bys.length n2, .slice A3 ks.length n3) _ D HB2.out.nod.tree HB2.out.decs (validE_chk HQ.out) hDl).mono ?_
    rintro e w2 ⟨rfl, hb⟩
    obtain ⟨u, er, HU⟩ : ∃ u er, Box (unitM (dcs D) (.node d ks) = (u, er)) := ⟨_, _, ⟨rfl⟩⟩
    rw [HU.out]
    clear c0 c1 c2 c3 c4 c5 c6 c7 c8 c9 c10
    have HB := Box.mk (HB2.out.next hb); clear HB2 hb
    obtain ⟨r0, r1, r2⟩ := HB.out.R.c3
    have rf := HB.out.R.frozen
    go_wp2_with fail
    exact bodyPost_ret (v := .tuple #[uV u, .int .i64 er]) (by simp [results, Tryd.results34, go_sem, r0, r1, r2, rf]) rfl ⟨by rw [HOF.out, HU.out]; try rfl, bset3 HB.out.below (by omega) _ _ _⟩
  · have h1 : (q != 0) = true := by simpa using h0
    have h2 : (q == 0) = false := by simpa using h0
    have HOF : Box (ofM (dcs D) (.node d ks) = (u0, q)) := ⟨ofM_bad HQ.out h0⟩
    obtain ⟨r0, r1, r2⟩ := HB2.out.R.c3
    have rf := HB2.out.R.frozen
    go_wp2_with fail
    exact bodyPost_ret (v := .tuple #[zeroU, .int .i64 q]) (by simp [results, Tryd.results34, go_sem, r0, r1, r2, rf]) rfl ⟨by rw [HOF.out]; try rfl, bset3 HB2.out.below (by omega) _ _ _⟩

structure L2 (w W : World) (d : Nd) (ks : List Tree) (mv bv kv dv : Value) (D : List Dx) : Prop where
  below : Below w.heap.size w W
  Q : Blk W w.heap.size 38 (ndC d mv bv kv)
  nod : Nod W AnyP d ks mv bv kv
  decs : DecsAt W AnyP dv D
theorem L2.next {w W W' : World} {d : Nd} {ks : List Tree} {mv bv kv dv : Value} {D : List Dx} (h : L2 w W d ks mv bv kv dv D) (hb : Below W.heap.size W W') : L2 w W' d ks mv bv kv dv D := ⟨bthen h.below hb (Nat.le_refl _), h.Q.below hb, h.nod.below hb, h.decs.keep (Agree.of_below hb)⟩
theorem L2.start {w : World} {d : Nd} {ks : List Tree} {mv bv kv dv : Value} {D : List Dx} (hT : TreeAt w AnyP (.node d ks) (mv, bv, kv)) (hD : DecsAt w AnyP dv D) : L2 w (w.alloc (.cells (ndC d mv bv kv) 38)) d ks mv bv kv dv D :=
  ⟨bel1 _ _, Blk.new _ _ _, (hT.belo (bel1 _ _)).nod, hD.keep (Agree.of_below (bel1 _ _))⟩
set_option maxHeartbeats 2000000 in
set_option maxRecDepth 100000 in
theorem lof_any (t : Tree) (w : World) (s : Sl) (dv : Value) (D : List Dx) (hT : TreeAt w AnyP t s) (hD : DecsAt w AnyP dv D) (hw : WordsG w) (hn : nds t ≤ 1000000) (hd : dep t ≤ 1000000) (hDl : D.length ≤ 1000) :
    Calls Tryd.prog 19 #[dv, .agg (ndC t.d s.1 s.2.1 s.2.2)] w (RetB (.bool true) w) := by
  obtain ⟨d, ks⟩ := t
  obtain ⟨mv, bv, kv⟩ := s
  have HW := Box.mk hw
  have HB := Box.mk (L2.start hT hD)
  obtain ⟨A1, n1, rfl, -⟩ := hT.nod.ms.form
  obtain ⟨A2, n2, rfl, -⟩ := hT.nod.bys.form
  obtain ⟨A3, n3, rfl, -⟩ := hT.nod.kform
  clear hT hD hw
  simp only [Tree.d]
  go_enter Tryd.func19, Tryd.ntmps19
  go_upto_region 1 with (fail)
  generalize w.alloc (.cells (ndC d (.slice A1 d.ms.length n1) (.slice A2 d.bys.length n2) (.slice A3 ks.length n3)) 38) = W at HB ⊢
  obtain ⟨c0, c1, c2, c3, c4, c5, c6, c7, c8, c9, c10⟩ := blk11z HB.out.Q
  go_wp2_with fail
  refine (of_any (.node d ks) AnyP _ (.slice A1 d.ms.length n1, .slice A2 d.bys.length n2, .slice A3 ks.length n3) dv D HB.out.nod.tree HB.out.decs (HW.out.below HB.out.below) hDl).mono ?_
  rintro e w1 ⟨rfl, hb⟩
  obtain ⟨u, er, HU⟩ : ∃ u er, Box (ofM (dcs D) (.node d ks) = (u, er)) := ⟨_, _, ⟨rfl⟩⟩
  rw [HU.out]
  clear c0 c1 c2 c3 c4 c5 c6 c7 c8 c9 c10
  have HB2 := Box.mk (HB.out.next hb); clear HB hb
  go_upto_region 2 with (fail)
  have HB := Box.mk (HB2.out.next (bel1 w1 (.cells (uC u) 23)))
  have HV : Box (Blk (w1.alloc (.cells (uC u) 23)) w1.heap.size 23 (uC u)) := ⟨Blk.new _ _ _⟩
  clear HB2
  generalize w1.alloc (.cells (uC u) 23) = W2 at *
  generalize w1.heap.size = va at *
  obtain ⟨c0, c1, c2, c3, c4, c5, c6, c7, c8, c9, c10⟩ := blk11z HB.out.Q
  go_wp2_with fail
  refine (rOf_any (.node d ks) AnyP _ (.slice A1 d.ms.length n1, .slice A2 d.bys.length n2, .slice A3 ks.length n3) dv D HB.out.nod.tree HB.out.decs hn hd hDl).mono ?_
  rintro e w3 ⟨rfl, hb⟩
  rw [HU.out]
  clear c0 c1 c2 c3 c4 c5 c6 c7 c8 c9 c10
  have HB3 := Box.mk (HB.out.next hb)
  have HV3 := Box.mk (HV.out.below hb); clear HB HV hb
  go_upto_region 3 with (fail)
  have HB := Box.mk (HB3.out.next (bel1 w3 (.cells (uC u) 23)))
  have HV := Box.mk (HV3.out.alloc (.cells (uC u) 23))
  have HX : Box (Blk (w3.alloc (.cells (uC u) 23)) w3.heap.size 23 (uC u)) := ⟨Blk.new _ _ _⟩
  clear HB3 HV3
  generalize w3.alloc (.cells (uC u) 23) = W4 at *
  generalize w3.heap.size = vb at *
  obtain ⟨v0, v1, v2⟩ := HV.out.c3
  obtain ⟨x0, x1, x2⟩ := HX.out.c3
  have hq := fun W : World => (eq_units u u W).trans (by rw [decide_eq_true rfl])
  have hee : (er == er) = true := by simp
  go_wp2_with fail
  go_ret
  exact ⟨rfl, HB.out.below⟩
end Go.Proofs.YtgomgoacponbkaaDoor
