/- Contracts, packed: Rf. -/
import Derived.Test.YtgomgoacponbkaaDoorPk29
set_option linter.unusedVariables false
set_option linter.unusedSimpArgs false
namespace Go.Proofs.YtgomgoacponbkaaDoor
section
open Go.RowKit FracM

abbrev Var := Nat × TypeId × Array Value
/-- what the law holds: declarations, and its variables -/
structure QS (w W : World) (dv : Value) (D : List Dx) (vs : List Var) : Prop where
  below : Below w.heap.size w W
  decs : DecsAt W AnyP dv D
  vars : ∀ v ∈ vs, Blk W v.1 v.2.1 v.2.2
theorem QS.next {w W W' : World} {dv : Value} {D : List Dx} {vs : List Var} (h : QS w W dv D vs) (hb : Below W.heap.size W W') : QS w W' dv D vs :=
  ⟨bthen h.below hb (Nat.le_refl _), h.decs.keep (Agree.of_below hb), fun v hv => (h.vars v hv).below hb⟩
theorem QS.add {w W : World} {dv : Value} {D : List Dx} {vs : List Var} (h : QS w W dv D vs) (t : TypeId) (cs : Array Value) : QS w (W.alloc (.cells cs t)) dv D ((W.heap.size, t, cs) :: vs) :=
  ⟨bthen h.below (bel1 _ _) (Nat.le_refl _), h.decs.keep (Agree.of_below (bel1 _ _)), fun v hv => by
    rcases List.mem_cons.1 hv with e | e
    · subst e; exact Blk.new _ _ _
    · exact (h.vars v e).alloc _⟩
theorem qN_ok (fn : Int) (h1 : 0 ≤ fn) (h2 : fn < 4) : NdOk (qN fn) := selN_ok (GoodN.bin (ns := ns3) (most := 5) fn h1 h2) ns3_ok (by omega)
theorem cN_ok : NdOk cN := selN_ok (GoodN.grp (ns := ns3) (most := 5) 3 0 [] (by omega) (by omega) (.inl ⟨by omega, rfl⟩) (List.nil_sublist _)) ns3_ok (by omega)
/-- two kids in a block -/
theorem pair_at {w : World} {t u : Tree} {s r : Sl} (fn : Int) (h1 : 0 ≤ fn) (h2 : fn < 4) (ht : TreeAt w AnyP t s) (hu : TreeAt w AnyP u r) (cs : Array Value) (hcs : cs = ndC t.d s.1 s.2.1 s.2.2 ++ ndC u.d r.1 r.2.1 r.2.2) :
    TreeAt (w.alloc (.cells cs 38)) AnyP (qT fn t u) (nilV, nilV, .slice (some ⟨w.heap.size, 0, none⟩) 2 2) := by
  subst hcs
  have a4 := SeqP.of_blk (P := AnyP) (size := 11) (n := 2) (Blk.new w (ndC t.d s.1 s.2.1 s.2.2 ++ ndC u.d r.1 r.2.1 r.2.2) 38) rfl (by omega) trivial
  refine .mk (qN fn) [t, u] _ _ _ [s, r] (qN_ok fn h1 h2) (SeqP.nil _ _ _) (SeqP.nil _ _ _) rfl ?_ ?_
  · simpa [ndL] using a4
  · intro i t' c h1 h2
    match i, h1, h2 with
    | 0, h1, h2 => simp at h1 h2; subst h1 h2; exact ht.belo (bel1 _ _)
    | 1, h1, h2 => simp at h1 h2; subst h1 h2; exact hu.belo (bel1 _ _)
    | i + 2, h1, h2 => simp at h1
theorem one_at {w : World} {t : Tree} {s : Sl} (ht : TreeAt w AnyP t s) (cs : Array Value) (hcs : cs = ndC t.d s.1 s.2.1 s.2.2) :
    TreeAt (w.alloc (.cells cs 38)) AnyP (cT t) (nilV, nilV, .slice (some ⟨w.heap.size, 0, none⟩) 1 1) := by
  subst hcs
  have a4 := SeqP.of_blk (P := AnyP) (size := 11) (n := 1) (Blk.new w (ndC t.d s.1 s.2.1 s.2.2) 38) rfl (by omega) trivial
  refine .mk cN [t] _ _ _ [s] cN_ok (SeqP.nil _ _ _) (SeqP.nil _ _ _) rfl ?_ ?_
  · simpa [ndL] using a4
  · intro i t' c h1 h2
    match i, h1, h2 with
    | 0, h1, h2 => simp at h1 h2; subst h1 h2; exact ht.belo (bel1 _ _)
    | i + 1, h1, h2 => simp at h1
theorem unitsL_fit : ∀ u ∈ unitsL, I64 u.1 ∧ I64 u.2.1 ∧ I64 u.2.2 := by
  intro u hu
  simp [unitsL] at hu
  unfold I64
  rcases hu with rfl | rfl | rfl | rfl | rfl | rfl | rfl | rfl <;> simp
theorem decs_of {w w1 : World} {D : List Dx} {v : Value} (hown : w1.ownsRow w.heap.size 46 12 v D.length (D.flatMap dcL)) (hg : ∀ x ∈ D, GoodD w1 0 x) : DecsAt w1 AnyP v D :=
  ⟨SeqP.of_own hown (fun _ _ _ _ => trivial), fun x hx => ⟨SeqP.of_seq (hg x hx).labs (fun _ _ _ _ _ => trivial), by have := (ns3_ok _ (hg x hx).name).2.2; unfold maxLen; omega, unitsL_fit _ (hg x hx).unit⟩⟩
theorem Ints.toP {w : World} {v : Value} {l : List Int} (h : Ints w w.heap.size v l) : IntsP w v l := by
  obtain ⟨⟨h1, A, c, hv, hn, hc, hx⟩, hz⟩ := h
  refine ⟨⟨h1, A, c, hv, hn, hc, fun h0 => ?_⟩, hz⟩
  obtain ⟨b, off, hA, hf, hcl⟩ := hx h0
  exact ⟨b, off, hA, hf.1, hf.1, hcl⟩
theorem QS.add2 {w W : World} {dv : Value} {D : List Dx} {vs : List Var} (h : QS w W dv D vs) (t t' : TypeId) (cs cs' : Array Value) : QS w ((W.alloc (.cells cs t)).alloc (.cells cs' t')) dv D ((W.heap.size + 1, t', cs') :: vs) := by
  have := (h.next (bel1 W (.cells cs t))).add t' cs'
  simpa using this
theorem blk11l {W : World} {g : Nat} {t : TypeId} {c0 c1 c2 c3 c4 c5 c6 c7 c8 c9 c10 : Value} (h : Blk W g t #[c0, c1, c2, c3, c4, c5, c6, c7, c8, c9, c10]) : W.cell? ⟨g, 0, none⟩ = some c0 ∧ W.cell? ⟨g, 1, none⟩ = some c1 ∧ W.cell? ⟨g, 2, none⟩ = some c2 ∧ W.cell? ⟨g, 3, none⟩ = some c3 ∧ W.cell? ⟨g, 4, none⟩ = some c4 ∧ W.cell? ⟨g, 5, none⟩ = some c5 ∧ W.cell? ⟨g, 6, none⟩ = some c6 ∧ W.cell? ⟨g, 7, none⟩ = some c7 ∧ W.cell? ⟨g, 8, none⟩ = some c8 ∧ W.cell? ⟨g, 9, none⟩ = some c9 ∧ W.cell? ⟨g, 10, none⟩ = some c10 := by
  unfold Blk at h
  refine ⟨?_, ?_, ?_, ?_, ?_, ?_, ?_, ?_, ?_, ?_, ?_⟩ <;> simp [World.cell?, h]
theorem of_good {D : List Dc} {t : Tree} (h : GoodT ns3 5 t) (h1 : dep t ≤ 12) (h2 : nds t ≤ 200) : ofM D t = unitM D t := ofM_ok (good_valid ns3_ok (by omega) h h1 h2)
theorem byN_good {t : Tree} (h : GoodT ns3 5 t) (h1 : dep t ≤ 4) (h2 : nds t ≤ 15) : byN t = rlB t := by
  unfold byN; rw [good_valid ns3_ok (by omega) h (by omega) (by omega)]; rfl
theorem of_four (D : List Dc) {t : Tree} (h : GoodT ns3 5 t) (h1 : dep t ≤ 4) (h2 : nds t ≤ 15) : ofM D t = unitM D t ∧ ofM D (qT 3 t t) = unitM D (qT 3 t t) ∧ ofM D (qT 1 t t) = unitM D (qT 1 t t) ∧ ofM D (qT 2 (qT 3 t t) t) = unitM D (qT 2 (qT 3 t t) t) ∧ ofM D (cT t) = unitM D (cT t) := by
  have a := qT_size 3 t t
  have b := qT_size 1 t t
  have c := qT_size 2 (qT 3 t t) t
  have e := cT_size t
  have hq := qT_good 3 (by omega) (by omega) h h
  exact ⟨of_good h (by omega) (by omega), of_good hq (by omega) (by omega), of_good (qT_good 1 (by omega) (by omega) h h) (by omega) (by omega), of_good (qT_good 2 (by omega) (by omega) hq h) (by omega) (by omega), of_good (cT_good h) (by omega) (by omega)⟩
theorem quot_law (D : List Dc) {t : Tree} (h : GoodT ns3 5 t) (h1 : dep t ≤ 4) (h2 : nds t ≤ 15) : (∀ u, ofM D t = (u, 0) → unitM D t = (u, 0)) ∧ ∀ u, ofM D t = (u, 0) → ofM D (qT 3 t t) = (u0, 0) ∧ ofM D (qT 1 t t) = (u, 0) ∧ ofM D (qT 2 (qT 3 t t) t) = (u, 0) ∧ ofM D (cT t) = (u0, if rlB t then 7 else 0) := by
  obtain ⟨a, b, c, d, e⟩ := of_four D h h1 h2
  rw [a, b, c, d, e]
  exact ⟨fun u hu => hu, fun u hu => ⟨(q_same D t hu).1, (q_same D t hu).2, q_prod D t hu, q_count D t hu⟩⟩
theorem quot_law_bad (D : List Dc) {t : Tree} (h : GoodT ns3 5 t) (h1 : dep t ≤ 4) (h2 : nds t ≤ 15) {u : U3} {f : Int} (hu : ofM D t = (u, f)) (h0 : f ≠ 0) : ofM D (qT 3 t t) = (u0, f) ∧ ofM D (qT 1 t t) = (u0, f) ∧ ofM D (qT 2 (qT 3 t t) t) = (u0, f) ∧ ofM D (cT t) = (u0, f) := by
  obtain ⟨a, b, c, d, e⟩ := of_four D h h1 h2
  rw [b, c, d, e]
  rw [a] at hu
  have := quot_bad (D := D) (e := t) (by rw [hu]; exact h0)
  rw [hu] at this
  exact this
set_option maxHeartbeats 8000000 in
set_option maxRecDepth 100000 in
theorem typesQuotient_walk (AM : Option Addr) (nm cm : Nat) (lm : List Int) (AL : Option Addr) (nl cl : Nat) (ll : List Int) (w : World) (hw : WordsG w) (h1 : Ints w w.heap.size (.slice AM nm cm) lm) (h2 : Ints w w.heap.size (.slice AL nl cl) ll) :
    Calls Tryd.prog 8 #[.slice AM nm cm, .slice AL nl cl] w fun e w' => e = .returned (.bool true) ∧ Below w.heap.size w w' := by
  have HW := Box.mk hw
  have HL := Box.mk h2
  have HM := Box.mk h1
  clear h1 h2 hw
  go_enter Tryd.func8, Tryd.ntmps8
  go_wp2_with fail
  refine (decls_any _ _ _ lm _ HM.out).mono ?_
  rintro e w1 ⟨D, AD, nD, cD, rfl, hown, hDl, hgood, hb1⟩
  obtain ⟨AD', cD', hvD⟩ := own_form hown
  obtain rfl : nD = D.length := by injection hvD
  clear hvD
  have HD1 := Box.mk (And.intro (decs_of hown hgood) hb1)
  have HG1 := Box.mk hgood
  have HL1 := Box.mk (IntsP.belo HL.out.toP hb1)
  generalize hdv : (Value.slice AD D.length cD) = dv at HD1
  have HDV := Box.mk hdv
  clear hown hgood hb1 hdv HM
  go_wp2_with fail
  refine (query_any _ ll _ HL1.out).mono ?_
  rintro e w2 ⟨t, s, rfl, htree, hgt, hdp, hnd, hb2⟩
  obtain ⟨d, ks⟩ := t
  obtain ⟨mv, bv, kv⟩ := s
  obtain ⟨A1, n1, rfl, -⟩ := htree.form.1
  obtain ⟨A2, n2, rfl, -⟩ := htree.form.2.1
  obtain ⟨A3, n3, rfl, -⟩ := htree.form.2.2
  simp only [Tree.d]
  have HT : Box (TreeAt w2 AnyP (.node d ks) (.slice A1 d.ms.length n1, .slice A2 d.bys.length n2, .slice A3 ks.length n3)) := ⟨by obtain ⟨L, h⟩ := htree; exact h.tree.mono fun _ _ _ _ => trivial⟩
  have HQ0 : Box (QS w w2 dv D []) := ⟨⟨bthen HD1.out.2 hb2 (Nat.le_refl _), HD1.out.1.keep (Agree.of_below hb2), fun v hv => by simp at hv⟩⟩
  have HGT := Box.mk (And.intro hgt (And.intro hdp hnd))
  clear htree hgt hdp hnd hb2 HD1 HL1 HL HG1
  go_upto_region 3 with (fail)
  have HQ1 := Box.mk (HQ0.out.add 38 (ndC d (.slice A1 d.ms.length n1) (.slice A2 d.bys.length n2) (.slice A3 ks.length n3)))
  have HT' := Box.mk (TreeAt.belo HT.out (bel1 w2 (.cells (ndC d (.slice A1 d.ms.length n1) (.slice A2 d.bys.length n2) (.slice A3 ks.length n3)) 38)))
  clear HQ0 HT
  have HT := Box.mk HT'.out
  clear HT'
  generalize w2.alloc (.cells (ndC d (.slice A1 d.ms.length n1) (.slice A2 d.bys.length n2) (.slice A3 ks.length n3)) 38) = V0 at *
  generalize w2.heap.size = eb at *
  obtain ⟨u, f, HU⟩ : ∃ u f, Box (ofM (dcs D) (.node d ks) = (u, f)) := ⟨_, _, ⟨rfl⟩⟩
  obtain ⟨k0, k1, k2, k3, k4, k5, k6, k7, k8, k9, k10⟩ := blk11z (HQ1.out.vars (eb, 38, (ndC d (.slice A1 d.ms.length n1) (.slice A2 d.bys.length n2) (.slice A3 ks.length n3))) (by simp))
  go_wp2_with fail
  refine (of_any (.node d ks) AnyP _ (.slice A1 d.ms.length n1, .slice A2 d.bys.length n2, .slice A3 ks.length n3) dv D HT.out HQ1.out.decs (HW.out.below HQ1.out.below) (by omega)).mono ?_
  rintro e w3 ⟨rfl, hb5⟩
  rw [HU.out]
  simp only
  have HQ2 := Box.mk (HQ1.out.next hb5)
  have HT' := Box.mk (TreeAt.belo HT.out hb5)
  clear HQ1 HT hb5
  have HT := Box.mk HT'.out
  clear HT'
  go_upto_region 4 with (fail)
  have HQ3 := Box.mk (HQ2.out.add 23 (uC u))
  have HT' := Box.mk (TreeAt.belo HT.out (bel1 w3 (.cells (uC u) 23)))
  clear HQ2 HT
  have HT := Box.mk HT'.out
  clear HT'
  generalize w3.alloc (.cells (uC u) 23) = V1 at *
  generalize w3.heap.size = ub at *
  clear k0 k1 k2 k3 k4 k5 k6 k7 k8 k9 k10
  obtain ⟨k0, k1, k2, k3, k4, k5, k6, k7, k8, k9, k10⟩ := blk11z (HQ3.out.vars (eb, 38, (ndC d (.slice A1 d.ms.length n1) (.slice A2 d.bys.length n2) (.slice A3 ks.length n3))) (by simp))
  go_upto_region 5 with (fail)
  have HTq : Box (TreeAt ((V1.alloc (.cells #[.int .i64 d.kind, .int .i64 d.fn, .int .i64 d.win, .int .i64 d.off, .int .i64 d.k, .int .i64 d.num, .int .i64 d.den, .string d.name, .slice A1 d.ms.length n1, .slice A2 d.bys.length n2, .slice A3 ks.length n3, .int .i64 d.kind, .int .i64 d.fn, .int .i64 d.win, .int .i64 d.off, .int .i64 d.k, .int .i64 d.num, .int .i64 d.den, .string d.name, .slice A1 d.ms.length n1, .slice A2 d.bys.length n2, .slice A3 ks.length n3] 38)).alloc (.cells #[.int .i64 3, .int .i64 3, .int .i64 0, .int .i64 0, .int .i64 0, .int .i64 0, .int .i64 0, .string ⟨#[]⟩, .slice none 0 0, .slice none 0 0, .slice (some ⟨V1.heap.size, 0, none⟩) 2 2] 38)) AnyP (qT 3 (.node d ks) (.node d ks)) (nilV, nilV, .slice (some ⟨V1.heap.size, 0, none⟩) 2 2)) := ⟨(pair_at (s := (.slice A1 d.ms.length n1, .slice A2 d.bys.length n2, .slice A3 ks.length n3)) (r := (.slice A1 d.ms.length n1, .slice A2 d.bys.length n2, .slice A3 ks.length n3)) 3 (by omega) (by omega) HT.out HT.out #[.int .i64 d.kind, .int .i64 d.fn, .int .i64 d.win, .int .i64 d.off, .int .i64 d.k, .int .i64 d.num, .int .i64 d.den, .string d.name, .slice A1 d.ms.length n1, .slice A2 d.bys.length n2, .slice A3 ks.length n3, .int .i64 d.kind, .int .i64 d.fn, .int .i64 d.win, .int .i64 d.off, .int .i64 d.k, .int .i64 d.num, .int .i64 d.den, .string d.name, .slice A1 d.ms.length n1, .slice A2 d.bys.length n2, .slice A3 ks.length n3] rfl).belo (bel1 _ _)⟩
  clear k0 k1 k2 k3 k4 k5 k6 k7 k8 k9 k10
  have HQ4 := Box.mk (HQ3.out.add2 38 38 #[.int .i64 d.kind, .int .i64 d.fn, .int .i64 d.win, .int .i64 d.off, .int .i64 d.k, .int .i64 d.num, .int .i64 d.den, .string d.name, .slice A1 d.ms.length n1, .slice A2 d.bys.length n2, .slice A3 ks.length n3, .int .i64 d.kind, .int .i64 d.fn, .int .i64 d.win, .int .i64 d.off, .int .i64 d.k, .int .i64 d.num, .int .i64 d.den, .string d.name, .slice A1 d.ms.length n1, .slice A2 d.bys.length n2, .slice A3 ks.length n3] #[.int .i64 3, .int .i64 3, .int .i64 0, .int .i64 0, .int .i64 0, .int .i64 0, .int .i64 0, .string ⟨#[]⟩, .slice none 0 0, .slice none 0 0, .slice (some ⟨V1.heap.size, 0, none⟩) 2 2])
  have HT' := Box.mk (TreeAt.belo HT.out (bel2 V1 (.cells #[.int .i64 d.kind, .int .i64 d.fn, .int .i64 d.win, .int .i64 d.off, .int .i64 d.k, .int .i64 d.num, .int .i64 d.den, .string d.name, .slice A1 d.ms.length n1, .slice A2 d.bys.length n2, .slice A3 ks.length n3, .int .i64 d.kind, .int .i64 d.fn, .int .i64 d.win, .int .i64 d.off, .int .i64 d.k, .int .i64 d.num, .int .i64 d.den, .string d.name, .slice A1 d.ms.length n1, .slice A2 d.bys.length n2, .slice A3 ks.length n3] 38) (.cells #[.int .i64 3, .int .i64 3, .int .i64 0, .int .i64 0, .int .i64 0, .int .i64 0, .int .i64 0, .string ⟨#[]⟩, .slice none 0 0, .slice none 0 0, .slice (some ⟨V1.heap.size, 0, none⟩) 2 2] 38)))
  clear HQ3 HT
  have HT := Box.mk HT'.out
  clear HT'
  generalize ((V1.alloc (.cells #[.int .i64 d.kind, .int .i64 d.fn, .int .i64 d.win, .int .i64 d.off, .int .i64 d.k, .int .i64 d.num, .int .i64 d.den, .string d.name, .slice A1 d.ms.length n1, .slice A2 d.bys.length n2, .slice A3 ks.length n3, .int .i64 d.kind, .int .i64 d.fn, .int .i64 d.win, .int .i64 d.off, .int .i64 d.k, .int .i64 d.num, .int .i64 d.den, .string d.name, .slice A1 d.ms.length n1, .slice A2 d.bys.length n2, .slice A3 ks.length n3] 38)).alloc (.cells #[.int .i64 3, .int .i64 3, .int .i64 0, .int .i64 0, .int .i64 0, .int .i64 0, .int .i64 0, .string ⟨#[]⟩, .slice none 0 0, .slice none 0 0, .slice (some ⟨V1.heap.size, 0, none⟩) 2 2] 38)) = V2 at *
  generalize V1.heap.size = kq at *
  obtain ⟨k0, k1, k2, k3, k4, k5, k6, k7, k8, k9, k10⟩ := blk11z (HQ4.out.vars (eb, 38, (ndC d (.slice A1 d.ms.length n1) (.slice A2 d.bys.length n2) (.slice A3 ks.length n3))) (by simp))
  go_upto_region 6 with (fail)
  have HTd : Box (TreeAt ((V2.alloc (.cells #[.int .i64 d.kind, .int .i64 d.fn, .int .i64 d.win, .int .i64 d.off, .int .i64 d.k, .int .i64 d.num, .int .i64 d.den, .string d.name, .slice A1 d.ms.length n1, .slice A2 d.bys.length n2, .slice A3 ks.length n3, .int .i64 d.kind, .int .i64 d.fn, .int .i64 d.win, .int .i64 d.off, .int .i64 d.k, .int .i64 d.num, .int .i64 d.den, .string d.name, .slice A1 d.ms.length n1, .slice A2 d.bys.length n2, .slice A3 ks.length n3] 38)).alloc (.cells #[.int .i64 3, .int .i64 1, .int .i64 0, .int .i64 0, .int .i64 0, .int .i64 0, .int .i64 0, .string ⟨#[]⟩, .slice none 0 0, .slice none 0 0, .slice (some ⟨V2.heap.size, 0, none⟩) 2 2] 38)) AnyP (qT 1 (.node d ks) (.node d ks)) (nilV, nilV, .slice (some ⟨V2.heap.size, 0, none⟩) 2 2)) := ⟨(pair_at (s := (.slice A1 d.ms.length n1, .slice A2 d.bys.length n2, .slice A3 ks.length n3)) (r := (.slice A1 d.ms.length n1, .slice A2 d.bys.length n2, .slice A3 ks.length n3)) 1 (by omega) (by omega) HT.out HT.out #[.int .i64 d.kind, .int .i64 d.fn, .int .i64 d.win, .int .i64 d.off, .int .i64 d.k, .int .i64 d.num, .int .i64 d.den, .string d.name, .slice A1 d.ms.length n1, .slice A2 d.bys.length n2, .slice A3 ks.length n3, .int .i64 d.kind, .int .i64 d.fn, .int .i64 d.win, .int .i64 d.off, .int .i64 d.k, .int .i64 d.num, .int .i64 d.den, .string d.name, .slice A1 d.ms.length n1, .slice A2 d.bys.length n2, .slice A3 ks.length n3] rfl).belo (bel1 _ _)⟩
  clear k0 k1 k2 k3 k4 k5 k6 k7 k8 k9 k10
  have HQ5 := Box.mk (HQ4.out.add2 38 38 #[.int .i64 d.kind, .int .i64 d.fn, .int .i64 d.win, .int .i64 d.off, .int .i64 d.k, .int .i64 d.num, .int .i64 d.den, .string d.name, .slice A1 d.ms.length n1, .slice A2 d.bys.length n2, .slice A3 ks.length n3, .int .i64 d.kind, .int .i64 d.fn, .int .i64 d.win, .int .i64 d.off, .int .i64 d.k, .int .i64 d.num, .int .i64 d.den, .string d.name, .slice A1 d.ms.length n1, .slice A2 d.bys.length n2, .slice A3 ks.length n3] #[.int .i64 3, .int .i64 1, .int .i64 0, .int .i64 0, .int .i64 0, .int .i64 0, .int .i64 0, .string ⟨#[]⟩, .slice none 0 0, .slice none 0 0, .slice (some ⟨V2.heap.size, 0, none⟩) 2 2])
  have HT' := Box.mk (TreeAt.belo HT.out (bel2 V2 (.cells #[.int .i64 d.kind, .int .i64 d.fn, .int .i64 d.win, .int .i64 d.off, .int .i64 d.k, .int .i64 d.num, .int .i64 d.den, .string d.name, .slice A1 d.ms.length n1, .slice A2 d.bys.length n2, .slice A3 ks.length n3, .int .i64 d.kind, .int .i64 d.fn, .int .i64 d.win, .int .i64 d.off, .int .i64 d.k, .int .i64 d.num, .int .i64 d.den, .string d.name, .slice A1 d.ms.length n1, .slice A2 d.bys.length n2, .slice A3 ks.length n3] 38) (.cells #[.int .i64 3, .int .i64 1, .int .i64 0, .int .i64 0, .int .i64 0, .int .i64 0, .int .i64 0, .string ⟨#[]⟩, .slice none 0 0, .slice none 0 0, .slice (some ⟨V2.heap.size, 0, none⟩) 2 2] 38)))
  have HTq' := Box.mk (TreeAt.belo HTq.out (bel2 V2 (.cells #[.int .i64 d.kind, .int .i64 d.fn, .int .i64 d.win, .int .i64 d.off, .int .i64 d.k, .int .i64 d.num, .int .i64 d.den, .string d.name, .slice A1 d.ms.length n1, .slice A2 d.bys.length n2, .slice A3 ks.length n3, .int .i64 d.kind, .int .i64 d.fn, .int .i64 d.win, .int .i64 d.off, .int .i64 d.k, .int .i64 d.num, .int .i64 d.den, .string d.name, .slice A1 d.ms.length n1, .slice A2 d.bys.length n2, .slice A3 ks.length n3] 38) (.cells #[.int .i64 3, .int .i64 1, .int .i64 0, .int .i64 0, .int .i64 0, .int .i64 0, .int .i64 0, .string ⟨#[]⟩, .slice none 0 0, .slice none 0 0, .slice (some ⟨V2.heap.size, 0, none⟩) 2 2] 38)))
  clear HQ4 HT HTq
  have HT := Box.mk HT'.out
  clear HT'
  have HTq := Box.mk HTq'.out
  clear HTq'
  generalize ((V2.alloc (.cells #[.int .i64 d.kind, .int .i64 d.fn, .int .i64 d.win, .int .i64 d.off, .int .i64 d.k, .int .i64 d.num, .int .i64 d.den, .string d.name, .slice A1 d.ms.length n1, .slice A2 d.bys.length n2, .slice A3 ks.length n3, .int .i64 d.kind, .int .i64 d.fn, .int .i64 d.win, .int .i64 d.off, .int .i64 d.k, .int .i64 d.num, .int .i64 d.den, .string d.name, .slice A1 d.ms.length n1, .slice A2 d.bys.length n2, .slice A3 ks.length n3] 38)).alloc (.cells #[.int .i64 3, .int .i64 1, .int .i64 0, .int .i64 0, .int .i64 0, .int .i64 0, .int .i64 0, .string ⟨#[]⟩, .slice none 0 0, .slice none 0 0, .slice (some ⟨V2.heap.size, 0, none⟩) 2 2] 38)) = V3 at *
  generalize V2.heap.size = kd at *
  obtain ⟨k0, k1, k2, k3, k4, k5, k6, k7, k8, k9, k10⟩ := blk11l (HQ5.out.vars ((kq + 1), 38, #[.int .i64 3, .int .i64 3, .int .i64 0, .int .i64 0, .int .i64 0, .int .i64 0, .int .i64 0, .string ⟨#[]⟩, .slice none 0 0, .slice none 0 0, .slice (some ⟨kq, 0, none⟩) 2 2]) (by simp))
  obtain ⟨j0, j1, j2, j3, j4, j5, j6, j7, j8, j9, j10⟩ := blk11z (HQ5.out.vars (eb, 38, (ndC d (.slice A1 d.ms.length n1) (.slice A2 d.bys.length n2) (.slice A3 ks.length n3))) (by simp))
  go_upto_region 7 with (fail)
  have HTp : Box (TreeAt ((V3.alloc (.cells #[.int .i64 3, .int .i64 3, .int .i64 0, .int .i64 0, .int .i64 0, .int .i64 0, .int .i64 0, .string ⟨#[]⟩, .slice none 0 0, .slice none 0 0, .slice (some ⟨kq, 0, none⟩) 2 2, .int .i64 d.kind, .int .i64 d.fn, .int .i64 d.win, .int .i64 d.off, .int .i64 d.k, .int .i64 d.num, .int .i64 d.den, .string d.name, .slice A1 d.ms.length n1, .slice A2 d.bys.length n2, .slice A3 ks.length n3] 38)).alloc (.cells #[.int .i64 3, .int .i64 2, .int .i64 0, .int .i64 0, .int .i64 0, .int .i64 0, .int .i64 0, .string ⟨#[]⟩, .slice none 0 0, .slice none 0 0, .slice (some ⟨V3.heap.size, 0, none⟩) 2 2] 38)) AnyP (qT 2 (qT 3 (.node d ks) (.node d ks)) (.node d ks)) (nilV, nilV, .slice (some ⟨V3.heap.size, 0, none⟩) 2 2)) := ⟨(pair_at (s := (nilV, nilV, .slice (some ⟨kq, 0, none⟩) 2 2)) (r := (.slice A1 d.ms.length n1, .slice A2 d.bys.length n2, .slice A3 ks.length n3)) 2 (by omega) (by omega) HTq.out HT.out #[.int .i64 3, .int .i64 3, .int .i64 0, .int .i64 0, .int .i64 0, .int .i64 0, .int .i64 0, .string ⟨#[]⟩, .slice none 0 0, .slice none 0 0, .slice (some ⟨kq, 0, none⟩) 2 2, .int .i64 d.kind, .int .i64 d.fn, .int .i64 d.win, .int .i64 d.off, .int .i64 d.k, .int .i64 d.num, .int .i64 d.den, .string d.name, .slice A1 d.ms.length n1, .slice A2 d.bys.length n2, .slice A3 ks.length n3] rfl).belo (bel1 _ _)⟩
  clear k0 k1 k2 k3 k4 k5 k6 k7 k8 k9 k10
  clear j0 j1 j2 j3 j4 j5 j6 j7 j8 j9 j10
  have HQ6 := Box.mk (HQ5.out.add2 38 38 #[.int .i64 3, .int .i64 3, .int .i64 0, .int .i64 0, .int .i64 0, .int .i64 0, .int .i64 0, .string ⟨#[]⟩, .slice none 0 0, .slice none 0 0, .slice (some ⟨kq, 0, none⟩) 2 2, .int .i64 d.kind, .int .i64 d.fn, .int .i64 d.win, .int .i64 d.off, .int .i64 d.k, .int .i64 d.num, .int .i64 d.den, .string d.name, .slice A1 d.ms.length n1, .slice A2 d.bys.length n2, .slice A3 ks.length n3] #[.int .i64 3, .int .i64 2, .int .i64 0, .int .i64 0, .int .i64 0, .int .i64 0, .int .i64 0, .string ⟨#[]⟩, .slice none 0 0, .slice none 0 0, .slice (some ⟨V3.heap.size, 0, none⟩) 2 2])
  have HT' := Box.mk (TreeAt.belo HT.out (bel2 V3 (.cells #[.int .i64 3, .int .i64 3, .int .i64 0, .int .i64 0, .int .i64 0, .int .i64 0, .int .i64 0, .string ⟨#[]⟩, .slice none 0 0, .slice none 0 0, .slice (some ⟨kq, 0, none⟩) 2 2, .int .i64 d.kind, .int .i64 d.fn, .int .i64 d.win, .int .i64 d.off, .int .i64 d.k, .int .i64 d.num, .int .i64 d.den, .string d.name, .slice A1 d.ms.length n1, .slice A2 d.bys.length n2, .slice A3 ks.length n3] 38) (.cells #[.int .i64 3, .int .i64 2, .int .i64 0, .int .i64 0, .int .i64 0, .int .i64 0, .int .i64 0, .string ⟨#[]⟩, .slice none 0 0, .slice none 0 0, .slice (some ⟨V3.heap.size, 0, none⟩) 2 2] 38)))
  have HTq' := Box.mk (TreeAt.belo HTq.out (bel2 V3 (.cells #[.int .i64 3, .int .i64 3, .int .i64 0, .int .i64 0, .int .i64 0, .int .i64 0, .int .i64 0, .string ⟨#[]⟩, .slice none 0 0, .slice none 0 0, .slice (some ⟨kq, 0, none⟩) 2 2, .int .i64 d.kind, .int .i64 d.fn, .int .i64 d.win, .int .i64 d.off, .int .i64 d.k, .int .i64 d.num, .int .i64 d.den, .string d.name, .slice A1 d.ms.length n1, .slice A2 d.bys.length n2, .slice A3 ks.length n3] 38) (.cells #[.int .i64 3, .int .i64 2, .int .i64 0, .int .i64 0, .int .i64 0, .int .i64 0, .int .i64 0, .string ⟨#[]⟩, .slice none 0 0, .slice none 0 0, .slice (some ⟨V3.heap.size, 0, none⟩) 2 2] 38)))
  have HTd' := Box.mk (TreeAt.belo HTd.out (bel2 V3 (.cells #[.int .i64 3, .int .i64 3, .int .i64 0, .int .i64 0, .int .i64 0, .int .i64 0, .int .i64 0, .string ⟨#[]⟩, .slice none 0 0, .slice none 0 0, .slice (some ⟨kq, 0, none⟩) 2 2, .int .i64 d.kind, .int .i64 d.fn, .int .i64 d.win, .int .i64 d.off, .int .i64 d.k, .int .i64 d.num, .int .i64 d.den, .string d.name, .slice A1 d.ms.length n1, .slice A2 d.bys.length n2, .slice A3 ks.length n3] 38) (.cells #[.int .i64 3, .int .i64 2, .int .i64 0, .int .i64 0, .int .i64 0, .int .i64 0, .int .i64 0, .string ⟨#[]⟩, .slice none 0 0, .slice none 0 0, .slice (some ⟨V3.heap.size, 0, none⟩) 2 2] 38)))
  clear HQ5 HT HTq HTd
  have HT := Box.mk HT'.out
  clear HT'
  have HTq := Box.mk HTq'.out
  clear HTq'
  have HTd := Box.mk HTd'.out
  clear HTd'
  generalize ((V3.alloc (.cells #[.int .i64 3, .int .i64 3, .int .i64 0, .int .i64 0, .int .i64 0, .int .i64 0, .int .i64 0, .string ⟨#[]⟩, .slice none 0 0, .slice none 0 0, .slice (some ⟨kq, 0, none⟩) 2 2, .int .i64 d.kind, .int .i64 d.fn, .int .i64 d.win, .int .i64 d.off, .int .i64 d.k, .int .i64 d.num, .int .i64 d.den, .string d.name, .slice A1 d.ms.length n1, .slice A2 d.bys.length n2, .slice A3 ks.length n3] 38)).alloc (.cells #[.int .i64 3, .int .i64 2, .int .i64 0, .int .i64 0, .int .i64 0, .int .i64 0, .int .i64 0, .string ⟨#[]⟩, .slice none 0 0, .slice none 0 0, .slice (some ⟨V3.heap.size, 0, none⟩) 2 2] 38)) = V4 at *
  generalize V3.heap.size = kp at *
  obtain ⟨k0, k1, k2, k3, k4, k5, k6, k7, k8, k9, k10⟩ := blk11z (HQ6.out.vars (eb, 38, (ndC d (.slice A1 d.ms.length n1) (.slice A2 d.bys.length n2) (.slice A3 ks.length n3))) (by simp))
  go_upto_region 8 with (fail)
  have HTc : Box (TreeAt ((V4.alloc (.cells #[.int .i64 d.kind, .int .i64 d.fn, .int .i64 d.win, .int .i64 d.off, .int .i64 d.k, .int .i64 d.num, .int .i64 d.den, .string d.name, .slice A1 d.ms.length n1, .slice A2 d.bys.length n2, .slice A3 ks.length n3] 38)).alloc (.cells #[.int .i64 2, .int .i64 3, .int .i64 0, .int .i64 0, .int .i64 0, .int .i64 0, .int .i64 0, .string ⟨#[]⟩, .slice none 0 0, .slice none 0 0, .slice (some ⟨V4.heap.size, 0, none⟩) 1 1] 38)) AnyP (cT (.node d ks)) (nilV, nilV, .slice (some ⟨V4.heap.size, 0, none⟩) 1 1)) := ⟨(one_at (s := (.slice A1 d.ms.length n1, .slice A2 d.bys.length n2, .slice A3 ks.length n3)) HT.out #[.int .i64 d.kind, .int .i64 d.fn, .int .i64 d.win, .int .i64 d.off, .int .i64 d.k, .int .i64 d.num, .int .i64 d.den, .string d.name, .slice A1 d.ms.length n1, .slice A2 d.bys.length n2, .slice A3 ks.length n3] rfl).belo (bel1 _ _)⟩
  clear k0 k1 k2 k3 k4 k5 k6 k7 k8 k9 k10
  have HQ7 := Box.mk (HQ6.out.add2 38 38 #[.int .i64 d.kind, .int .i64 d.fn, .int .i64 d.win, .int .i64 d.off, .int .i64 d.k, .int .i64 d.num, .int .i64 d.den, .string d.name, .slice A1 d.ms.length n1, .slice A2 d.bys.length n2, .slice A3 ks.length n3] #[.int .i64 2, .int .i64 3, .int .i64 0, .int .i64 0, .int .i64 0, .int .i64 0, .int .i64 0, .string ⟨#[]⟩, .slice none 0 0, .slice none 0 0, .slice (some ⟨V4.heap.size, 0, none⟩) 1 1])
  have HT' := Box.mk (TreeAt.belo HT.out (bel2 V4 (.cells #[.int .i64 d.kind, .int .i64 d.fn, .int .i64 d.win, .int .i64 d.off, .int .i64 d.k, .int .i64 d.num, .int .i64 d.den, .string d.name, .slice A1 d.ms.length n1, .slice A2 d.bys.length n2, .slice A3 ks.length n3] 38) (.cells #[.int .i64 2, .int .i64 3, .int .i64 0, .int .i64 0, .int .i64 0, .int .i64 0, .int .i64 0, .string ⟨#[]⟩, .slice none 0 0, .slice none 0 0, .slice (some ⟨V4.heap.size, 0, none⟩) 1 1] 38)))
  have HTq' := Box.mk (TreeAt.belo HTq.out (bel2 V4 (.cells #[.int .i64 d.kind, .int .i64 d.fn, .int .i64 d.win, .int .i64 d.off, .int .i64 d.k, .int .i64 d.num, .int .i64 d.den, .string d.name, .slice A1 d.ms.length n1, .slice A2 d.bys.length n2, .slice A3 ks.length n3] 38) (.cells #[.int .i64 2, .int .i64 3, .int .i64 0, .int .i64 0, .int .i64 0, .int .i64 0, .int .i64 0, .string ⟨#[]⟩, .slice none 0 0, .slice none 0 0, .slice (some ⟨V4.heap.size, 0, none⟩) 1 1] 38)))
  have HTd' := Box.mk (TreeAt.belo HTd.out (bel2 V4 (.cells #[.int .i64 d.kind, .int .i64 d.fn, .int .i64 d.win, .int .i64 d.off, .int .i64 d.k, .int .i64 d.num, .int .i64 d.den, .string d.name, .slice A1 d.ms.length n1, .slice A2 d.bys.length n2, .slice A3 ks.length n3] 38) (.cells #[.int .i64 2, .int .i64 3, .int .i64 0, .int .i64 0, .int .i64 0, .int .i64 0, .int .i64 0, .string ⟨#[]⟩, .slice none 0 0, .slice none 0 0, .slice (some ⟨V4.heap.size, 0, none⟩) 1 1] 38)))
  have HTp' := Box.mk (TreeAt.belo HTp.out (bel2 V4 (.cells #[.int .i64 d.kind, .int .i64 d.fn, .int .i64 d.win, .int .i64 d.off, .int .i64 d.k, .int .i64 d.num, .int .i64 d.den, .string d.name, .slice A1 d.ms.length n1, .slice A2 d.bys.length n2, .slice A3 ks.length n3] 38) (.cells #[.int .i64 2, .int .i64 3, .int .i64 0, .int .i64 0, .int .i64 0, .int .i64 0, .int .i64 0, .string ⟨#[]⟩, .slice none 0 0, .slice none 0 0, .slice (some ⟨V4.heap.size, 0, none⟩) 1 1] 38)))
  clear HQ6 HT HTq HTd HTp
  have HT := Box.mk HT'.out
  clear HT'
  have HTq := Box.mk HTq'.out
  clear HTq'
  have HTd := Box.mk HTd'.out
  clear HTd'
  have HTp := Box.mk HTp'.out
  clear HTp'
  generalize ((V4.alloc (.cells #[.int .i64 d.kind, .int .i64 d.fn, .int .i64 d.win, .int .i64 d.off, .int .i64 d.k, .int .i64 d.num, .int .i64 d.den, .string d.name, .slice A1 d.ms.length n1, .slice A2 d.bys.length n2, .slice A3 ks.length n3] 38)).alloc (.cells #[.int .i64 2, .int .i64 3, .int .i64 0, .int .i64 0, .int .i64 0, .int .i64 0, .int .i64 0, .string ⟨#[]⟩, .slice none 0 0, .slice none 0 0, .slice (some ⟨V4.heap.size, 0, none⟩) 1 1] 38)) = V5 at *
  generalize V4.heap.size = kc at *
  obtain ⟨ua, fa, HUA⟩ : ∃ u f, Box (ofM (dcs D) (qT 3 (.node d ks) (.node d ks)) = (u, f)) := ⟨_, _, ⟨rfl⟩⟩
  obtain ⟨ub1, fb, HUB⟩ : ∃ u f, Box (ofM (dcs D) (qT 1 (.node d ks) (.node d ks)) = (u, f)) := ⟨_, _, ⟨rfl⟩⟩
  obtain ⟨uc, fc, HUC⟩ : ∃ u f, Box (ofM (dcs D) (qT 2 (qT 3 (.node d ks) (.node d ks)) (.node d ks)) = (u, f)) := ⟨_, _, ⟨rfl⟩⟩
  obtain ⟨un, fn1, HUN⟩ : ∃ u f, Box (ofM (dcs D) (cT (.node d ks)) = (u, f)) := ⟨_, _, ⟨rfl⟩⟩
  obtain ⟨k0, k1, k2, k3, k4, k5, k6, k7, k8, k9, k10⟩ := blk11l (HQ7.out.vars ((kq + 1), 38, #[.int .i64 3, .int .i64 3, .int .i64 0, .int .i64 0, .int .i64 0, .int .i64 0, .int .i64 0, .string ⟨#[]⟩, .slice none 0 0, .slice none 0 0, .slice (some ⟨kq, 0, none⟩) 2 2]) (by simp))
  go_wp2_with fail
  refine (of_any (qT 3 (.node d ks) (.node d ks)) AnyP _ (nilV, nilV, .slice (some ⟨kq, 0, none⟩) 2 2) dv D HTq.out HQ7.out.decs (HW.out.below HQ7.out.below) (by omega)).mono ?_
  rintro e w4 ⟨rfl, hb5⟩
  rw [HUA.out]
  simp only
  have HQ8 := Box.mk (HQ7.out.next hb5)
  have HT' := Box.mk (TreeAt.belo HT.out hb5)
  have HTq' := Box.mk (TreeAt.belo HTq.out hb5)
  have HTd' := Box.mk (TreeAt.belo HTd.out hb5)
  have HTp' := Box.mk (TreeAt.belo HTp.out hb5)
  have HTc' := Box.mk (TreeAt.belo HTc.out hb5)
  clear HQ7 HT HTq HTd HTp HTc hb5
  have HT := Box.mk HT'.out
  clear HT'
  have HTq := Box.mk HTq'.out
  clear HTq'
  have HTd := Box.mk HTd'.out
  clear HTd'
  have HTp := Box.mk HTp'.out
  clear HTp'
  have HTc := Box.mk HTc'.out
  clear HTc'
  go_upto_region 9 with (fail)
  have HQ9 := Box.mk (HQ8.out.add 23 (uC ua))
  have HT' := Box.mk (TreeAt.belo HT.out (bel1 w4 (.cells (uC ua) 23)))
  have HTq' := Box.mk (TreeAt.belo HTq.out (bel1 w4 (.cells (uC ua) 23)))
  have HTd' := Box.mk (TreeAt.belo HTd.out (bel1 w4 (.cells (uC ua) 23)))
  have HTp' := Box.mk (TreeAt.belo HTp.out (bel1 w4 (.cells (uC ua) 23)))
  have HTc' := Box.mk (TreeAt.belo HTc.out (bel1 w4 (.cells (uC ua) 23)))
  clear HQ8 HT HTq HTd HTp HTc
  have HT := Box.mk HT'.out
  clear HT'
  have HTq := Box.mk HTq'.out
  clear HTq'
  have HTd := Box.mk HTd'.out
  clear HTd'
  have HTp := Box.mk HTp'.out
  clear HTp'
  have HTc := Box.mk HTc'.out
  clear HTc'
  generalize w4.alloc (.cells (uC ua) 23) = V6 at *
  generalize w4.heap.size = ab at *
  clear k0 k1 k2 k3 k4 k5 k6 k7 k8 k9 k10
  obtain ⟨k0, k1, k2, k3, k4, k5, k6, k7, k8, k9, k10⟩ := blk11l (HQ9.out.vars ((kd + 1), 38, #[.int .i64 3, .int .i64 1, .int .i64 0, .int .i64 0, .int .i64 0, .int .i64 0, .int .i64 0, .string ⟨#[]⟩, .slice none 0 0, .slice none 0 0, .slice (some ⟨kd, 0, none⟩) 2 2]) (by simp))
  go_wp2_with fail
  refine (of_any (qT 1 (.node d ks) (.node d ks)) AnyP _ (nilV, nilV, .slice (some ⟨kd, 0, none⟩) 2 2) dv D HTd.out HQ9.out.decs (HW.out.below HQ9.out.below) (by omega)).mono ?_
  rintro e w5 ⟨rfl, hb5⟩
  rw [HUB.out]
  simp only
  have HQ10 := Box.mk (HQ9.out.next hb5)
  have HT' := Box.mk (TreeAt.belo HT.out hb5)
  have HTq' := Box.mk (TreeAt.belo HTq.out hb5)
  have HTd' := Box.mk (TreeAt.belo HTd.out hb5)
  have HTp' := Box.mk (TreeAt.belo HTp.out hb5)
  have HTc' := Box.mk (TreeAt.belo HTc.out hb5)
  clear HQ9 HT HTq HTd HTp HTc hb5
  have HT := Box.mk HT'.out
  clear HT'
  have HTq := Box.mk HTq'.out
  clear HTq'
  have HTd := Box.mk HTd'.out
  clear HTd'
  have HTp := Box.mk HTp'.out
  clear HTp'
  have HTc := Box.mk HTc'.out
  clear HTc'
  go_upto_region 10 with (fail)
  have HQ11 := Box.mk (HQ10.out.add 23 (uC ub1))
  have HT' := Box.mk (TreeAt.belo HT.out (bel1 w5 (.cells (uC ub1) 23)))
  have HTq' := Box.mk (TreeAt.belo HTq.out (bel1 w5 (.cells (uC ub1) 23)))
  have HTd' := Box.mk (TreeAt.belo HTd.out (bel1 w5 (.cells (uC ub1) 23)))
  have HTp' := Box.mk (TreeAt.belo HTp.out (bel1 w5 (.cells (uC ub1) 23)))
  have HTc' := Box.mk (TreeAt.belo HTc.out (bel1 w5 (.cells (uC ub1) 23)))
  clear HQ10 HT HTq HTd HTp HTc
  have HT := Box.mk HT'.out
  clear HT'
  have HTq := Box.mk HTq'.out
  clear HTq'
  have HTd := Box.mk HTd'.out
  clear HTd'
  have HTp := Box.mk HTp'.out
  clear HTp'
  have HTc := Box.mk HTc'.out
  clear HTc'
  generalize w5.alloc (.cells (uC ub1) 23) = V7 at *
  generalize w5.heap.size = bb at *
  clear k0 k1 k2 k3 k4 k5 k6 k7 k8 k9 k10
  obtain ⟨k0, k1, k2, k3, k4, k5, k6, k7, k8, k9, k10⟩ := blk11l (HQ11.out.vars ((kp + 1), 38, #[.int .i64 3, .int .i64 2, .int .i64 0, .int .i64 0, .int .i64 0, .int .i64 0, .int .i64 0, .string ⟨#[]⟩, .slice none 0 0, .slice none 0 0, .slice (some ⟨kp, 0, none⟩) 2 2]) (by simp))
  go_wp2_with fail
  refine (of_any (qT 2 (qT 3 (.node d ks) (.node d ks)) (.node d ks)) AnyP _ (nilV, nilV, .slice (some ⟨kp, 0, none⟩) 2 2) dv D HTp.out HQ11.out.decs (HW.out.below HQ11.out.below) (by omega)).mono ?_
  rintro e w6 ⟨rfl, hb5⟩
  rw [HUC.out]
  simp only
  have HQ12 := Box.mk (HQ11.out.next hb5)
  have HT' := Box.mk (TreeAt.belo HT.out hb5)
  have HTq' := Box.mk (TreeAt.belo HTq.out hb5)
  have HTd' := Box.mk (TreeAt.belo HTd.out hb5)
  have HTp' := Box.mk (TreeAt.belo HTp.out hb5)
  have HTc' := Box.mk (TreeAt.belo HTc.out hb5)
  clear HQ11 HT HTq HTd HTp HTc hb5
  have HT := Box.mk HT'.out
  clear HT'
  have HTq := Box.mk HTq'.out
  clear HTq'
  have HTd := Box.mk HTd'.out
  clear HTd'
  have HTp := Box.mk HTp'.out
  clear HTp'
  have HTc := Box.mk HTc'.out
  clear HTc'
  go_upto_region 11 with (fail)
  have HQ13 := Box.mk (HQ12.out.add 23 (uC uc))
  have HT' := Box.mk (TreeAt.belo HT.out (bel1 w6 (.cells (uC uc) 23)))
  have HTq' := Box.mk (TreeAt.belo HTq.out (bel1 w6 (.cells (uC uc) 23)))
  have HTd' := Box.mk (TreeAt.belo HTd.out (bel1 w6 (.cells (uC uc) 23)))
  have HTp' := Box.mk (TreeAt.belo HTp.out (bel1 w6 (.cells (uC uc) 23)))
  have HTc' := Box.mk (TreeAt.belo HTc.out (bel1 w6 (.cells (uC uc) 23)))
  clear HQ12 HT HTq HTd HTp HTc
  have HT := Box.mk HT'.out
  clear HT'
  have HTq := Box.mk HTq'.out
  clear HTq'
  have HTd := Box.mk HTd'.out
  clear HTd'
  have HTp := Box.mk HTp'.out
  clear HTp'
  have HTc := Box.mk HTc'.out
  clear HTc'
  generalize w6.alloc (.cells (uC uc) 23) = V8 at *
  generalize w6.heap.size = cb at *
  clear k0 k1 k2 k3 k4 k5 k6 k7 k8 k9 k10
  obtain ⟨k0, k1, k2, k3, k4, k5, k6, k7, k8, k9, k10⟩ := blk11l (HQ13.out.vars ((kc + 1), 38, #[.int .i64 2, .int .i64 3, .int .i64 0, .int .i64 0, .int .i64 0, .int .i64 0, .int .i64 0, .string ⟨#[]⟩, .slice none 0 0, .slice none 0 0, .slice (some ⟨kc, 0, none⟩) 1 1]) (by simp))
  go_wp2_with fail
  refine (of_any (cT (.node d ks)) AnyP _ (nilV, nilV, .slice (some ⟨kc, 0, none⟩) 1 1) dv D HTc.out HQ13.out.decs (HW.out.below HQ13.out.below) (by omega)).mono ?_
  rintro e w7 ⟨rfl, hb5⟩
  rw [HUN.out]
  simp only
  have HQ14 := Box.mk (HQ13.out.next hb5)
  have HT' := Box.mk (TreeAt.belo HT.out hb5)
  have HTq' := Box.mk (TreeAt.belo HTq.out hb5)
  have HTd' := Box.mk (TreeAt.belo HTd.out hb5)
  have HTp' := Box.mk (TreeAt.belo HTp.out hb5)
  have HTc' := Box.mk (TreeAt.belo HTc.out hb5)
  clear HQ13 HT HTq HTd HTp HTc hb5
  have HT := Box.mk HT'.out
  clear HT'
  have HTq := Box.mk HTq'.out
  clear HTq'
  have HTd := Box.mk HTd'.out
  clear HTd'
  have HTp := Box.mk HTp'.out
  clear HTp'
  have HTc := Box.mk HTc'.out
  clear HTc'
  go_upto_region 12 with (fail)
  have HQ15 := Box.mk (HQ14.out.add 23 (uC un))
  have HT' := Box.mk (TreeAt.belo HT.out (bel1 w7 (.cells (uC un) 23)))
  have HTq' := Box.mk (TreeAt.belo HTq.out (bel1 w7 (.cells (uC un) 23)))
  have HTd' := Box.mk (TreeAt.belo HTd.out (bel1 w7 (.cells (uC un) 23)))
  have HTp' := Box.mk (TreeAt.belo HTp.out (bel1 w7 (.cells (uC un) 23)))
  have HTc' := Box.mk (TreeAt.belo HTc.out (bel1 w7 (.cells (uC un) 23)))
  clear HQ14 HT HTq HTd HTp HTc
  have HT := Box.mk HT'.out
  clear HT'
  have HTq := Box.mk HTq'.out
  clear HTq'
  have HTd := Box.mk HTd'.out
  clear HTd'
  have HTp := Box.mk HTp'.out
  clear HTp'
  have HTc := Box.mk HTc'.out
  clear HTc'
  generalize w7.alloc (.cells (uC un) 23) = V9 at *
  generalize w7.heap.size = nb at *
  clear k0 k1 k2 k3 k4 k5 k6 k7 k8 k9 k10
  obtain ⟨k0, k1, k2, k3, k4, k5, k6, k7, k8, k9, k10⟩ := blk11z (HQ15.out.vars (eb, 38, (ndC d (.slice A1 d.ms.length n1) (.slice A2 d.bys.length n2) (.slice A3 ks.length n3))) (by simp))
  go_wp2_with fail
  refine (by_any (.node d ks) AnyP _ (.slice A1 d.ms.length n1, .slice A2 d.bys.length n2, .slice A3 ks.length n3) HT.out (HW.out.below HQ15.out.below)).mono ?_
  rintro e w8 ⟨AB, nB, cB, rfl, -, -, hb5⟩
  have HF := Box.mk (HQ15.out.next hb5)
  clear hb5 HQ15 HT HTq HTd HTp HTc
  clear k0 k1 k2 k3 k4 k5 k6 k7 k8 k9 k10
  have HUU := Box.mk (HF.out.vars (ub, 23, uC u) (by simp))
  have HUa := Box.mk (HF.out.vars (ab, 23, uC ua) (by simp))
  have HUb := Box.mk (HF.out.vars (bb, 23, uC ub1) (by simp))
  have HUc := Box.mk (HF.out.vars (cb, 23, uC uc) (by simp))
  have HUn := Box.mk (HF.out.vars (nb, 23, uC un) (by simp))
  have HWF := Box.mk (HW.out.base.below HF.out.below)
  have HBF := Box.mk HF.out.below
  clear HF
  have HLAW := Box.mk (quot_law (dcs D) HGT.out.1 HGT.out.2.1 HGT.out.2.2)
  obtain ⟨qn, HN⟩ : ∃ z, Box (byN (.node d ks) = z) := ⟨_, ⟨rfl⟩⟩
  rw [HN.out]
  by_cases h0 : f = 0
  · subst h0
    obtain ⟨l1, l2, l3, l4⟩ := HLAW.out.2 u HU.out
    have e1 := HUA.out.symm.trans l1
    have e2 := HUB.out.symm.trans l2
    have e3 := HUC.out.symm.trans l3
    have e4 := HUN.out.symm.trans l4
    simp only [Prod.mk.injEq] at e1 e2 e3 e4
    obtain ⟨rfl, rfl⟩ := e1
    obtain ⟨rfl, rfl⟩ := e2
    obtain ⟨rfl, rfl⟩ := e3
    obtain ⟨rfl, e4b⟩ := e4
    have hqn : rlB (.node d ks) = qn := by rw [← HN.out]; exact (byN_good HGT.out.1 HGT.out.2.1 HGT.out.2.2).symm
    have z0 : ∀ W, (Op.equalIn 10000 23 (.agg #[.int .i64 0, .int .i64 0, .int .i64 0]) (.agg #[.int .i64 0, .int .i64 0, .int .i64 0])).run Tryd.prog W = .ok true W := fun W => (eq_units u0 u0 W).trans (by rw [decide_eq_true rfl])
    have zu : ∀ W, (Op.equalIn 10000 23 (uV uc) (uV uc)).run Tryd.prog W = .ok true W := fun W => (eq_units uc uc W).trans (by rw [decide_eq_true rfl])
    obtain ⟨p0, p1, p2⟩ := HUa.out.c3
    obtain ⟨b0, b1, b2⟩ := HUb.out.c3
    obtain ⟨c0, c1, c2⟩ := HUc.out.c3
    obtain ⟨n0, n1', n2'⟩ := HUn.out.c3
    obtain ⟨x0, x1, x2⟩ := HUU.out.c3
    simp only [u0] at p0 p1 p2 n0 n1' n2'
    cases qn
    · rw [hqn] at e4b
      simp only [Bool.false_eq_true, if_false] at e4b
      subst e4b
      clear hqn HLAW
      go_wp2_with fail
      refine (lives_true _ HWF.out).mono ?_
      rintro e w9 ⟨rfl, hb9⟩
      have HB9 := Box.mk (bthen HBF.out hb9 (Nat.le_refl _))
      clear hb9
      go_wp2_with fail
      go_ret
      exact ⟨rfl, HB9.out⟩
    · rw [hqn] at e4b
      simp only [if_true] at e4b
      subst e4b
      have hu := rl_zero (dcs D) HGT.out.1 hqn _ (HLAW.out.1 _ HU.out)
      subst hu
      simp only [u0] at x0 x1 x2
      clear hqn HLAW
      go_wp2_with fail
      refine (lives_true _ HWF.out).mono ?_
      rintro e w9 ⟨rfl, hb9⟩
      have HB9 := Box.mk (bthen HBF.out hb9 (Nat.le_refl _))
      clear hb9
      go_wp2_with fail
      go_ret
      exact ⟨rfl, HB9.out⟩
  · obtain ⟨l1, l2, l3, l4⟩ := quot_law_bad (dcs D) HGT.out.1 HGT.out.2.1 HGT.out.2.2 HU.out h0
    have e1 := HUA.out.symm.trans l1
    have e2 := HUB.out.symm.trans l2
    have e3 := HUC.out.symm.trans l3
    have e4 := HUN.out.symm.trans l4
    simp only [Prod.mk.injEq] at e1 e2 e3 e4
    obtain ⟨rfl, rfl⟩ := e1
    obtain ⟨rfl, rfl⟩ := e2
    obtain ⟨rfl, rfl⟩ := e3
    obtain ⟨rfl, rfl⟩ := e4
    have h1 : (fn1 != 0) = true := by simpa using h0
    have h2 : (fn1 == 0) = false := by simpa using h0
    go_wp2_with fail
    refine (lives_true _ HWF.out).mono ?_
    rintro e w9 ⟨rfl, hb9⟩
    have HB9 := Box.mk (bthen HBF.out hb9 (Nat.le_refl _))
    clear hb9
    go_wp2_with fail
    go_ret
    exact ⟨rfl, HB9.out⟩

end
end Go.Proofs.YtgomgoacponbkaaDoor
