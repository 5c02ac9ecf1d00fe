/- Contracts, packed: Su Yn. -/
import Derived.Test.YtgomgoacponbkaaDoorPk30
import Derived.OpenShut
import Derived.DataShut
set_option linter.unusedVariables false
set_option linter.unusedSimpArgs false
namespace Go.Proofs.YtgomgoacponbkaaDoor
section
open Go.RowKit FracM

set_option maxHeartbeats 4000000 in
set_option maxRecDepth 100000 in
theorem typesBy_walk (AL : Option Addr) (nl cl : Nat) (ll : List Int) (at' wh v : Int) (t : Tree) (s : Sl) (w : World) (hw : WordsG w) (h1 : Ints w w.heap.size (.slice AL nl cl) ll)
    (a1 : -9223372036854775808 ≤ at') (a2 : at' ≤ 9223372036854775807) (b1 : -9223372036854775808 ≤ wh) (b2 : wh ≤ 9223372036854775807) (c1 : -9223372036854775808 ≤ v) (c2 : v ≤ 9223372036854775807) (hT : TreeAt w AnyP t s) :
    Calls Tryd.prog 7 #[.slice AL nl cl, .int .i64 at', .int .i64 wh, .int .i64 v, .agg (ndC t.d s.1 s.2.1 s.2.2)] w fun e w' => e = .returned (.bool true) ∧ Below w.heap.size w w' := by
  obtain ⟨d, ks⟩ := t
  obtain ⟨mv, bv, kv⟩ := s
  obtain ⟨A1, n1, rfl, -⟩ := hT.nod.ms.form
  obtain ⟨A2, n2, rfl, -⟩ := hT.nod.bys.form
  obtain ⟨A3, n3, rfl, -⟩ := hT.nod.kform
  have HW := Box.mk hw
  have HI := Box.mk (And.intro (And.intro a1 a2 : I64 at') (And.intro (And.intro b1 b2 : I64 wh) (And.intro c1 c2 : I64 v)))
  have HT := Box.mk hT.low
  have HB0 := Box.mk (bel1 w (.cells (ndC d (.slice A1 d.ms.length n1) (.slice A2 d.bys.length n2) (.slice A3 ks.length n3)) 38))
  have HL := Box.mk (IntsP.belo h1.toP (bel1 w (.cells (ndC d (.slice A1 d.ms.length n1) (.slice A2 d.bys.length n2) (.slice A3 ks.length n3)) 38)))
  have HBT := Box.mk (Blk.new w (ndC d (.slice A1 d.ms.length n1) (.slice A2 d.bys.length n2) (.slice A3 ks.length n3)) 38)
  clear hw h1 hT a1 a2 b1 b2 c1 c2
  simp only [Tree.d]
  go_enter Tryd.func7, Tryd.ntmps7
  go_upto_region 1 with (fail)
  have hsz : (w.alloc (.cells (ndC d (.slice A1 d.ms.length n1) (.slice A2 d.bys.length n2) (.slice A3 ks.length n3)) 38)).heap.size = w.heap.size + 1 := by simp
  generalize w.alloc (.cells (ndC d (.slice A1 d.ms.length n1) (.slice A2 d.bys.length n2) (.slice A3 ks.length n3)) 38) = W at HB0 HL HBT hsz ⊢
  go_wp2_with fail
  refine (query_any _ ll _ HL.out).mono ?_
  rintro e0 w1 ⟨t1, s1, rfl, htree, hgt, hdp, hnd, hb1⟩
  obtain ⟨e, es⟩ := t1
  obtain ⟨q1, q2, q3⟩ := s1
  obtain ⟨B1, m1, rfl, -⟩ := htree.form.1
  obtain ⟨B2, m2, rfl, -⟩ := htree.form.2.1
  obtain ⟨B3, m3, rfl, -⟩ := htree.form.2.2
  simp only [Tree.d]
  obtain ⟨Lf, HTG⟩ : ∃ Lf : Nat → Nat, Box (TreeG w1 (fun b z => W.heap.size ≤ b ∧ b < w1.heap.size ∧ z = Lf b) (.node e es) (.slice B1 e.ms.length m1, .slice B2 e.bys.length m2, .slice B3 es.length m3)) := by
    obtain ⟨L, h⟩ := htree
    exact ⟨L, ⟨h.mono fun b z hb hp => ⟨hp.1, hb, hp.2⟩⟩⟩
  have HG := Box.mk (And.intro hgt (And.intro hdp hnd))
  have HB1 := Box.mk hb1
  clear htree hgt hdp hnd hb1 HL
  have hs1 := HB1.out.size
  go_upto_region 2 with (fail)
  have HBE : Box (Blk (w1.alloc (.cells (ndC e (.slice B1 e.ms.length m1) (.slice B2 e.bys.length m2) (.slice B3 es.length m3)) 38)) w1.heap.size 38 (ndC e (.slice B1 e.ms.length m1) (.slice B2 e.bys.length m2) (.slice B3 es.length m3))) := ⟨Blk.new _ _ _⟩
  have HTG2 := Box.mk (HTG.out.belo (bel1 w1 (.cells (ndC e (.slice B1 e.ms.length m1) (.slice B2 e.bys.length m2) (.slice B3 es.length m3)) 38)))
  have HB2 : Box (Below (w.heap.size + 1) W (w1.alloc (.cells (ndC e (.slice B1 e.ms.length m1) (.slice B2 e.bys.length m2) (.slice B3 es.length m3)) 38))) := ⟨hsz ▸ bthen HB1.out (bel1 _ _) (Nat.le_refl _)⟩
  clear HTG HB1
  have hs2 : (w1.alloc (.cells (ndC e (.slice B1 e.ms.length m1) (.slice B2 e.bys.length m2) (.slice B3 es.length m3)) 38)).heap.size = w1.heap.size + 1 := by simp
  generalize w1.alloc (.cells (ndC e (.slice B1 e.ms.length m1) (.slice B2 e.bys.length m2) (.slice B3 es.length m3)) 38) = W2 at HBE HTG2 HB2 hs2 ⊢
  obtain ⟨k0, k1, k2, k3, k4, k5, k6, k7, k8, k9, k10⟩ := blk11z HBE.out
  have HW2 : Box (WordsG W2) := ⟨HW.out.below (HB0.out.trans (HB2.out.mono (by omega)))⟩
  go_wp2_with fail
  refine (lrows_any (.node e es) _ (.slice B1 e.ms.length m1, .slice B2 e.bys.length m2, .slice B3 es.length m3) (HTG2.out.tree.mono fun _ _ _ _ => trivial) HW2.out (by have := HG.out.2.2; omega) (by have := HG.out.2.1; omega)).mono ?_
  rintro e1 w3 ⟨rfl, hb3⟩
  have HBE3 := Box.mk (HBE.out.below hb3)
  have HTG3 := Box.mk (HTG2.out.belo hb3)
  have HB3 : Box (Below (w.heap.size + 1) W w3) := ⟨bthen HB2.out hb3 (by omega)⟩
  have hs3 := hb3.size
  clear hb3 HBE HTG2 HB2 HW2 k0 k1 k2 k3 k4 k5 k6 k7 k8 k9 k10
  obtain ⟨k0, k1, k2, k3, k4, k5, k6, k7, k8, k9, k10⟩ := blk11z HBE3.out
  go_wp2_with fail
  refine (spoilt_any changed_ok ns3 5 wh v HI.out.2.1 HI.out.2.2 (.node e es) W.heap.size w1.heap.size Lf at' _ (.slice B1 e.ms.length m1, .slice B2 e.bys.length m2, .slice B3 es.length m3) HTG3.out HG.out.1 (by omega) HI.out.1).mono ?_
  rintro e2 w4 ⟨t5, s5, rfl, ht5, hd5, hn5, hsp⟩
  obtain ⟨f, fs⟩ := t5
  obtain ⟨q1, q2, q3⟩ := s5
  obtain ⟨C1, p1, rfl, -⟩ := ht5.nod.ms.form
  obtain ⟨C2, p2, rfl, -⟩ := ht5.nod.bys.form
  obtain ⟨C3, p3, rfl, -⟩ := ht5.nod.kform
  simp only [Tree.d]
  have HB4 : Box (Below (w.heap.size + 1) W w4) := ⟨HB3.out.trans (hsz ▸ hsp.below (by omega))⟩
  have HT5 := Box.mk (And.intro (ht5.mono (Q := AnyP) fun _ _ _ _ => trivial) (And.intro hd5 hn5))
  have hs4 := hsp.size
  clear ht5 hd5 hn5 hsp HBE3 HTG3 HB3 k0 k1 k2 k3 k4 k5 k6 k7 k8 k9 k10
  have HW4 : Box (WordsG w4) := ⟨HW.out.below (HB0.out.trans (HB4.out.mono (by omega)))⟩
  go_wp2_with fail
  refine (lrows_any (.node f fs) _ (.slice C1 f.ms.length p1, .slice C2 f.bys.length p2, .slice C3 fs.length p3) HT5.out.1 HW4.out (by have := HG.out.2.2; have := HT5.out.2.2; omega) (by have := HG.out.2.1; have := HT5.out.2.1; omega)).mono ?_
  rintro e3 w5 ⟨rfl, hb5⟩
  have HB5 : Box (Below (w.heap.size + 1) W w5) := ⟨bthen HB4.out hb5 (by omega)⟩
  have hs5 := hb5.size
  clear hb5 HB4 HW4 HT5
  have HBT5 : Box (Blk w5 w.heap.size 38 (ndC d (.slice A1 d.ms.length n1) (.slice A2 d.bys.length n2) (.slice A3 ks.length n3))) := ⟨(HB5.out.block _ (by omega)).trans HBT.out⟩
  have HBA : Box (Below w.heap.size w w5) := ⟨HB0.out.trans (HB5.out.mono (by omega))⟩
  have HT6 : Box (TreeAt w5 AnyP (.node d ks) (.slice A1 d.ms.length n1, .slice A2 d.bys.length n2, .slice A3 ks.length n3)) := ⟨(HT.out.keep (Agree.of_below HBA.out)).mono fun _ _ _ _ => trivial⟩
  obtain ⟨k0, k1, k2, k3, k4, k5, k6, k7, k8, k9, k10⟩ := blk11z HBT5.out
  go_wp2_with fail
  refine (cut_any (.node d ks) AnyP _ (.slice A1 d.ms.length n1, .slice A2 d.bys.length n2, .slice A3 ks.length n3) 3 4 HT6.out (by omega) (by omega) (by omega)).mono ?_
  rintro e4 w6 ⟨t7, s7, rfl, ht7, hd7, hn7, hb7⟩
  obtain ⟨f2, fs2⟩ := t7
  obtain ⟨q1, q2, q3⟩ := s7
  obtain ⟨D1, r1, rfl, -⟩ := ht7.nod.ms.form
  obtain ⟨D2, r2, rfl, -⟩ := ht7.nod.bys.form
  obtain ⟨D3, r3, rfl, -⟩ := ht7.nod.kform
  simp only [Tree.d]
  have HB7 : Box (Below w.heap.size w w6) := ⟨bthen HBA.out hb7 (Nat.le_refl _)⟩
  have HT7 := Box.mk (And.intro (ht7.mono (Q := AnyP) fun _ _ _ _ => trivial) (And.intro hd7 hn7))
  clear ht7 hd7 hn7 hb7 HT6 HBA HBT5 HB5 k0 k1 k2 k3 k4 k5 k6 k7 k8 k9 k10
  go_wp2_with fail
  refine (lrows_any (.node f2 fs2) _ (.slice D1 f2.ms.length r1, .slice D2 f2.bys.length r2, .slice D3 fs2.length r3) HT7.out.1 (HW.out.below HB7.out) (by have := HT7.out.2.2; omega) (by have := HT7.out.2.1; omega)).mono ?_
  rintro e5 w7 ⟨rfl, hb8⟩
  have HB8 : Box (Below w.heap.size w w7) := ⟨bthen HB7.out hb8 (Nat.le_refl _)⟩
  clear hb8 HB7 HT7
  go_wp2_with fail
  refine (lives_true _ (HW.out.below HB8.out).base).mono ?_
  rintro e6 w8 ⟨rfl, hb9⟩
  have HB9 : Box (Below w.heap.size w w8) := ⟨bthen HB8.out hb9 (Nat.le_refl _)⟩
  clear hb9 HB8
  go_wp2_with fail
  go_ret
  exact ⟨rfl, HB9.out⟩
end
section
open Go.ChangeShapes Go.WideShapes Go.ChangeAt Go.RowKit
section
variable {H : Type} {enc : TypeId × Value → H} {P : Program} {w : World} {base : Nat} {spare : Nat → Bool} {held : Bool}
theorem open_arr {r : Reach} {b0 n : Nat} {t e : TypeId} {k : IntKind} {v : Value} {d : DataW H} {ps : List MemPlace} (ht : P.underlying t = some (.array n e)) (he : P.underlying e = some (.int k)) (hct : P.cellsOf t = n) (hce : P.cellsOf e = 1)
    (hval : Value.okWide P w r b0 t v) (hd : DataW.Trod enc P w base spare held t v d ps) :
    ∃ zs : List Int, zs.length = n ∧ v = .agg (zs.map fun z => Value.int k z).toArray ∧ d = .agg (zs.map fun z => .lit (.int k z)) ∧ ps = [] ∧ ∀ z ∈ zs, (Lit.int k z).wf = true := by
  unfold Value.okWide at hval
  rw [ht] at hval
  obtain ⟨cs, rfl, hsz, -⟩ := hval
  obtain ⟨fuel, hf⟩ := hd
  obtain ⟨xs, m, rfl, hx, hlen, hxl, hi⟩ := DataW.trod_array ht hf
  simp only [Value.cells, hce, hct, Nat.mul_one] at hlen hi hsz hx
  simp only [Prod.mk.injEq] at hx
  obtain ⟨rfl, rfl⟩ := hx
  have key : ∀ (l : List Value) (ys : List (DataW H × List MemPlace)), l.length = ys.length → (∀ i, i < l.length → DataW.trod enc P w base spare held m e ((l.drop i).take 1) = ys[i]?) →
      ∃ zs : List Int, zs.length = l.length ∧ l = zs.map (fun z => Value.int k z) ∧ ys.map (·.1) = zs.map (fun z => .lit (.int k z)) ∧ ys.flatMap (·.2) = [] ∧ ∀ z ∈ zs, (Lit.int k z).wf = true := by
    intro l
    induction l with
    | nil => intro ys hl _; cases ys with
      | nil => exact ⟨[], rfl, rfl, rfl, rfl, by simp⟩
      | cons y ys => simp at hl
    | cons c l ih => intro ys hl h; cases ys with
      | nil => simp at hl
      | cons y ys =>
        have h0 := h 0 (by simp)
        simp at h0
        obtain ⟨z, hc, hy, hw⟩ := DataW.trod_int he h0
        simp at hc
        obtain ⟨zs, k1, k2, k3, k4, k5⟩ := ih ys (by simpa using hl) (fun i hi => by simpa using h (i + 1) (by simpa using hi))
        refine ⟨z :: zs, by simp [k1], by simp [hc, k2], by simp [hy, k3], by simp [hy, k4], ?_⟩
        intro z' hz'
        rcases List.mem_cons.1 hz' with rfl | hz'
        · exact hw
        · exact k5 z' hz'
  obtain ⟨zs, k1, k2, k3, k4, k5⟩ := key cs.toList xs (by rw [hlen, hxl]) (fun i h => hi i (by omega))
  exact ⟨zs, by rw [k1, hlen], by rw [← k2], by rw [k3], k4, k5⟩

theorem shut_arr {n : Nat} {t e : TypeId} {k : IntKind} {zs : List Int} (ht : P.underlying t = some (.array n e)) (he : P.underlying e = some (.int k)) (hct : P.cellsOf t = n) (hce : P.cellsOf e = 1) (hl : zs.length = n)
    (hw : ∀ z ∈ zs, (Lit.int k z).wf = true) : DataW.Trod enc P w base spare held t (.agg (zs.map fun z => Value.int k z).toArray) (.agg (zs.map fun z => .lit (.int k z))) [] := by
  refine ⟨2, ?_⟩
  unfold DataW.trod
  rw [ht]
  simp only [Value.cells, hce, hct, Nat.mul_one, List.length_map, hl, if_true]
  have : ((List.range n).mapM fun i => DataW.trod enc P w base spare held 1 e (((zs.map fun z => Value.int k z).drop i).take 1)) = some (zs.map fun z => (DataW.lit (.int k z), ([] : List MemPlace))) := by
    refine mapM_some_of_get _ _ (by simp [hl]) (fun i x hx => ?_)
    obtain ⟨hi, rfl⟩ : i < n ∧ i = x := by
      obtain ⟨h1, h2⟩ := List.getElem?_eq_some_iff.1 hx
      simp at h1 h2
      exact ⟨h1, h2⟩
    have hz : i < zs.length := by omega
    have hg : ((zs.map fun z => Value.int k z).drop i).take 1 = [Value.int k zs[i]] := by
      rw [List.drop_eq_getElem_cons (by simpa using hz)]; simp
    rw [hg]
    simp [DataW.trod, he, hw zs[i] (List.getElem_mem hz), hz]
  simp [this]
theorem list3 {α : Type} {l : List α} (h : l.length = 3) : ∃ z0 z1 z2, l = [z0, z1, z2] := by
  match l, h with
  | [z0, z1, z2], _ => exact ⟨z0, z1, z2, rfl⟩
theorem open_arr3 {r : Reach} {b0 : Nat} {t e : TypeId} {k : IntKind} {v : Value} {d : DataW H} {ps : List MemPlace} (ht : P.underlying t = some (.array 3 e)) (he : P.underlying e = some (.int k)) (hct : P.cellsOf t = 3) (hce : P.cellsOf e = 1)
    (hval : Value.okWide P w r b0 t v) (hd : DataW.Trod enc P w base spare held t v d ps) : ∃ z0 z1 z2 : Int, v = .agg #[.int k z0, .int k z1, .int k z2] ∧ d = .agg [.lit (.int k z0), .lit (.int k z1), .lit (.int k z2)] ∧ ps = [] ∧ (Lit.int k z0).wf = true ∧ (Lit.int k z1).wf = true ∧ (Lit.int k z2).wf = true := by
  obtain ⟨zs, hl, rfl, rfl, rfl, hw⟩ := open_arr ht he hct hce hval hd
  obtain ⟨z0, z1, z2, rfl⟩ := list3 hl
  exact ⟨z0, z1, z2, rfl, rfl, rfl, hw z0 (by simp), hw z1 (by simp), hw z2 (by simp)⟩
theorem shut_arr3 {t e : TypeId} {k : IntKind} {z0 z1 z2 : Int} (ht : P.underlying t = some (.array 3 e)) (he : P.underlying e = some (.int k)) (hct : P.cellsOf t = 3) (hce : P.cellsOf e = 1) (w0 : (Lit.int k z0).wf = true) (w1 : (Lit.int k z1).wf = true) (w2 : (Lit.int k z2).wf = true) :
    DataW.Trod enc P w base spare held t (.agg #[.int k z0, .int k z1, .int k z2]) (.agg [.lit (.int k z0), .lit (.int k z1), .lit (.int k z2)]) [] := shut_arr (zs := [z0, z1, z2]) ht he hct hce rfl (by intro z hz; simp only [List.mem_cons, List.not_mem_nil, or_false] at hz; rcases hz with rfl | rfl | rfl <;> assumption)
end
end
end Go.Proofs.YtgomgoacponbkaaDoor
