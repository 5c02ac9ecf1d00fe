/- Contracts, packed: Aa Ah. -/
import Derived.Test.YtipafbppaaflcaaDoorPl47
set_option linter.unusedVariables false
set_option linter.unusedSimpArgs false
namespace Go.Proofs.YtipafbppaaflcaaDoor
section
open Go.RowKit FracM
theorem Ints.toP {w : World} {v : Value} {l : List Int} (h : Ints w w.heap.size v l) : IntsP w v l := by
 obtain ⟨⟨h1, A, c, hv, hn, hc, hx⟩, hz⟩ := h
 refine ⟨⟨h1, A, c, hv, hn, hc, fun h0 => ?_⟩, hz⟩
 obtain ⟨b, off, hA, hf, hcl⟩ := hx h0
 exact ⟨b, off, hA, hf.1, hf.1, hcl⟩
/-- a variable that holds a tree -/
structure TB (W : World) (g : Nat) (t : Tree) (s : Sl) : Prop where
 box : Blk W g 29 (ndC t.d s.1 s.2.1 s.2.2)
 tr : TreeAt W AnyP t s
theorem TB.next {W W' : World} {g : Nat} {t : Tree} {s : Sl} (h : TB W g t s) (hb : Below W.heap.size W W') : TB W' g t s := ⟨h.box.below hb, (h.tr.low.keep (Agree.of_below hb)).mono fun _ _ _ _ => trivial⟩
theorem TB.new {W : World} {t : Tree} {s : Sl} (h : TreeAt W AnyP t s) : TB (W.alloc (.cells (ndC t.d s.1 s.2.1 s.2.2) 29)) W.heap.size t s := ⟨Blk.new _ _ _, (h.low.keep (Agree.of_below (bel1 _ _))).mono fun _ _ _ _ => trivial⟩
/-- a variable that holds a tree that was handed in -/
structure TA (w W : World) (g : Nat) (t : Tree) (s : Sl) : Prop where
 box : Blk W g 29 (ndC t.d s.1 s.2.1 s.2.2)
 tr : TreeAt W (fun b _ => b < w.heap.size) t s
theorem TA.next {w W W' : World} {g : Nat} {t : Tree} {s : Sl} (h : TA w W g t s) (hb : Below W.heap.size W W') : TA w W' g t s := ⟨h.box.below hb, h.tr.belo hb⟩
set_option maxHeartbeats 8000000 in
set_option maxRecDepth 100000 in
theorem planCompile_walk (AL : Option Addr) (nl cl : Nat) (ll : List Int) (at' wh v : Int) (t : Tree) (s : Sl) (w : World) (hw : WordsV w) (h1 : Ints w w.heap.size (.slice AL nl cl) ll)
  (a1 : -9223372036854775808 ≤ at') (a2 : at' ≤ 9223372036854775807) (b1 : -9223372036854775808 ≤ wh) (b2 : wh ≤ 9223372036854775807) (c1 : -9223372036854775808 ≤ v) (c2 : v ≤ 9223372036854775807) (hT : TreeAt w AnyP t s) :
  Calls Tryd.prog 3 #[.slice AL nl cl, .int .i64 at', .int .i64 wh, .int .i64 v, .agg (ndC t.d s.1 s.2.1 s.2.2)] w fun e w' => e = .returned (.bool true) ∧ Below w.heap.size w w' := by
 obtain ⟨rd, rs⟩ := t
 obtain ⟨mv, bv, kv⟩ := s
 obtain ⟨D1, n1, rfl, -⟩ := hT.nod.ms.form
 obtain ⟨D2, n2, rfl, -⟩ := hT.nod.bys.form
 obtain ⟨D3, n3, rfl, -⟩ := hT.nod.kform
 have HW := Box.mk hw
 have HI := Box.mk (And.intro (And.intro a1 a2 : I64 at') (And.intro (And.intro b1 b2 : I64 wh) (And.intro c1 c2 : I64 v)))
 have HTB : Box (TA w (w.alloc (.cells (ndC rd (.slice D1 rd.ms.length n1) (.slice D2 rd.bys.length n2) (.slice D3 rs.length n3)) 29)) w.heap.size (.node rd rs) (.slice D1 rd.ms.length n1, .slice D2 rd.bys.length n2, .slice D3 rs.length n3)) := ⟨Blk.new _ _ _, hT.low.belo (bel1 _ _)⟩
 have HB0 := Box.mk (bel1 w (.cells (ndC rd (.slice D1 rd.ms.length n1) (.slice D2 rd.bys.length n2) (.slice D3 rs.length n3)) 29))
 have HL := Box.mk (IntsP.belo h1.toP (bel1 w (.cells (ndC rd (.slice D1 rd.ms.length n1) (.slice D2 rd.bys.length n2) (.slice D3 rs.length n3)) 29)))
 have hz0 : w.heap.size < (w.alloc (.cells (ndC rd (.slice D1 rd.ms.length n1) (.slice D2 rd.bys.length n2) (.slice D3 rs.length n3)) 29)).heap.size := by simp
 clear hw h1 hT a1 a2 b1 b2 c1 c2
 simp only [Tree.d]
 go_enter Tryd.func3, Tryd.ntmps3
 go_upto_region 1 with (fail)
 generalize w.alloc (.cells (ndC rd (.slice D1 rd.ms.length n1) (.slice D2 rd.bys.length n2) (.slice D3 rs.length n3)) 29) = W1 at HB0 HL HTB hz0 ⊢
 go_wp2_with fail
 refine (expr0_any _ ll _ HL.out).mono ?_
 rintro e0 w2 ⟨t1, s1, rfl, htree, hgt, hdp, hnd, hb1⟩
 obtain ⟨xd, xs⟩ := t1
 obtain ⟨q1, q2, q3⟩ := s1
 obtain ⟨B1, b1, rfl, -⟩ := htree.form.1
 obtain ⟨B2, b2, rfl, -⟩ := htree.form.2.1
 obtain ⟨B3, b3, rfl, -⟩ := htree.form.2.2
 simp only [Tree.d]
 obtain ⟨Lf, HTG⟩ : ∃ Lf : Nat → Nat, Box (TreeG w2 (fun b z => W1.heap.size ≤ b ∧ b < w2.heap.size ∧ z = Lf b) (.node xd xs) (.slice B1 xd.ms.length b1, .slice B2 xd.bys.length b2, .slice B3 xs.length b3)) := by
  obtain ⟨L, h⟩ := htree
  exact ⟨L, ⟨h.mono fun b z hb hp => ⟨hp.1, hb, hp.2⟩⟩⟩
 have HG := Box.mk (And.intro hgt (And.intro hdp hnd))
 have HTG2 := Box.mk (HTG.out.belo (bel1 w2 (.cells (ndC xd (.slice B1 xd.ms.length b1) (.slice B2 xd.bys.length b2) (.slice B3 xs.length b3)) 29)))
 have HS2 : Box (Below w.heap.size w (w2.alloc (.cells (ndC xd (.slice B1 xd.ms.length b1) (.slice B2 xd.bys.length b2) (.slice B3 xs.length b3)) 29)) ∧ Blk (w2.alloc (.cells (ndC xd (.slice B1 xd.ms.length b1) (.slice B2 xd.bys.length b2) (.slice B3 xs.length b3)) 29)) w2.heap.size 29 (ndC xd (.slice B1 xd.ms.length b1) (.slice B2 xd.bys.length b2) (.slice B3 xs.length b3)) ∧ TA w (w2.alloc (.cells (ndC xd (.slice B1 xd.ms.length b1) (.slice B2 xd.bys.length b2) (.slice B3 xs.length b3)) 29)) w.heap.size (.node rd rs) (.slice D1 rd.ms.length n1, .slice D2 rd.bys.length n2, .slice D3 rs.length n3)) := ⟨bthen (bthen HB0.out hb1 (Nat.le_refl _)) (bel1 _ _) (Nat.le_refl _), Blk.new _ _ _, (HTB.out.next hb1).next (bel1 _ _)⟩
 have hz1 := hb1.size
 clear htree hgt hdp hnd hb1 HTG HL HB0 HTB
 go_upto_region 2 with (fail)
 have hz2 : w2.heap.size < (w2.alloc (.cells (ndC xd (.slice B1 xd.ms.length b1) (.slice B2 xd.bys.length b2) (.slice B3 xs.length b3)) 29)).heap.size := by simp
 obtain ⟨g2, hg2⟩ : ∃ g, w2.heap.size = g := ⟨_, rfl⟩
 rw [hg2] at HTG2 HS2 hz1 hz2 ⊢
 clear hg2
 generalize w2.alloc (.cells (ndC xd (.slice B1 xd.ms.length b1) (.slice B2 xd.bys.length b2) (.slice B3 xs.length b3)) 29) = W2 at HTG2 HS2 hz2 ⊢
 obtain ⟨k0, k1, k2, k3, k4, k5, k6, k7, k8, k9, k10⟩ := blk11z HS2.out.2.1
 have CX : Box (Calls Tryd.prog 9 #[.agg (ndC xd (.slice B1 xd.ms.length b1) (.slice B2 xd.bys.length b2) (.slice B3 xs.length b3))] W2 (RetB (.bool true) W2)) := ⟨compiles_any (.node xd xs) _ W2 (.slice B1 xd.ms.length b1, .slice B2 xd.bys.length b2, .slice B3 xs.length b3) HTG2.out.tree (by have := HG.out.2; omega) (by have := HG.out.2; omega) (HW.out.below HS2.out.1)⟩
 go_wp2_with fail
 refine (CX.out).mono ?_
 rintro e3 w3 ⟨rfl, hb3⟩
 have HTG3 := Box.mk (HTG2.out.belo hb3)
 have HS3 : Box (Below w.heap.size w w3 ∧ Blk w3 g2 29 (ndC xd (.slice B1 xd.ms.length b1) (.slice B2 xd.bys.length b2) (.slice B3 xs.length b3)) ∧ TA w w3 w.heap.size (.node rd rs) (.slice D1 rd.ms.length n1, .slice D2 rd.bys.length n2, .slice D3 rs.length n3)) := ⟨bthen HS2.out.1 hb3 (Nat.le_refl _), HS2.out.2.1.below hb3, HS2.out.2.2.next hb3⟩
 have hz3 := hb3.size
 clear k0 k1 k2 k3 k4 k5 k6 k7 k8 k9 k10
 clear hb3 CX HS2 HTG2
 obtain ⟨k0, k1, k2, k3, k4, k5, k6, k7, k8, k9, k10⟩ := blk11z HS3.out.2.1
 go_wp2_with fail
 refine (spoilt_any changed_ok ns6 4096 wh v HI.out.2.1 HI.out.2.2 (.node xd xs) W1.heap.size g2 Lf at' _ (.slice B1 xd.ms.length b1, .slice B2 xd.bys.length b2, .slice B3 xs.length b3) HTG3.out HG.out.1 (by omega) HI.out.1).mono ?_
 rintro e4 w4 ⟨t5, s5, rfl, ht5, hd5, hn5, hsp⟩
 obtain ⟨yd, ys⟩ := t5
 obtain ⟨q1, q2, q3⟩ := s5
 obtain ⟨C1, c1, rfl, -⟩ := ht5.nod.ms.form
 obtain ⟨C2, c2, rfl, -⟩ := ht5.nod.bys.form
 obtain ⟨C3, c3, rfl, -⟩ := ht5.nod.kform
 simp only [Tree.d]
 have hbel : Below W1.heap.size w3 w4 := hsp.below (by omega)
 have HS4 : Box (Below w.heap.size w w4 ∧ TA w w4 w.heap.size (.node rd rs) (.slice D1 rd.ms.length n1, .slice D2 rd.bys.length n2, .slice D3 rs.length n3) ∧ TreeAt w4 AnyP (.node yd ys) (.slice C1 yd.ms.length c1, .slice C2 yd.bys.length c2, .slice C3 ys.length c3) ∧ nds (.node yd ys) ≤ 1000000 ∧ dep (.node yd ys) ≤ 1000000) :=
  ⟨HS3.out.1.trans (hbel.mono (by omega)), ⟨(hbel.block _ (by omega)).trans HS3.out.2.2.box, HS3.out.2.2.tr.keep (Agree.of_lt hbel fun b _ h => by omega)⟩, ht5.mono fun _ _ _ _ => trivial, by have := HG.out.2; omega, by have := HG.out.2; omega⟩
 clear k0 k1 k2 k3 k4 k5 k6 k7 k8 k9 k10
 clear ht5 hd5 hn5 hsp HTG3 HS3 hbel hz3 hz2 hz1
 have CY : Box (Calls Tryd.prog 9 #[.agg (ndC yd (.slice C1 yd.ms.length c1) (.slice C2 yd.bys.length c2) (.slice C3 ys.length c3))] w4 (RetB (.bool true) w4)) := ⟨compiles_any (.node yd ys) _ w4 (.slice C1 yd.ms.length c1, .slice C2 yd.bys.length c2, .slice C3 ys.length c3) HS4.out.2.2.1 HS4.out.2.2.2.1 HS4.out.2.2.2.2 (HW.out.below HS4.out.1)⟩
 go_wp2_with fail
 refine (CY.out).mono ?_
 rintro e5 w5 ⟨rfl, hb5⟩
 have HS5 : Box (Below w.heap.size w w5 ∧ TA w w5 w.heap.size (.node rd rs) (.slice D1 rd.ms.length n1, .slice D2 rd.bys.length n2, .slice D3 rs.length n3)) := ⟨bthen HS4.out.1 hb5 (Nat.le_refl _), HS4.out.2.1.next hb5⟩
 clear hb5 CY HS4
 obtain ⟨k0, k1, k2, k3, k4, k5, k6, k7, k8, k9, k10⟩ := blk11z HS5.out.2.box
 go_wp2_with fail
 refine (cut_any (.node rd rs) _ _ (.slice D1 rd.ms.length n1, .slice D2 rd.bys.length n2, .slice D3 rs.length n3) 3 4 HS5.out.2.tr (by omega) (by omega) (by omega)).mono ?_
 rintro e6 w6 ⟨t1, s1, rfl, htc, hdc, hnc, hbc⟩
 obtain ⟨zd, zs⟩ := t1
 obtain ⟨q1, q2, q3⟩ := s1
 obtain ⟨E1, q1, rfl, -⟩ := htc.nod.ms.form
 obtain ⟨E2, q2, rfl, -⟩ := htc.nod.bys.form
 obtain ⟨E3, q3, rfl, -⟩ := htc.nod.kform
 simp only [Tree.d]
 have HS6 : Box (Below w.heap.size w w6 ∧ TreeAt w6 AnyP (.node zd zs) (.slice E1 zd.ms.length q1, .slice E2 zd.bys.length q2, .slice E3 zs.length q3) ∧ nds (.node zd zs) ≤ 1000000 ∧ dep (.node zd zs) ≤ 1000000) := ⟨bthen HS5.out.1 hbc (Nat.le_refl _), htc.mono fun _ _ _ _ => trivial, by omega, by omega⟩
 clear k0 k1 k2 k3 k4 k5 k6 k7 k8 k9 k10
 clear htc hdc hnc hbc HS5
 have CZ : Box (Calls Tryd.prog 9 #[.agg (ndC zd (.slice E1 zd.ms.length q1) (.slice E2 zd.bys.length q2) (.slice E3 zs.length q3))] w6 (RetB (.bool true) w6)) := ⟨compiles_any (.node zd zs) _ w6 (.slice E1 zd.ms.length q1, .slice E2 zd.bys.length q2, .slice E3 zs.length q3) HS6.out.2.1 HS6.out.2.2.1 HS6.out.2.2.2 (HW.out.below HS6.out.1)⟩
 go_wp2_with fail
 refine (CZ.out).mono ?_
 rintro e7 w7 ⟨rfl, hb7⟩
 have HS7 : Box (Below w.heap.size w w7) := ⟨bthen HS6.out.1 hb7 (Nat.le_refl _)⟩
 clear hb7 CZ HS6
 go_wp2_with fail
 refine (plives_true w7 (HW.out.below HS7.out)).mono ?_
 rintro e8 w8 ⟨rfl, hb8⟩
 have HS8 : Box (Below w.heap.size w w8) := ⟨bthen HS7.out hb8 (Nat.le_refl _)⟩
 clear hb8 HS7
 go_wp2_with fail
 go_ret
 exact ⟨rfl, HS8.out⟩
end
section
open Go.RowKit FracM
/-- an expression with its offsets increased -/
def RetSh (Y : Nat → Prop) (t : Tree) (w : World) (e : Ending) (w' : World) : Prop := ∃ mv bv kv, e = .returned (.agg (ndC t.d mv bv kv)) ∧ TreeAt w' (fun b _ => Y b ∨ w.heap.size + 2 ≤ b) t (mv, bv, kv) ∧ Below w.heap.size w w'
structure ShS (w W : World) (Y : Nat → Prop) (d : Nd) (mv bv kv v : Value) (st : List Tree) (cs : List Sl) : Prop where
 below : Below w.heap.size w W
 e : Blk W w.heap.size 29 (ndC d mv bv kv)
 z : Blk W (w.heap.size + 1) 29 zeroC
 stk : StackC W (w.heap.size + 2) (fun b => Y b ∨ w.heap.size + 2 ≤ b) v st cs
theorem ShS.next {w W W' : World} {Y : Nat → Prop} {d : Nd} {mv bv kv v : Value} {st : List Tree} {cs : List Sl} (h : ShS w W Y d mv bv kv v st cs) (f : Below W.heap.size W W') : ShS w W' Y d mv bv kv v st cs :=
 ⟨bthen h.below f (Nat.le_refl _), h.e.below f, h.z.below f, h.stk.keep f⟩
theorem shN_ms (k : Int) (d : Nd) : (shN k d).ms = d.ms := by unfold shN; split <;> rfl
theorem shN_bys (k : Int) (d : Nd) : (shN k d).bys = d.bys := by unfold shN; split <;> rfl
theorem shN_ok {k : Int} {d : Nd} (h : NdOk d) (h1 : 0 ≤ d.off ∧ d.off ≤ 5000) (hk : 0 ≤ k ∧ k ≤ 100) : NdOk (shN k d) := by
 unfold shN
 split
 ·exact ⟨⟨h.ints.1, h.ints.2.1, h.ints.2.2.1, (by unfold I64; constructor <;> simp only <;> omega), h.ints.2.2.2.2⟩, h.name, h.ms, h.bys⟩
 ·exact h
theorem len_nds : ∀ (l : List Tree), l.length ≤ ndsL l := by
 intro l
 induction l with
 | nil => simp
 | cons t r ih => rw [List.length_cons, ndsL]; have := nds_pos t; omega
theorem shL_len (k : Int) (l : List Tree) : (shL k l).length = l.length := by rw [shL_map, List.length_map]
theorem post_kid {ks : List Tree} {x : Tree} {d : Nd} (hx : x ∈ ks) : ∀ e ∈ postT x, e ∈ postT (.node d ks) := by
 intro e he
 rw [postT, postL_flat]
 exact List.mem_append_left _ (List.mem_flatMap.2 ⟨x, hx, he⟩)
/-- behind an append of an expression -/
theorem ShS.push {w W W9 : World} {Y : Nat → Prop} {d : Nd} {mv bv kv : Value} {AS : Option Addr} {n sc g cap : Nat} {st : List Tree} {cs : List Sl} {u : Tree} {s : Sl} {o : Obj} (h : ShS w W Y d mv bv kv (.slice AS n sc) st cs) (hn : n = st.length)
  (hT : TreeAt W (fun b _ => (Y b ∨ w.heap.size + 2 ≤ b) ∧ (Value.slice AS n sc).ownBlock ≠ some b) u s)
  (hown : W9.ownsRow (w.heap.size + 2) 29 11 (.slice (some ⟨g, 0, none⟩) (n + 1) cap) (n + 1) ((st.zip cs).flatMap ndL ++ ndL (u, s))) (hg : (W.alloc o).grownBy W9 (Value.slice AS n sc).ownBlock) (hat : (Value.slice AS n sc).ownBlock = some g ∨ g = W.heap.size + 1) :
  ShS w W9 Y d mv bv kv (.slice (some ⟨g, 0, none⟩) (n + 1) cap) (st ++ [u]) (cs ++ [s]) := by
 subst hn
 have hbk := own_bk h.stk.own
 have hz := h.below.size
 have hz1 : (W.alloc o).heap.size = W.heap.size + 1 := by simp
 have hlt := h.z.lt
 have keep : ∀ k, k < W.heap.size → k < w.heap.size + 2 → W9.heap[k]? = W.heap[k]? := fun k hk hk2 => (hg.block k (by omega) (fun e => by have := (hbk k e.symm).1; omega)).trans (Below.heap_alloc W o k hk)
 refine ⟨⟨hg.os.trans h.below.os, hg.tape.trans h.below.tape, hg.output.trans h.below.output, Nat.le_trans hz (Nat.le_trans (by omega) hg.size), fun k hk => (keep k (by omega) (by omega)).trans (h.below.block k hk)⟩, (keep _ (by omega) (by omega)).trans h.e, (keep _ hlt (by omega)).trans h.z, ?_⟩
 exact StackC.push (h.stk.keep (bel1 W o)) (hT.belo (bel1 W o)) hg (by rw [hz1]; exact hat) hown
set_option maxHeartbeats 8000000 in
set_option maxRecDepth 100000 in
theorem rshifted_any (k : Int) (hk0 : 0 ≤ k) (hk1 : k ≤ 100) : ∀ t, ∀ (Y : Nat → Prop) (w : World) (s : Sl), (∀ b, Y b → b < w.heap.size) → TreeAt w (fun b _ => Y b) t s → nds t ≤ 1000 → (∀ d ∈ postT t, 0 ≤ d.off ∧ d.off ≤ 5000) → Calls Tryd.prog 23 #[.agg (ndC t.d s.1 s.2.1 s.2.2), .int .i64 k] w (RetSh Y (shT k t) w) := by
 refine Tree.ind ?_
 intro d ks ih Y w ⟨mv, bv, kv⟩ hY hT hn hoff
 have IH := Box.mk ih
 obtain ⟨A1, c1, rfl, -⟩ := hT.nod.ms.form
 obtain ⟨A2, c2, rfl, -⟩ := hT.nod.bys.form
 obtain ⟨A3, c3, rfl, l3⟩ := hT.nod.kform
 have hd0 := hoff d (by rw [postT]; simp)
 obtain ⟨ho1, ho2⟩ := hd0
 have HOFF := Box.mk hoff
 have HY := Box.mk hY
 have HT := Box.mk hT
 have HND : Box (ndsL ks + 1 ≤ 1000) := ⟨by rw [nds] at hn; exact hn⟩
 have HLEN : Box (ks.length ≤ ndsL ks) := ⟨len_nds ks⟩
 have hkl : ks.length ≤ 1000 := by have := HLEN.out; have := HND.out; omega
 have H0 : Box (ShS w ((w.alloc (.cells (ndC d (.slice A1 d.ms.length c1) (.slice A2 d.bys.length c2) (.slice A3 ks.length c3)) 29)).alloc (.cells zeroC 29)) Y d (.slice A1 d.ms.length c1) (.slice A2 d.bys.length c2) (.slice A3 ks.length c3) (.slice none 0 0) [] []) := ⟨bel2 _ _ _, (Blk.new _ _ _).alloc _, Blk.newAt _ _ (by simp), StackC.nil _ _ _⟩
 obtain ⟨j0, hi, hz0, hz1, hz2⟩ := info_parts exprInfoC
 have HJ := Box.mk (And.intro hi (And.intro hz0 (And.intro hz1 hz2)))
 clear hT ih hoff hY hi hz0 hz1 hz2 hn
 simp only [Tree.d]
 go_enter Tryd.func23, Tryd.ntmps23
 go_upto_region 1 with (fail)
 generalize (w.alloc (.cells (ndC d (.slice A1 d.ms.length c1) (.slice A2 d.bys.length c2) (.slice A3 ks.length c3)) 29)).alloc (.cells zeroC 29) = W at H0 ⊢
 obtain ⟨k0, k1, k2, k3, k4, k5, k6, k7, k8, k9, k10⟩ := blk11z H0.out.e
 have kf := H0.out.e.frozen
 clear k1 k2 k4 k5 k6 k7 k8 k9 k10
 go_upto_if 9 with (fail)
 go_cut [] (fun wx => ShS w wx Y (shN k d) (.slice A1 d.ms.length c1) (.slice A2 d.bys.length c2) (.slice A3 ks.length c3) (.slice none 0 0) [] [])
 case first =>
  by_cases hk : d.kind = 1
  ·have e1 : (d.kind == 1) = true := by simp [hk]
   have HF : Box (ShS w (W.setCell ⟨w.heap.size, 3, none⟩ (.int .i64 (d.off + k))) Y (shN k d) (.slice A1 d.ms.length c1) (.slice A2 d.bys.length c2) (.slice A3 ks.length c3) (.slice none 0 0) [] []) := ⟨H0.out.below.setCell (p := ⟨w.heap.size, 3, none⟩) (Nat.le_refl _) _, by have h := H0.out.e.set 3 (.int .i64 (d.off + k)); unfold shN; rw [if_pos hk]; exact h, (Only.setCell (g := w.heap.size) 3 _).blk H0.out.z (by omega), StackC.nil _ _ _⟩
   clear hk
   go_wp2_with fail
   go_meet
   exact HF.out
  ·have e1 : (d.kind == 1) = false := by simpa using hk
   have HF : Box (ShS w W Y (shN k d) (.slice A1 d.ms.length c1) (.slice A2 d.bys.length c2) (.slice A3 ks.length c3) (.slice none 0 0) [] []) := ⟨by unfold shN; rw [if_neg hk]; exact H0.out⟩
   clear hk
   go_wp2_with fail
   go_meet
   exact HF.out
 case rest =>
  rename World => wx
  have HX := Box.mk hcut
  clear hcut H0 k0 k3 kf
  go_wp2_with fail
  go_loopw [5, 6] (fun v iv wr => ∃ (i : Nat) (cs : List Sl), iv = .int .i64 (i : Nat) ∧ i ≤ ks.length ∧ Box (ShS w wr Y (shN k d) (.slice A1 d.ms.length c1) (.slice A2 d.bys.length c2) (.slice A3 ks.length c3) v (shL k (ks.take i)) cs)) (fun _ iv _ => ks.length - (intOf iv).toNat)
  case atStart => exact ⟨0, [], rfl, by omega, HX⟩
  case round =>
   clear HX
   obtain ⟨i, cs, rfl, hik, HS⟩ := hrel
   have hsl : (shL k (ks.take i)).length = i := by rw [shL_len, List.length_take]; omega
   obtain ⟨AS, sc, rfl, hsc1, hsc2, hsc3⟩ := HS.out.stk.form
   rw [hsl] at HS ⊢
   have HSL := Box.mk hsl
   clear hsl hsc1 hsc2 hsc3
   have hzw := HS.out.below.size
   have hzz := HS.out.z.lt
   obtain ⟨k0, k1, k2, k3, k4, k5, k6, k7, k8, k9, k10⟩ := blk11z HS.out.e
   have HTw := Box.mk (HT.out.keep (Agree.of_lt HS.out.below fun b _ h => HY.out b h))
   by_cases hlt : i < ks.length
   ·have hlt2 : (i : Int) < (ks.length : Int) := by omega
    obtain ⟨x, hx⟩ : ∃ x, ks[i]? = some x := ⟨ks[i], List.getElem?_eq_getElem _⟩
    obtain ⟨e, es⟩ := x
    obtain ⟨b, off, mv', bv', kv', rfl, hb, -, ⟨z0, z1, z2, z3, z4, z5, z6, z7, z8, z9, z10⟩, hT'⟩ := HTw.out.nod.kid i e es hx
    obtain ⟨B1, m1, rfl, -⟩ := hT'.nod.ms.form
    obtain ⟨B2, m2, rfl, -⟩ := hT'.nod.bys.form
    obtain ⟨B3, m3, rfl, -⟩ := hT'.nod.kform
    have hmem := List.mem_of_getElem? hx
    have HIH : Box (Calls Tryd.prog 23 #[.agg (ndC e (.slice B1 e.ms.length m1) (.slice B2 e.bys.length m2) (.slice B3 es.length m3)), .int .i64 k] wr (RetSh Y (shT k (.node e es)) wr)) := ⟨IH.out (.node e es) hmem Y wr (.slice B1 e.ms.length m1, .slice B2 e.bys.length m2, .slice B3 es.length m3) (fun b h => Nat.lt_of_lt_of_le (HY.out b h) hzw) hT' (by have := nds_mem hmem; have := HND.out; omega) (fun d h => HOFF.out d (post_kid hmem d h))⟩
    have HTK : Box (shL k (ks.take (i + 1)) = shL k (ks.take i) ++ [shT k (.node e es)]) := ⟨by rw [shL_map, shL_map, List.take_add_one, hx, List.map_append]; rfl⟩
    obtain ⟨ud, us, hu⟩ : ∃ ud us, shT k (.node e es) = .node ud us := ⟨_, _, by rw [shT]⟩
    rw [hu] at HIH HTK
    clear hT' hx hmem k0 k1 k2 k3 k4 k5 k6 k7 k8 k9 hu
    go_wp2_with fail
    with_reducible refine (HIH.out).mono ?_
    rintro e1 w1 ⟨mv1, bv1, kv1, rfl, hT1, hb1⟩
    obtain ⟨M1, n1, rfl, -⟩ := hT1.nod.ms.form
    obtain ⟨M2, n2, rfl, -⟩ := hT1.nod.bys.form
    obtain ⟨M3, n3, rfl, -⟩ := hT1.nod.kform
    have HS1 := Box.mk (HS.out.next hb1)
    have hz1 := hb1.size
    have HT1 : Box (TreeAt w1 (fun b _ => (Y b ∨ w.heap.size + 2 ≤ b) ∧ (Value.slice AS i sc).ownBlock ≠ some b) (.node ud us) (.slice M1 ud.ms.length n1, .slice M2 ud.bys.length n2, .slice M3 us.length n3)) := ⟨hT1.mono fun b _ _ h => by
     rcases h with h | h
     ·exact ⟨.inl h, fun e => by have := (own_bk HS.out.stk.own b e).1; have := HY.out b h; omega⟩
     ·exact ⟨.inr (by omega), fun e => by have := (own_bk HS.out.stk.own b e).2; omega⟩⟩
    have HOWN := Box.mk HS1.out.stk.own
    rw [HSL.out] at HOWN
    clear hT1 hb1 HIH z0 z1 z2 z3 z4 z5 z6 z7 z8 z9 z10 k10 HTw
    simp only [Tree.d]
    go_wp2_with (at_builtin; refine wpList_append_lies _ rfl _ _ 27 rfl (w.heap.size + 2) 29 j0 _ 11 144 Tryd.underlying27 HJ.out.1 HJ.out.2.1 HJ.out.2.2.1 HJ.out.2.2.2 rfl (by decide) (.slice AS i sc) i (((shL k (ks.take i)).zip cs).flatMap ndL) rfl (own_below HOWN.out (bel1 _ _)) ⟨w1.heap.size, 0, none⟩ 1 1 (ndL (.node ud us, .slice M1 ud.ms.length n1, .slice M2 ud.bys.length n2, .slice M3 us.length n3)) rfl rfl (World.news_of_block (Blk.new _ _ _)) (nd_one HT1.out) (by omega) (by unfold maxLen; omega) (by omega) (by simp; omega) (w1.heap.size + 1) (by simp) ?_; intro g9 cap9 w9 hown9 hgr9 hat9 hlt9; have HS9 := Box.mk (HS1.out.push HSL.out.symm HT1.out hown9 hgr9 hat9); clear hown9 hgr9 hat9 hlt9)
    go_roundw
    case rel => exact ⟨i + 1, _, by go_num, by omega, ⟨by rw [HTK.out]; exact HS9.out⟩⟩
    case measure => simp [intOf]; omega
   ·have hlt2 : ¬ (i : Int) < (ks.length : Int) := by omega
    have hie : i = ks.length := by omega
    subst hie
    rw [List.take_length] at HS HSL
    have HTF : Box (TreeAt wr (fun b _ => Y b ∨ w.heap.size + 2 ≤ b) (shT k (.node d ks)) (.slice A1 d.ms.length c1, .slice A2 d.bys.length c2, .slice AS ks.length sc)) := ⟨by
     rw [shT]
     refine .mk (shN k d) (shL k ks) _ _ _ cs (shN_ok HTw.out.nod.ok ⟨ho1, ho2⟩ ⟨hk0, hk1⟩) ?_ ?_ HS.out.stk.len ?_ fun i u c h1 h2 => (HS.out.stk.at_ i u c h1 h2).mono fun b _ _ h => h.1
     ·rw [shN_ms]; exact HTw.out.nod.ms.mono fun b _ _ h => .inl h
     ·rw [shN_bys]; exact HTw.out.nod.bys.mono fun b _ _ h => .inl h
     ·have h := SeqP.of_own (P := fun b _ => Y b ∨ w.heap.size + 2 ≤ b) HS.out.stk.own fun b _ hb _ => .inr hb
      exact h⟩
    have HX2 : Box (Below w.heap.size w (wr.setCell ⟨w.heap.size, 10, none⟩ (.slice AS ks.length sc)) ∧ Blk (wr.setCell ⟨w.heap.size, 10, none⟩ (.slice AS ks.length sc)) w.heap.size 29 (ndC (shN k d) (.slice A1 d.ms.length c1) (.slice A2 d.bys.length c2) (.slice AS ks.length sc)) ∧ Blk (wr.setCell ⟨w.heap.size, 10, none⟩ (.slice AS ks.length sc)) (w.heap.size + 1) 29 zeroC ∧ TreeAt (wr.setCell ⟨w.heap.size, 10, none⟩ (.slice AS ks.length sc)) (fun b _ => Y b ∨ w.heap.size + 2 ≤ b) (shT k (.node d ks)) (.slice A1 d.ms.length c1, .slice A2 d.bys.length c2, .slice AS ks.length sc)) :=
     ⟨HS.out.below.setCell (p := ⟨w.heap.size, 10, none⟩) (Nat.le_refl _) _, by simpa using HS.out.e.set 10 (.slice AS ks.length sc), (Only.setCell (g := w.heap.size) 10 _).blk HS.out.z (by omega), HTF.out.keep (Agree.of_only (Only.setCell (g := w.heap.size) 10 _) fun b _ h => by
      rcases h with h | h
      ·have := HY.out b h; omega
      ·omega)⟩
    have kf := HS.out.e.frozen
    clear HTF HTw HSL HT HOFF IH
    go_upto_region 9 with (fail)
    generalize wr.setCell ⟨w.heap.size, 10, none⟩ (.slice AS ks.length sc) = W2 at HX2 ⊢
    clear HS k0 k1 k2 k3 k4 k5 k6 k7 k8 k9 k10 kf
    obtain ⟨k0, k1, k2, k3, k4, k5, k6, k7, k8, k9, k10⟩ := blk11z HX2.out.2.1
    obtain ⟨z0, z1, z2, z3, z4, z5, z6, z7, z8, z9, z10⟩ := blk11z (d := zNd) HX2.out.2.2.1
    have zf := HX2.out.2.2.1.frozen
    go_wp2_with fail
    have HF : Box (Blk (put11 W2 (w.heap.size + 1) (.int .i64 (shN k d).kind) (.int .i64 (shN k d).fn) (.int .i64 (shN k d).win) (.int .i64 (shN k d).off) (.int .i64 (shN k d).k) (.int .i64 (shN k d).num) (.int .i64 (shN k d).den) (.string (shN k d).name) (.slice A1 d.ms.length c1) (.slice A2 d.bys.length c2) (.slice AS ks.length sc)) (w.heap.size + 1) 29 (ndC (shN k d) (.slice A1 d.ms.length c1) (.slice A2 d.bys.length c2) (.slice AS ks.length sc)) ∧ Below w.heap.size w (put11 W2 (w.heap.size + 1) (.int .i64 (shN k d).kind) (.int .i64 (shN k d).fn) (.int .i64 (shN k d).win) (.int .i64 (shN k d).off) (.int .i64 (shN k d).k) (.int .i64 (shN k d).num) (.int .i64 (shN k d).den) (.string (shN k d).name) (.slice A1 d.ms.length c1) (.slice A2 d.bys.length c2) (.slice AS ks.length sc)) ∧ TreeAt (put11 W2 (w.heap.size + 1) (.int .i64 (shN k d).kind) (.int .i64 (shN k d).fn) (.int .i64 (shN k d).win) (.int .i64 (shN k d).off) (.int .i64 (shN k d).k) (.int .i64 (shN k d).num) (.int .i64 (shN k d).den) (.string (shN k d).name) (.slice A1 d.ms.length c1) (.slice A2 d.bys.length c2) (.slice AS ks.length sc)) (fun b _ => Y b ∨ w.heap.size + 2 ≤ b) (shT k (.node d ks)) (.slice A1 d.ms.length c1, .slice A2 d.bys.length c2, .slice AS ks.length sc)) :=
     ⟨put11_blk HX2.out.2.2.1, HX2.out.1.trans (put11_below (by omega) ..), HX2.out.2.2.2.keep (Agree.of_only (put11_only ..) fun b _ h => by
      rcases h with h | h
      ·have := HY.out b h; omega
      ·omega)⟩
    show bodyPost _ _ _ _ _ (put11 W2 (w.heap.size + 1) (.int .i64 (shN k d).kind) (.int .i64 (shN k d).fn) (.int .i64 (shN k d).win) (.int .i64 (shN k d).off) (.int .i64 (shN k d).k) (.int .i64 (shN k d).num) (.int .i64 (shN k d).den) (.string (shN k d).name) (.slice A1 d.ms.length c1) (.slice A2 d.bys.length c2) (.slice AS ks.length sc))
    generalize (put11 W2 (w.heap.size + 1) (.int .i64 (shN k d).kind) (.int .i64 (shN k d).fn) (.int .i64 (shN k d).win) (.int .i64 (shN k d).off) (.int .i64 (shN k d).k) (.int .i64 (shN k d).num) (.int .i64 (shN k d).den) (.string (shN k d).name) (.slice A1 d.ms.length c1) (.slice A2 d.bys.length c2) (.slice AS ks.length sc)) = WF at HF ⊢
    clear z0 z1 z2 z3 z4 z5 z6 z7 z8 z9 z10 zf k0 k1 k2 k3 k4 k5 k6 k7 k8 k9 k10
    obtain ⟨f0, f1, f2, f3, f4, f5, f6, f7, f8, f9, f10⟩ := blk11z HF.out.1
    have ef := HF.out.1.frozen
    refine bodyPost_ret (v := .agg (ndC (shN k d) (.slice A1 d.ms.length c1) (.slice A2 d.bys.length c2) (.slice AS ks.length sc))) (by simp [results, Tryd.results23, go_sem, f0, f1, f2, f3, f4, f5, f6, f7, f8, f9, f10, ef]) rfl ?_
    exact ⟨.slice A1 d.ms.length c1, .slice A2 d.bys.length c2, .slice AS ks.length sc, by rw [shT]; rfl, HF.out.2.2, HF.out.2.1⟩
end
end Go.Proofs.YtipafbppaaflcaaDoor
