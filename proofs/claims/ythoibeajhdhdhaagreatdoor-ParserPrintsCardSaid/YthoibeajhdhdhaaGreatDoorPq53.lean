/- Contracts, packed: Mi Mj. -/
import Derived.Test.YthoibeajhdhdhaaGreatDoorPq31
import Derived.Test.YthoibeajhdhdhaaGreatDoorPq52
set_option linter.unusedVariables false
set_option linter.unusedSimpArgs false
namespace Go.Proofs.YthoibeajhdhdhaaGreatDoor
section
open Go.RowKit FracM

set_option maxHeartbeats 1000000 in
set_option maxRecDepth 100000 in
theorem rshow0_any (t : Tree) (P : Nat → Nat → Prop) (w : World) (s : Sl) (hT : TreeAt w P t s) (hc : chk t = 0) (hp : prtB t = true) (hn : nds t ≤ 400) : Calls Tryz.prog 11 #[.agg (ndC t.d s.1 s.2.1 s.2.2)] w (RetB (.string (bsL (showT t))) w) := by
  have HE := Box.mk (showR_top hc)
  have HH := Box.mk (And.intro hc (And.intro hp hn))
  obtain ⟨d, ks⟩ := t
  obtain ⟨mv, bv, kv⟩ := s
  have HN := Box.mk (N1.start hT)
  clear hT hc hp hn
  simp only [Tree.d]
  go_enter Tryz.func11, Tryz.ntmps11
  go_upto_region 1 with (fail)
  generalize w.alloc (.cells (ndC d _ _ _) 29) = wr at HN ⊢
  obtain ⟨c0, c1, c2, c3, c4, c5, c6, c7, c8, c9, c10⟩ := HN.out.c
  simp only [Nat.zero_add] at c1 c2 c3 c4 c5 c6 c7 c8 c9 c10
  go_wp2_with fail
  refine (rshow_any false (.node d ks) 1 1 P _ (mv, bv, kv) (by omega) rfl HH.out.1 HH.out.2.1 HH.out.2.2 HN.out.nod.tree).mono ?_
  rintro e w1 ⟨rfl, hb⟩
  rw [HE.out]
  have HN1 := Box.mk (HN.out.next hb)
  clear hb c0 c1 c2 c3 c4 c5 c6 c7 c8 c9 c10
  go_wp2_with fail
  go_ret
  exact ⟨rfl, HN1.out.below⟩
set_option maxHeartbeats 4000000 in
set_option maxRecDepth 100000 in
theorem rprint_any (t : Tree) (P : Nat → Nat → Prop) (w : World) (s : Sl) (hT : TreeAt w P t s) (hn : nds t ≤ 1000000) (hd : dep t ≤ 1000000) : Calls Tryz.prog 49 #[.agg (ndC t.d s.1 s.2.1 s.2.2)] w (RetPr t w) := by
  obtain ⟨d, ks⟩ := t
  obtain ⟨mv, bv, kv⟩ := s
  obtain ⟨A1, n1, rfl, l1⟩ := hT.nod.ms.form
  obtain ⟨A2, n2, rfl, l2⟩ := hT.nod.bys.form
  obtain ⟨A3, n3, rfl, l3⟩ := hT.nod.kform
  have HN := Lib.hid (N1.start hT)
  have HB := Box.mk (And.intro hn hd)
  obtain ⟨ve, hve⟩ : ∃ z, validE (.node d ks) = z := ⟨_, rfl⟩
  have HV := Box.mk hve
  clear hT hn hd hve
  simp only [Tree.d]
  go_enter Tryz.func49, Tryz.ntmps49
  go_upto_region 1 with (fail)
  generalize w.alloc (.cells (ndC d _ _ _) 29) = W at HN ⊢
  obtain ⟨c0, c1, c2, c3, c4, c5, c6, c7, c8, c9, c10⟩ := HN.out.c
  simp only [Nat.zero_add] at c1 c2 c3 c4 c5 c6 c7 c8 c9 c10
  go_wp2_with fail
  refine (rpvalid_any (.node d ks) P _ (.slice A1 d.ms.length n1, .slice A2 d.bys.length n2, .slice A3 ks.length n3) HN.out.nod.tree HB.out.1 HB.out.2).mono ?_
  rintro e w1 ⟨rfl, hb⟩
  clear c0 c1 c2 c3 c4 c5 c6 c7 c8 c9 c10
  have HN2 := Lib.hid (HN.out.next hb); clear HN hb
  rw [HV.out]
  by_cases hv : ve = 0
  · subst hv
    obtain ⟨hc, hn, hd⟩ := valid_parts HV.out
    have HC := Box.mk hc
    have HNN : Box (nds (.node d ks) ≤ 400) := ⟨by omega⟩
    have HTL : Box ((showT (.node d ks)).length ≤ 1000000) := ⟨by have := show_len _ hc; omega⟩
    clear hc hn hd
    obtain ⟨c0, c1, c2, c3, c4, c5, c6, c7, c8, c9, c10⟩ := HN2.out.c
    simp only [Nat.zero_add] at c1 c2 c3 c4 c5 c6 c7 c8 c9 c10
    go_wp2_with fail
    refine (rwrit_any (.node d ks) P _ (.slice A1 d.ms.length n1, .slice A2 d.bys.length n2, .slice A3 ks.length n3) HC.out HN2.out.nod.tree).mono ?_
    rintro e w2 ⟨rfl, hb⟩
    clear c0 c1 c2 c3 c4 c5 c6 c7 c8 c9 c10
    have HN := Lib.hid (HN2.out.next hb); clear HN2 hb
    obtain ⟨pb, hpb⟩ : ∃ z, prtB (.node d ks) = z := ⟨_, rfl⟩
    have HPB := Box.mk hpb
    rw [hpb]
    clear hpb
    cases pb
    · go_wp2_with fail
      go_ret2
      exact ⟨by unfold printT; rw [if_pos HV.out, if_pos HPB.out]; rfl, HN.out.below⟩
    · have HPR : Box (printT (.node d ks) = if 2000 < (showT (.node d ks)).length then ([], 4) else (showT (.node d ks), 0)) := ⟨by unfold printT; rw [if_pos HV.out, HPB.out]; simp⟩
      obtain ⟨c0, c1, c2, c3, c4, c5, c6, c7, c8, c9, c10⟩ := HN.out.c
      simp only [Nat.zero_add] at c1 c2 c3 c4 c5 c6 c7 c8 c9 c10
      go_wp2_with fail
      refine (rshow0_any (.node d ks) P _ (.slice A1 d.ms.length n1, .slice A2 d.bys.length n2, .slice A3 ks.length n3) HN.out.nod.tree HC.out HPB.out HNN.out).mono ?_
      rintro e w3 ⟨rfl, hb⟩
      clear c0 c1 c2 c3 c4 c5 c6 c7 c8 c9 c10
      have HN2 := Lib.hid (HN.out.next hb); clear HN hb
      obtain ⟨tx, htx⟩ : ∃ z, showT (.node d ks) = z := ⟨_, rfl⟩
      rw [htx] at HPR HTL
      rw [htx]
      clear htx
      obtain ⟨sb, hsb⟩ : ∃ z, bsL tx = z := ⟨_, rfl⟩
      have HSB := Box.mk hsb
      have hss : sb.size = tx.length := by rw [← hsb, bsL_sz]
      rw [hsb]
      clear hsb
      have hsl := HTL.out
      by_cases hbig : 2000 < sb.size
      · have HE : Box (2000 < tx.length) := ⟨by omega⟩
        have hbig2 : (2000 : Int) < (sb.size : Int) := by omega
        clear hbig hss
        go_wp2_with fail
        go_ret2
        exact ⟨by rw [HPR.out, if_pos HE.out]; rfl, HN2.out.below⟩
      · have HE : Box (¬ 2000 < tx.length) := ⟨by omega⟩
        have hbig2 : ¬ (2000 : Int) < (sb.size : Int) := by omega
        clear hbig hss
        go_wp2_with fail
        go_ret2
        exact ⟨by rw [HPR.out, if_neg HE.out, ← HSB.out]; rfl, HN2.out.below⟩
  · have HVN : Box (¬ ve = 0) := ⟨hv⟩
    have hv2 : (ve != 0) = true := by simp [hv]
    clear hv
    go_wp2_with fail
    go_ret2
    exact ⟨by unfold printT; rw [HV.out, if_neg HVN.out]; rfl, HN2.out.below⟩
set_option maxHeartbeats 4000000 in
set_option maxRecDepth 100000 in
theorem prints_any (t : Tree) (P : Nat → Nat → Prop) (w : World) (s : Sl) (hT : TreeAt w P t s) (hn : nds t ≤ 1000000) (hd : dep t ≤ 1000000) (hl : LibP w) : Calls Tryz.prog 28 #[.agg (ndC t.d s.1 s.2.1 s.2.2)] w (RetB (.bool true) w) := by
  obtain ⟨d, ks⟩ := t
  obtain ⟨mv, bv, kv⟩ := s
  obtain ⟨A1, n1, rfl, l1⟩ := hT.nod.ms.form
  obtain ⟨A2, n2, rfl, l2⟩ := hT.nod.bys.form
  obtain ⟨A3, n3, rfl, l3⟩ := hT.nod.kform
  have HN := Lib.hid (N1.start hT)
  have HB := Box.mk (And.intro hn hd)
  have HL := Box.mk hl
  obtain ⟨r, hr⟩ : ∃ r, printT (.node d ks) = r := ⟨_, rfl⟩
  obtain ⟨tx, er⟩ := r
  have HR := Box.mk hr
  clear hT hn hd hl hr
  simp only [Tree.d]
  go_enter Tryz.func28, Tryz.ntmps28
  go_upto_region 1 with (fail)
  generalize w.alloc (.cells (ndC d _ _ _) 29) = W at HN ⊢
  obtain ⟨c0, c1, c2, c3, c4, c5, c6, c7, c8, c9, c10⟩ := HN.out.c
  simp only [Nat.zero_add] at c1 c2 c3 c4 c5 c6 c7 c8 c9 c10
  go_wp2_with fail
  refine (pprint_any (.node d ks) P _ (.slice A1 d.ms.length n1, .slice A2 d.bys.length n2, .slice A3 ks.length n3) HN.out.nod.tree (HL.out.below HN.out.below)).mono ?_
  rintro e w1 ⟨rfl, hb⟩
  rw [HR.out]
  clear c0 c1 c2 c3 c4 c5 c6 c7 c8 c9 c10
  have HN2 := Lib.hid (HN.out.next hb); clear HN hb
  obtain ⟨sb, hsb⟩ : ∃ z, bsL tx = z := ⟨_, rfl⟩
  have HSB := Box.mk hsb
  simp only
  rw [hsb]
  clear hsb
  obtain ⟨c0, c1, c2, c3, c4, c5, c6, c7, c8, c9, c10⟩ := HN2.out.c
  simp only [Nat.zero_add] at c1 c2 c3 c4 c5 c6 c7 c8 c9 c10
  go_wp2_with fail
  refine (rprint_any (.node d ks) P _ (.slice A1 d.ms.length n1, .slice A2 d.bys.length n2, .slice A3 ks.length n3) HN2.out.nod.tree HB.out.1 HB.out.2).mono ?_
  rintro e w2 ⟨rfl, hb⟩
  rw [HR.out]
  simp only
  rw [HSB.out]
  clear c0 c1 c2 c3 c4 c5 c6 c7 c8 c9 c10
  have HN := Lib.hid (HN2.out.next hb); clear HN2 hb
  have hzz : (sb.toList == sb.toList) = true := by simp
  have hee : (er == er) = true := by simp
  go_wp2_with fail
  go_ret
  exact ⟨rfl, HN.out.below⟩
def pbM (n : Nat) : Nd := ⟨3, (n : Int), 0, 0, 0, 0, 0, ⟨#[]⟩, [], []⟩
theorem bin_atM {w : World} {n : Nat} (hn : n ≤ 10) {e1 e2 : Nd} {es1 es2 : List Tree} {m1 v1 k1 m2 v2 k2 : Value} (h1 : TreeAt w AnyP (.node e1 es1) (m1, v1, k1)) (h2 : TreeAt w AnyP (.node e2 es2) (m2, v2, k2)) :
    TreeAt (w.alloc (.cells (kidC e1 m1 v1 k1 e2 m2 v2 k2) 29)) AnyP (.node (pbM n) [.node e1 es1, .node e2 es2]) (nilV, nilV, .slice (some ⟨w.heap.size, 0, none⟩) 2 2) := by
  have hkb : Blk (w.alloc (.cells (kidC e1 m1 v1 k1 e2 m2 v2 k2) 29)) w.heap.size 29 (kidC e1 m1 v1 k1 e2 m2 v2 k2) := Blk.new _ _ _
  have hb := bel1 w (.cells (kidC e1 m1 v1 k1 e2 m2 v2 k2) 29)
  generalize w.alloc (.cells (kidC e1 m1 v1 k1 e2 m2 v2 k2) 29) = W at *
  refine Nod.tree (d := pbM n) (ks := [.node e1 es1, .node e2 es2]) ⟨binOk n hn (.node e1 es1) (.node e2 es2), SeqP.nil _ _ _, SeqP.nil _ _ _, [(m1, v1, k1), (m2, v2, k2)], rfl, ?_, ?_⟩
  · have := SeqP.of_blk (P := AnyP) (n := 2) (size := 11) hkb rfl (by omega) trivial
    simpa [ndL, Tree.d] using this
  · intro i t' c h3 h4
    match i, h3, h4 with
    | 0, h3, h4 =>
      simp at h3 h4
      subst h3 h4
      exact h1.belo hb
    | 1, h3, h4 =>
      simp at h3 h4
      subst h3 h4
      exact h2.belo hb
    | j + 2, h3, h4 => simp at h3

def frM (n d : Int) : Nd := ⟨0, 0, 0, 0, 0, n, d, ⟨#[]⟩, [], []⟩
theorem frM_at (W : World) (n d : Int) (h1 : I64 n) (h2 : I64 d) : TreeAt W AnyP (.node (frM n d) []) (nilV, nilV, nilV) :=
  kleaf_at (d := frM n d) ⟨⟨(by unfold I64; decide : I64 0), (by unfold I64; decide : I64 0), (by unfold I64; decide : I64 0), (by unfold I64; decide : I64 0), (by unfold I64; decide : I64 0), h1, h2⟩, by show (0 : Nat) ≤ maxLen; omega, fun m hm => by simp [frM] at hm, fun s hs => by simp [frM] at hs⟩ (SeqP.nil _ _ _) (SeqP.nil _ _ _)
end
section
open Go.RowKit FracM

theorem newF_i64 {p q n d e : Int} (h : newF p q = (n, d, e)) : I64 n ∧ I64 d := by
  rcases newF_err p q with h1 | h1 | ⟨n', d', h1⟩
  · rw [h1] at h; simp only [Prod.mk.injEq] at h; unfold I64; omega
  · rw [h1] at h; simp only [Prod.mk.injEq] at h; unfold I64; omega
  · rw [h1] at h
    simp only [Prod.mk.injEq] at h
    obtain ⟨b1, b2, b3, _⟩ := valid_iff.1 (newF_ok h1)
    unfold M at b2 b3
    unfold I64
    omega
/-- the memory of the law: the variable x and its rows, other variables -/
structure Pq (w W : World) (H gx : Nat) (L : Nat → Nat) (t : Tree) (s : Sl) : Prop where
  below : Below w.heap.size w W
  x : TB W gx t s
  tg : TreeG W (fun b z => w.heap.size ≤ b ∧ b < H ∧ z = L b) t s
  hH : H ≤ W.heap.size
theorem Pq.next {w W W' : World} {H gx : Nat} {L : Nat → Nat} {t : Tree} {s : Sl} (h : Pq w W H gx L t s) (hb : Below W.heap.size W W') : Pq w W' H gx L t s :=
  ⟨bthen h.below hb (Nat.le_refl _), h.x.next hb, h.tg.belo hb, Nat.le_trans h.hH hb.size⟩
set_option maxHeartbeats 8000000 in
set_option maxRecDepth 100000 in
theorem parserPrints_walk (AL : Option Addr) (nl cl : Nat) (ll : List Int) (at' wh v nu de : Int) (w : World) (hw : LibP w) (h1 : Ints w w.heap.size (.slice AL nl cl) ll)
    (a1 : -9223372036854775808 ≤ at') (a2 : at' ≤ 9223372036854775807) (b1 : -9223372036854775808 ≤ wh) (b2 : wh ≤ 9223372036854775807) (c1 : -9223372036854775808 ≤ v) (c2 : v ≤ 9223372036854775807) (d1 : -9223372036854775808 ≤ nu) (d2 : nu ≤ 9223372036854775807) (e1 : -9223372036854775808 ≤ de) (e2 : de ≤ 9223372036854775807) :
    Calls Tryz.prog 7 #[.slice AL nl cl, .int .i64 at', .int .i64 wh, .int .i64 v, .int .i64 nu, .int .i64 de] w fun e w' => e = .returned (.bool true) ∧ Below w.heap.size w w' := by
  have HW := Box.mk hw
  have HL := Box.mk h1.toP
  have HI := Box.mk (And.intro (And.intro a1 a2 : I64 at') (And.intro (And.intro b1 b2 : I64 wh) (And.intro (And.intro c1 c2 : I64 v) (And.intro (And.intro d1 d2 : I64 nu) (And.intro e1 e2 : I64 de)))))
  clear hw h1 a1 a2 b1 b2 c1 c2 d1 d2 e1 e2
  go_enter Tryz.func7, Tryz.ntmps7
  go_wp2_with fail
  refine (expr0_any _ ll _ HL.out).mono ?_
  rintro e0 w1 ⟨t1, s1, rfl, htree, hgt, hdp, hnd, hb1⟩
  obtain ⟨xd, xs⟩ := t1
  obtain ⟨q1, q2, q3⟩ := s1
  obtain ⟨A1, a1, rfl, -⟩ := htree.form.1
  obtain ⟨A2, a2, rfl, -⟩ := htree.form.2.1
  obtain ⟨A3, a3, rfl, -⟩ := htree.form.2.2
  simp only [Tree.d]
  have HG := Box.mk (And.intro hgt (And.intro hdp hnd))
  obtain ⟨Lf, HP⟩ : ∃ Lf : Nat → Nat, Box (Pq w (w1.alloc (.cells (ndC xd (.slice A1 xd.ms.length a1) (.slice A2 xd.bys.length a2) (.slice A3 xs.length a3)) 29)) w1.heap.size w1.heap.size Lf (.node xd xs) (.slice A1 xd.ms.length a1, .slice A2 xd.bys.length a2, .slice A3 xs.length a3)) := by
    obtain ⟨L, h⟩ := htree
    have hg : TreeG w1 (fun b z => w.heap.size ≤ b ∧ b < w1.heap.size ∧ z = L b) (.node xd xs) (.slice A1 xd.ms.length a1, .slice A2 xd.bys.length a2, .slice A3 xs.length a3) := h.mono fun b z hb hp => ⟨hp.1, hb, hp.2⟩
    exact ⟨L, ⟨bthen hb1 (bel1 _ _) (Nat.le_refl _), TB.new (hg.tree.mono fun _ _ _ _ => trivial), hg.belo (bel1 _ _), by simp⟩⟩
  clear htree hgt hdp hnd hb1 HL
  go_upto_region 2 with (fail)
  generalize hgx : w1.heap.size = gx at *
  generalize w1.alloc (.cells (ndC xd (.slice A1 xd.ms.length a1) (.slice A2 xd.bys.length a2) (.slice A3 xs.length a3)) 29) = W1 at HP ⊢
  clear hgx
  go_wp2_with fail
  refine (new_any nu de _ HI.out.2.2.2.1.1 HI.out.2.2.2.1.2 HI.out.2.2.2.2.1 HI.out.2.2.2.2.2).mono ?_
  rintro e w2 ⟨rfl, hb⟩
  obtain ⟨⟨a, b, c⟩, hr⟩ : ∃ r, newF nu de = r := ⟨_, rfl⟩
  have HAB := Box.mk (newF_i64 hr)
  rw [hr]
  simp only
  have HP2 := Box.mk ((HP.out.next hb).next (bel1 w2 (.cells #[.int .i64 a, .int .i64 b] 24)))
  have HNB : Box (Blk (w2.alloc (.cells #[.int .i64 a, .int .i64 b] 24)) w2.heap.size 24 #[.int .i64 a, .int .i64 b]) := ⟨Blk.new _ _ _⟩
  clear hb hr HP
  go_upto_region 3 with (fail)
  generalize w2.heap.size = gn at *
  generalize w2.alloc (.cells #[.int .i64 a, .int .i64 b] 24) = W2 at HP2 HNB ⊢
  obtain ⟨k0, k1, k2, k3, k4, k5, k6, k7, k8, k9, k10⟩ := blk11z (d := xd) HP2.out.x.box
  obtain ⟨n0, n1⟩ := HNB.out.c2
  have HYT : Box (TreeAt ((W2.alloc (.cells (kidC xd (.slice A1 xd.ms.length a1) (.slice A2 xd.bys.length a2) (.slice A3 xs.length a3) (frM a b) nilV nilV nilV) 29)).alloc (.cells (ndC (pbM 2) nilV nilV (.slice (some ⟨W2.heap.size, 0, none⟩) 2 2)) 29)) AnyP (.node (pbM 2) [.node xd xs, .node (frM a b) []]) (nilV, nilV, .slice (some ⟨W2.heap.size, 0, none⟩) 2 2) ∧
      Blk ((W2.alloc (.cells (kidC xd (.slice A1 xd.ms.length a1) (.slice A2 xd.bys.length a2) (.slice A3 xs.length a3) (frM a b) nilV nilV nilV) 29)).alloc (.cells (ndC (pbM 2) nilV nilV (.slice (some ⟨W2.heap.size, 0, none⟩) 2 2)) 29)) (W2.heap.size + 1) 29 (ndC (pbM 2) nilV nilV (.slice (some ⟨W2.heap.size, 0, none⟩) 2 2))) :=
    ⟨(bin_atM (n := 2) (by omega) HP2.out.x.tr (frM_at W2 a b HAB.out.1 HAB.out.2)).belo (bel1 _ _), Blk.newAt _ _ (by simp)⟩
  have HP3 := Box.mk ((HP2.out.next (bel1 W2 (.cells (kidC xd (.slice A1 xd.ms.length a1) (.slice A2 xd.bys.length a2) (.slice A3 xs.length a3) (frM a b) nilV nilV nilV) 29))).next (bel1 _ (.cells (ndC (pbM 2) nilV nilV (.slice (some ⟨W2.heap.size, 0, none⟩) 2 2)) 29)))
  go_upto_region 4 with (fail)
  clear k0 k1 k2 k3 k4 k5 k6 k7 k8 k9 k10 n0 n1 HP2 HNB
  generalize hgk : (.slice (some ⟨W2.heap.size, 0, none⟩) 2 2 : Value) = kv at *
  clear hgk
  show Code.wp _ _ _ _ ((W2.alloc (.cells (kidC xd (.slice A1 xd.ms.length a1) (.slice A2 xd.bys.length a2) (.slice A3 xs.length a3) (frM a b) nilV nilV nilV) 29)).alloc (.cells (ndC (pbM 2) nilV nilV kv) 29))
  generalize (W2.alloc (.cells (kidC xd (.slice A1 xd.ms.length a1) (.slice A2 xd.bys.length a2) (.slice A3 xs.length a3) (frM a b) nilV nilV nilV) 29)).alloc (.cells (ndC (pbM 2) nilV nilV kv) 29) = W4 at HP3 HYT ⊢
  generalize W2.heap.size + 1 = gy at *
  obtain ⟨k0, k1, k2, k3, k4, k5, k6, k7, k8, k9, k10⟩ := blk11z (d := xd) HP3.out.x.box
  go_wp2_with fail
  refine (prints_any (.node xd xs) AnyP _ (.slice A1 xd.ms.length a1, .slice A2 xd.bys.length a2, .slice A3 xs.length a3) HP3.out.x.tr (by have := HG.out.2; omega) (by have := HG.out.2; omega) (HW.out.below HP3.out.below)).mono ?_
  rintro e w5 ⟨rfl, hb⟩
  have HP := Box.mk (HP3.out.next hb)
  have HY2 : Box (TreeAt w5 AnyP (.node (pbM 2) [.node xd xs, .node (frM a b) []]) (nilV, nilV, kv) ∧ Blk w5 gy 29 (ndC (pbM 2) nilV nilV kv)) := ⟨HYT.out.1.belo hb, HYT.out.2.below hb⟩
  clear hb HP3 HYT k0 k1 k2 k3 k4 k5 k6 k7 k8 k9 k10
  obtain ⟨k0, k1, k2, k3, k4, k5, k6, k7, k8, k9, k10⟩ := blk11z HY2.out.2
  simp only [pbM] at k0 k1 k2 k3 k4 k5 k6 k7
  have hyn : nds (.node (pbM 2) [.node xd xs, .node (frM a b) []]) ≤ 20 := by have := HG.out.2; simp only [nds, ndsL] at this ⊢; omega
  have hyd : dep (.node (pbM 2) [.node xd xs, .node (frM a b) []]) ≤ 20 := by have := HG.out.2; simp only [dep, depL] at this ⊢; omega
  have HYN := Box.mk (And.intro hyn hyd)
  clear hyn hyd
  go_wp2_with fail
  refine (prints_any (.node (pbM 2) [.node xd xs, .node (frM a b) []]) AnyP _ (nilV, nilV, kv) HY2.out.1 (by have := HYN.out; omega) (by have := HYN.out; omega) (HW.out.below HP.out.below)).mono ?_
  rintro e w6 ⟨rfl, hb⟩
  have HP3 := Box.mk (HP.out.next hb)
  clear hb HP HY2 k0 k1 k2 k3 k4 k5 k6 k7 k8 k9 k10
  obtain ⟨k0, k1, k2, k3, k4, k5, k6, k7, k8, k9, k10⟩ := blk11z (d := xd) HP3.out.x.box
  go_wp2_with fail
  refine (spoilt_any changed_ok ns6 4096 wh v HI.out.2.1 HI.out.2.2.1 (.node xd xs) w.heap.size gx Lf at' _ (.slice A1 xd.ms.length a1, .slice A2 xd.bys.length a2, .slice A3 xs.length a3) HP3.out.tg HG.out.1 HP3.out.hH HI.out.1).mono ?_
  rintro e w7 ⟨t5, s5, rfl, ht5, hd5, hn5, hsp⟩
  obtain ⟨yd, ys⟩ := t5
  obtain ⟨q1, q2, q3⟩ := s5
  obtain ⟨C1, c1, rfl, -⟩ := ht5.nod.ms.form
  obtain ⟨C2, c2, rfl, -⟩ := ht5.nod.bys.form
  obtain ⟨C3, c3, rfl, -⟩ := ht5.nod.kform
  simp only [Tree.d]
  have HB7 : Box (Below w.heap.size w w7) := ⟨HP3.out.below.trans (hsp.below HP3.out.below.size)⟩
  have HT7 : Box (TreeAt w7 AnyP (.node yd ys) (.slice C1 yd.ms.length c1, .slice C2 yd.bys.length c2, .slice C3 ys.length c3)) := ⟨ht5.mono fun _ _ _ _ => trivial⟩
  have HYB := Box.mk (And.intro hd5 hn5)
  clear ht5 hd5 hn5 hsp HP3 k0 k1 k2 k3 k4 k5 k6 k7 k8 k9 k10
  go_wp2_with fail
  refine (prints_any (.node yd ys) AnyP _ (.slice C1 yd.ms.length c1, .slice C2 yd.bys.length c2, .slice C3 ys.length c3) HT7.out (by have := HG.out.2; have := HYB.out; omega) (by have := HG.out.2; have := HYB.out; omega) (HW.out.below HB7.out)).mono ?_
  rintro e w8 ⟨rfl, hb⟩
  have HB8 := Box.mk (bthen HB7.out hb (Nat.le_refl _))
  clear hb HT7 HB7
  go_wp2_with fail
  refine (prints_any (.node (frM nu de) []) AnyP _ (nilV, nilV, nilV) (frM_at _ nu de HI.out.2.2.2.1 HI.out.2.2.2.2) (by simp [nds, ndsL]) (by simp [dep, depL]) (HW.out.below HB8.out)).mono ?_
  rintro e w9 ⟨rfl, hb⟩
  have HB9 := Box.mk (bthen HB8.out hb (Nat.le_refl _))
  clear hb HB8
  go_wp2_with fail
  refine (lives_true _ (HW.out.below HB9.out)).mono ?_
  rintro e w10 ⟨rfl, hb⟩
  have hbf := bthen HB9.out hb (Nat.le_refl _)
  go_wp2_with fail
  go_ret
  exact ⟨rfl, hbf⟩
end
end Go.Proofs.YthoibeajhdhdhaaGreatDoor
