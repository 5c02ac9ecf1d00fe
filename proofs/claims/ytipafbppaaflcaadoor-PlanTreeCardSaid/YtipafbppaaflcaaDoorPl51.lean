/- Contracts, packed: Ai. -/
import Derived.Test.YtipafbppaaflcaaDoorPl49
import Derived.Test.YtipafbppaaflcaaDoorPl50
set_option linter.unusedVariables false
set_option linter.unusedSimpArgs false
namespace Go.Proofs.YtipafbppaaflcaaDoor
section
open Go.RowKit FracM
def nsAB : List ByteArray := [⟨#[97]⟩, ⟨#[98]⟩]
theorem nsAB_ok : NamesOk nsAB := by unfold NamesOk; decide +kernel
theorem make2_any (lv : Value) (l : List Int) (g : Nat) (w : World) (h1 : IntsP w lv l) (hb : Blk w g 9 #[.string ⟨#[97]⟩, .string ⟨#[98]⟩]) : Calls Tryd.prog 21 #[lv, .slice (some ⟨g, 0, none⟩) 2 2, .int .i64 4000] w (RetT2 nsAB 4000 w) :=
 make_any lv _ l nsAB 4000 w h1 (SeqP.of_blk (n := 2) (size := 1) hb rfl (by omega) hb.lt) nsAB_ok (by decide) (by decide) (by omega) (by omega)
theorem IntsP.belo2 {w W W' : World} {v : Value} {l : List Int} (h : IntsP w v l) (h1 : Below w.heap.size w W) (h2 : Below W.heap.size W W') : IntsP W' v l := IntsP.belo h (bthen h1 h2 (Nat.le_refl _))
structure RcT (w W : World) (ga : Nat) (ta : Tree) (sa : Sl) (gb : Nat) (tb : Tree) (sb : Sl) : Prop where
 below : Below w.heap.size w W
 a : TB W ga ta sa
 b : TB W gb tb sb
theorem RcT.next {w W W' : World} {ga gb : Nat} {ta tb : Tree} {sa sb : Sl} (h : RcT w W ga ta sa gb tb sb) (f : Below W.heap.size W W') : RcT w W' ga ta sa gb tb sb := ⟨bthen h.below f (Nat.le_refl _), h.a.next f, h.b.next f⟩
structure RpS (w W : World) (pv : Value) (pl : List Nd) (qv : Value) (ql : List Nd) (sv : Value) (sl : List Nd) (tv : Value) (tl : List Nd) : Prop where
 below : Below w.heap.size w W
 p : PlanP W AnyP pv pl
 q : PlanP W AnyP qv ql
 s : PlanP W AnyP sv sl
 t : PlanP W AnyP tv tl
theorem RpS.next {w W W' : World} {pv qv sv tv : Value} {pl ql sl tl : List Nd} (h : RpS w W pv pl qv ql sv sl tv tl) (f : Below W.heap.size W W') : RpS w W' pv pl qv ql sv sl tv tl := ⟨bthen h.below f (Nat.le_refl _), h.p.anyB f, h.q.anyB f, h.s.anyB f, h.t.anyB f⟩
theorem tree2_at {W : World} {g : Nat} {ad bd : Nd} {xs ys : List Tree} {a1 a2 a3 b1 b2 b3 : Value} (h : Blk W g 29 #[.int .i64 ad.kind, .int .i64 ad.fn, .int .i64 ad.win, .int .i64 ad.off, .int .i64 ad.k, .int .i64 ad.num, .int .i64 ad.den, .string ad.name, a1, a2, a3, .int .i64 bd.kind, .int .i64 bd.fn, .int .i64 bd.win, .int .i64 bd.off, .int .i64 bd.k, .int .i64 bd.num, .int .i64 bd.den, .string bd.name, b1, b2, b3])
  (ha : TreeAt W AnyP (.node ad xs) (a1, a2, a3)) (hb : TreeAt W AnyP (.node bd ys) (b1, b2, b3)) : TreeAt W AnyP (.node liveB [.node ad xs, .node bd ys]) (.slice none 0 0, .slice none 0 0, .slice (some ⟨g, 0, none⟩) 2 2) := by
 refine .mk liveB _ _ _ _ [(a1, a2, a3), (b1, b2, b3)] liveB_ok (SeqP.nil _ _ _) (SeqP.nil _ _ _) rfl ⟨rfl, some ⟨g, 0, none⟩, 2, rfl, Nat.le_refl _, by unfold maxLen; omega, fun _ => ⟨g, 0, rfl, h.lt, trivial, fun j u hu => ?_⟩⟩ fun i t c h1 h2 => ?_
 ·unfold Blk at h
  simp only [World.cell?, h, Nat.zero_add]
  rw [← Array.getElem?_toList]
  exact hu
 ·match i with
  | 0 => simp at h1 h2; subst h1 h2; exact ha
  | 1 => simp at h1 h2; subst h1 h2; exact hb
  | i + 2 => simp at h1
theorem goodN_sh {ns : List ByteArray} {most k : Int} {d : Nd} {n : Nat} (hk : 0 ≤ k) (h : GoodN ns most d n) : GoodN ns (most + k) (shN k d) n := by
 cases h with
 | num x hx => unfold shN; rw [if_neg (by simp)]; exact .num x hx
 | sel fn win off kk nm ms h1 h2 hn ho ho2 hw hk2 hl hm => unfold shN; rw [if_pos rfl]; exact .sel fn win (off + k) kk nm ms h1 h2 hn (by omega) (by omega) (by omega) hk2 hl hm
 | grp fn kk bys h1 h2 hk2 hb => unfold shN; rw [if_neg (by simp)]; exact .grp fn kk bys h1 h2 hk2 hb
 | bin fn h1 h2 => unfold shN; rw [if_neg (by simp)]; exact .bin fn h1 h2
theorem goodT_sh {ns : List ByteArray} {most k : Int} {t : Tree} (hk : 0 ≤ k) (h : GoodT ns most t) : GoodT ns (most + k) (shT k t) := by
 induction h with
 | mk d ks h hks ih =>
  rw [shT]
  refine .mk _ _ (by rw [shL_len]; exact goodN_sh hk h) fun t ht => ?_
  rw [shL_map] at ht
  obtain ⟨u, hu, rfl⟩ := List.mem_map.1 ht
  exact ih u hu
theorem goodN_off {ns : List ByteArray} {d : Nd} {n : Nat} (h : GoodN ns 4000 d n) : 0 ≤ d.off ∧ d.off ≤ 5000 := by
 cases h with
 | num x hx => exact ⟨by simp, by simp⟩
 | sel fn win off kk nm ms h1 h2 hn ho ho2 hw hk2 hl hm => exact ⟨ho, by simp only; omega⟩
 | grp fn kk bys h1 h2 hk2 hb => exact ⟨by simp, by simp⟩
 | bin fn h1 h2 => exact ⟨by simp, by simp⟩
theorem good_off {ns : List ByteArray} {t : Tree} (h : GoodT ns 4000 t) : ∀ d ∈ postT t, 0 ≤ d.off ∧ d.off ≤ 5000 := by
 induction h with
 | mk d ks h hks ih =>
  intro e he
  rw [postT, postL_flat] at he
  rcases List.mem_append.1 he with h1 | h1
  ·obtain ⟨u, hu, h2⟩ := List.mem_flatMap.1 h1
   exact ih u hu e h2
  ·simp only [List.mem_singleton] at h1
   subst h1
   exact goodN_off h
theorem nsel_app (a b : List Nd) : nselM (a ++ b) = nselM a + nselM b := by
 induction a with
 | nil => rw [List.nil_append, nselM, Nat.zero_add]
 | cons x r ih => rw [List.cons_append, nselM, nselM, ih]; omega
theorem nsel_le : ∀ (l : List Nd), nselM l ≤ l.length := by
 intro l
 induction l with
 | nil => simp [nselM]
 | cons x r ih => rw [nselM, List.length_cons]; split <;> omega
theorem nsel_take {l : List Nd} {i : Nat} {d : Nd} (hd : l[i]? = some d) : nselM (l.take (i + 1)) = if d.kind = 1 then nselM (l.take i) + 1 else nselM (l.take i) := by
 rw [show l.take (i + 1) = l.take i ++ [d] by rw [List.take_add_one, hd]; rfl, nsel_app, nselM, nselM]
 split <;> omega
mutual
theorem sh_nds (k : Int) : ∀ t, nds (shT k t) = nds t
 | .node d ks => by rw [shT, nds, nds, sh_ndsL k ks]
theorem sh_ndsL (k : Int) : ∀ l, ndsL (shL k l) = ndsL l
 | [] => by rw [shL]
 | t :: ts => by rw [shL, ndsL, ndsL, sh_nds k t, sh_ndsL k ts]
end
mutual
theorem sh_dep (k : Int) : ∀ t, dep (shT k t) = dep t
 | .node d ks => by rw [shT, dep, dep, sh_depL k ks]
theorem sh_depL (k : Int) : ∀ l, depL (shL k l) = depL l
 | [] => by rw [shL]
 | t :: ts => by rw [shL, depL, depL, sh_dep k t, sh_depL k ts]
end
set_option maxHeartbeats 16000000 in
set_option maxRecDepth 100000 in
theorem planReach_walk (AL : Option Addr) (nl cl : Nat) (ll : List Int) (AM : Option Addr) (nm cm : Nat) (lm : List Int) (by' at' how v : Int) (w : World) (hw : WordsV w) (h1 : Ints w w.heap.size (.slice AL nl cl) ll) (h2 : Ints w w.heap.size (.slice AM nm cm) lm)
  (b1 : -9223372036854775808 ≤ by') (b2 : by' ≤ 9223372036854775807) (c1 : -9223372036854775808 ≤ at') (c2 : at' ≤ 9223372036854775807) (d1 : -9223372036854775808 ≤ how) (d2 : how ≤ 9223372036854775807) (e1 : -9223372036854775808 ≤ v) (e2 : v ≤ 9223372036854775807) :
  Calls Tryd.prog 6 #[.slice AL nl cl, .slice AM nm cm, .int .i64 by', .int .i64 at', .int .i64 how, .int .i64 v] w fun e w' => e = .returned (.bool true) ∧ Below w.heap.size w w' := by
 have HW := Box.mk hw
 have HI := Box.mk (And.intro (And.intro b1 b2 : I64 by') (And.intro (And.intro c1 c2 : I64 at') (And.intro (And.intro d1 d2 : I64 how) (And.intro e1 e2 : I64 v))))
 have HL := Box.mk h1.toP
 have HM := Box.mk h2.toP
 obtain ⟨qk1, qk2⟩ := around_bd by' 51 (by omega)
 obtain ⟨kk, hkk⟩ : ∃ kk, around by' 51 = kk := ⟨_, rfl⟩
 have CKK : Box (∀ W : World, Calls Tryd.prog 17 #[.int .i64 by', .int .i64 51] W fun e w' => e = .returned (.int .i64 kk) ∧ W = w') := ⟨fun W => by rw [← hkk]; exact around_any by' 51 W b1 b2 (by omega) (by omega)⟩
 rw [hkk] at qk1 qk2
 clear hw h1 h2 hkk b1 b2 c1 c2 d1 d2 e1 e2
 have CM1 : Box (Calls Tryd.prog 21 #[.slice AL nl cl, .slice (some ⟨w.heap.size, 0, none⟩) 2 2, .int .i64 4000] (w.alloc (.cells #[.string ⟨#[97]⟩, .string ⟨#[98]⟩] 9)) (RetT2 nsAB 4000 (w.alloc (.cells #[.string ⟨#[97]⟩, .string ⟨#[98]⟩] 9)))) := ⟨make2_any _ _ _ _ (IntsP.belo HL.out (bel1 _ _)) (Blk.new _ _ _)⟩
 go_enter Tryd.func6, Tryd.ntmps6
 go_wp2_with fail
 with_reducible refine (CM1.out).mono ?_
 rintro e0 w1 ⟨t1, s1, rfl, hta, hga, hda, hna, hba⟩
 obtain ⟨xd, xs⟩ := t1
 obtain ⟨q1, q2, q3⟩ := s1
 obtain ⟨D1, n1, rfl, -⟩ := hta.form.1
 obtain ⟨D2, n2, rfl, -⟩ := hta.form.2.1
 obtain ⟨D3, n3, rfl, -⟩ := hta.form.2.2
 simp only [Tree.d]
 have HGA := Box.mk (And.intro hga (And.intro hda hna))
 have HTA : Box (TreeAt w1 AnyP (.node xd xs) (.slice D1 xd.ms.length n1, .slice D2 xd.bys.length n2, .slice D3 xs.length n3)) := ⟨by obtain ⟨Lf, h⟩ := hta; exact h.tree.mono fun _ _ _ _ => trivial⟩
 have H1 : Box (Below w.heap.size w (w1.alloc (.cells (ndC xd (.slice D1 xd.ms.length n1) (.slice D2 xd.bys.length n2) (.slice D3 xs.length n3)) 29)) ∧ TB (w1.alloc (.cells (ndC xd (.slice D1 xd.ms.length n1) (.slice D2 xd.bys.length n2) (.slice D3 xs.length n3)) 29)) w1.heap.size (.node xd xs) (.slice D1 xd.ms.length n1, .slice D2 xd.bys.length n2, .slice D3 xs.length n3)) := ⟨bthen (bthen (bel1 w _) hba (Nat.le_refl _)) (bel1 _ _) (Nat.le_refl _), TB.new HTA.out⟩
 clear hta hga hda hna hba HTA CM1
 go_upto_region 2 with (fail)
 obtain ⟨ga, hga⟩ : ∃ g, w1.heap.size = g := ⟨_, rfl⟩
 rw [hga] at H1 ⊢
 clear hga
 generalize w1.alloc (.cells (ndC xd (.slice D1 xd.ms.length n1) (.slice D2 xd.bys.length n2) (.slice D3 xs.length n3)) 29) = W1 at H1 ⊢
 have CM2 : Box (Calls Tryd.prog 21 #[.slice AM nm cm, .slice (some ⟨W1.heap.size, 0, none⟩) 2 2, .int .i64 4000] (W1.alloc (.cells #[.string ⟨#[97]⟩, .string ⟨#[98]⟩] 9)) (RetT2 nsAB 4000 (W1.alloc (.cells #[.string ⟨#[97]⟩, .string ⟨#[98]⟩] 9)))) := ⟨make2_any _ _ _ _ (IntsP.belo2 HM.out H1.out.1 (bel1 _ _)) (Blk.new _ _ _)⟩
 go_wp2_with fail
 with_reducible refine (CM2.out).mono ?_
 rintro e0 w2 ⟨t1, s1, rfl, htb, hgb, hdb, hnb, hbb⟩
 obtain ⟨yd, ys⟩ := t1
 obtain ⟨q1, q2, q3⟩ := s1
 obtain ⟨B1, m1, rfl, -⟩ := htb.form.1
 obtain ⟨B2, m2, rfl, -⟩ := htb.form.2.1
 obtain ⟨B3, m3, rfl, -⟩ := htb.form.2.2
 simp only [Tree.d]
 have HGB := Box.mk (And.intro hgb (And.intro hdb hnb))
 have HTB : Box (TreeAt w2 AnyP (.node yd ys) (.slice B1 yd.ms.length m1, .slice B2 yd.bys.length m2, .slice B3 ys.length m3)) := ⟨by obtain ⟨Lf, h⟩ := htb; exact h.tree.mono fun _ _ _ _ => trivial⟩
 have H2 : Box (RcT w (w2.alloc (.cells (ndC yd (.slice B1 yd.ms.length m1) (.slice B2 yd.bys.length m2) (.slice B3 ys.length m3)) 29)) ga (.node xd xs) (.slice D1 xd.ms.length n1, .slice D2 xd.bys.length n2, .slice D3 xs.length n3) w2.heap.size (.node yd ys) (.slice B1 yd.ms.length m1, .slice B2 yd.bys.length m2, .slice B3 ys.length m3)) := ⟨bthen (bthen (bthen H1.out.1 (bel1 W1 _) (Nat.le_refl _)) hbb (Nat.le_refl _)) (bel1 _ _) (Nat.le_refl _), ((H1.out.2.next (bel1 W1 _)).next hbb).next (bel1 _ _), TB.new HTB.out⟩
 clear htb hgb hdb hnb hbb HTB CM2 H1 HL HM
 go_upto_region 3 with (fail)
 obtain ⟨gb, hgb⟩ : ∃ g, w2.heap.size = g := ⟨_, rfl⟩
 rw [hgb] at H2 ⊢
 clear hgb
 generalize w2.alloc (.cells (ndC yd (.slice B1 yd.ms.length m1) (.slice B2 yd.bys.length m2) (.slice B3 ys.length m3)) 29) = W2 at H2 ⊢
 have HVA : Box (validE (.node xd xs) = 0) := ⟨good_valid nsAB_ok (by omega) HGA.out.1 (by have := HGA.out.2; omega) (by have := HGA.out.2; omega)⟩
 have HVB : Box (validE (.node yd ys) = 0) := ⟨good_valid nsAB_ok (by omega) HGB.out.1 (by have := HGB.out.2; omega) (by have := HGB.out.2; omega)⟩
 obtain ⟨pl, hpl⟩ : ∃ l, postT (.node xd xs) = l := ⟨_, rfl⟩
 obtain ⟨ql, hql⟩ : ∃ l, postT (.node yd ys) = l := ⟨_, rfl⟩
 have HPL := Box.mk hpl
 have HQL := Box.mk hql
 have HPS : Box (∀ d ∈ pl, SmallD d) := ⟨by rw [← hpl]; exact small_post HVA.out⟩
 have HQS : Box (∀ d ∈ ql, SmallD d) := ⟨by rw [← hql]; exact small_post HVB.out⟩
 have HPN : Box (pl.length ≤ 200) := ⟨by rw [← hpl]; exact (postT_small HVA.out).1⟩
 have CA : Box (∀ W : World, TreeAt W AnyP (.node xd xs) (.slice D1 xd.ms.length n1, .slice D2 xd.bys.length n2, .slice D3 xs.length n3) → WordsG W → Calls Tryd.prog 22 #[.agg (ndC xd (.slice D1 xd.ms.length n1) (.slice D2 xd.bys.length n2) (.slice D3 xs.length n3))] W (RetPlF (pl, 0) W)) := ⟨fun W h g => by rw [← hpl, ← compileM_ok HVA.out]; exact pcompile_any (.node xd xs) _ W (.slice D1 xd.ms.length n1, .slice D2 xd.bys.length n2, .slice D3 xs.length n3) h g⟩
 have CB : Box (∀ W : World, TreeAt W AnyP (.node yd ys) (.slice B1 yd.ms.length m1, .slice B2 yd.bys.length m2, .slice B3 ys.length m3) → WordsG W → Calls Tryd.prog 22 #[.agg (ndC yd (.slice B1 yd.ms.length m1) (.slice B2 yd.bys.length m2) (.slice B3 ys.length m3))] W (RetPlF (ql, 0) W)) := ⟨fun W h g => by rw [← hql, ← compileM_ok HVB.out]; exact pcompile_any (.node yd ys) _ W (.slice B1 yd.ms.length m1, .slice B2 yd.bys.length m2, .slice B3 ys.length m3) h g⟩
 clear hpl hql
 obtain ⟨k0, k1, k2, k3, k4, k5, k6, k7, k8, k9, k10⟩ := blk11z (d := xd) H2.out.a.box
 go_wp2_with fail
 with_reducible refine (CA.out _ H2.out.a.tr (wordsV_g (HW.out.below H2.out.below))).mono ?_
 rintro e3 w3 ⟨pv, rfl, hp3, hb3⟩
 obtain ⟨PA, pc, rfl⟩ := hp3.form
 have H3 : Box (RcT w w3 ga (.node xd xs) (.slice D1 xd.ms.length n1, .slice D2 xd.bys.length n2, .slice D3 xs.length n3) gb (.node yd ys) (.slice B1 yd.ms.length m1, .slice B2 yd.bys.length m2, .slice B3 ys.length m3) ∧ PlanP w3 AnyP (.slice PA pl.length pc) pl) := ⟨H2.out.next hb3, hp3.any⟩
 clear k0 k1 k2 k3 k4 k5 k6 k7 k8 k9 k10
 clear hp3 hb3 H2 CA
 obtain ⟨k0, k1, k2, k3, k4, k5, k6, k7, k8, k9, k10⟩ := blk11z (d := yd) H3.out.1.b.box
 go_wp2_with fail
 with_reducible refine (CB.out _ H3.out.1.b.tr (wordsV_g (HW.out.below H3.out.1.below))).mono ?_
 rintro e4 w4 ⟨qv, rfl, hp4, hb4⟩
 obtain ⟨QA, qc, rfl⟩ := hp4.form
 have H4 : Box (RcT w w4 ga (.node xd xs) (.slice D1 xd.ms.length n1, .slice D2 xd.bys.length n2, .slice D3 xs.length n3) gb (.node yd ys) (.slice B1 yd.ms.length m1, .slice B2 yd.bys.length m2, .slice B3 ys.length m3) ∧ PlanP w4 AnyP (.slice PA pl.length pc) pl ∧ PlanP w4 AnyP (.slice QA ql.length qc) ql) := ⟨H3.out.1.next hb4, H3.out.2.anyB hb4, hp4.any⟩
 clear k0 k1 k2 k3 k4 k5 k6 k7 k8 k9 k10
 clear hp4 hb4 H3 CB
 obtain ⟨k0, k1, k2, k3, k4, k5, k6, k7, k8, k9, k10⟩ := blk11z (d := xd) H4.out.1.a.box
 obtain ⟨j0, j1, j2, j3, j4, j5, j6, j7, j8, j9, j10⟩ := blk11z (d := yd) H4.out.1.b.box
 have HVS : Box (validE (.node liveB [(.node xd xs), (.node yd ys)]) = 0) := ⟨good_valid (most := 4000) nsAB_ok (by omega) (.mk _ _ (.bin 0 (by omega) (by omega)) (fun t ht => by simp at ht; rcases ht with rfl | rfl; exact HGA.out.1; exact HGB.out.1)) (by have := HGA.out.2; have := HGB.out.2; rw [dep, depL, depL, depL]; omega) (by have := HGA.out.2; have := HGB.out.2; rw [nds, ndsL, ndsL, ndsL]; omega)⟩
 have HSL : Box (postT (.node liveB [(.node xd xs), (.node yd ys)]) = pl ++ (ql ++ [liveB])) := ⟨by rw [postT, postL, postL, postL, HPL.out, HQL.out]; simp⟩
 have H5 : Box (Below w4.heap.size w4 (w4.alloc (.cells #[.int .i64 xd.kind, .int .i64 xd.fn, .int .i64 xd.win, .int .i64 xd.off, .int .i64 xd.k, .int .i64 xd.num, .int .i64 xd.den, .string xd.name, .slice D1 xd.ms.length n1, .slice D2 xd.bys.length n2, .slice D3 xs.length n3, .int .i64 yd.kind, .int .i64 yd.fn, .int .i64 yd.win, .int .i64 yd.off, .int .i64 yd.k, .int .i64 yd.num, .int .i64 yd.den, .string yd.name, .slice B1 yd.ms.length m1, .slice B2 yd.bys.length m2, .slice B3 ys.length m3] 29)) ∧ TreeAt (w4.alloc (.cells #[.int .i64 xd.kind, .int .i64 xd.fn, .int .i64 xd.win, .int .i64 xd.off, .int .i64 xd.k, .int .i64 xd.num, .int .i64 xd.den, .string xd.name, .slice D1 xd.ms.length n1, .slice D2 xd.bys.length n2, .slice D3 xs.length n3, .int .i64 yd.kind, .int .i64 yd.fn, .int .i64 yd.win, .int .i64 yd.off, .int .i64 yd.k, .int .i64 yd.num, .int .i64 yd.den, .string yd.name, .slice B1 yd.ms.length m1, .slice B2 yd.bys.length m2, .slice B3 ys.length m3] 29)) AnyP (.node liveB [(.node xd xs), (.node yd ys)]) (.slice none 0 0, .slice none 0 0, .slice (some ⟨w4.heap.size, 0, none⟩) 2 2)) := ⟨bel1 _ _, tree2_at (Blk.new w4 _ _) (H4.out.1.a.next (bel1 _ _)).tr (H4.out.1.b.next (bel1 _ _)).tr⟩
 obtain ⟨sl, hsl⟩ : ∃ l, pl ++ (ql ++ [liveB]) = l := ⟨_, rfl⟩
 rw [hsl] at HSL
 have HSL2 := Box.mk hsl
 clear hsl
 have HSS : Box (∀ d ∈ sl, SmallD d) := ⟨by rw [← HSL.out]; exact small_post HVS.out⟩
 have CS : Box (Calls Tryd.prog 22 #[.agg (ndC liveB (.slice none 0 0) (.slice none 0 0) (.slice (some ⟨w4.heap.size, 0, none⟩) 2 2))] (w4.alloc (.cells #[.int .i64 xd.kind, .int .i64 xd.fn, .int .i64 xd.win, .int .i64 xd.off, .int .i64 xd.k, .int .i64 xd.num, .int .i64 xd.den, .string xd.name, .slice D1 xd.ms.length n1, .slice D2 xd.bys.length n2, .slice D3 xs.length n3, .int .i64 yd.kind, .int .i64 yd.fn, .int .i64 yd.win, .int .i64 yd.off, .int .i64 yd.k, .int .i64 yd.num, .int .i64 yd.den, .string yd.name, .slice B1 yd.ms.length m1, .slice B2 yd.bys.length m2, .slice B3 ys.length m3] 29)) (RetPlF (sl, 0) (w4.alloc (.cells #[.int .i64 xd.kind, .int .i64 xd.fn, .int .i64 xd.win, .int .i64 xd.off, .int .i64 xd.k, .int .i64 xd.num, .int .i64 xd.den, .string xd.name, .slice D1 xd.ms.length n1, .slice D2 xd.bys.length n2, .slice D3 xs.length n3, .int .i64 yd.kind, .int .i64 yd.fn, .int .i64 yd.win, .int .i64 yd.off, .int .i64 yd.k, .int .i64 yd.num, .int .i64 yd.den, .string yd.name, .slice B1 yd.ms.length m1, .slice B2 yd.bys.length m2, .slice B3 ys.length m3] 29)))) := ⟨by rw [← HSL.out, ← compileM_ok HVS.out]; exact pcompile_any (.node liveB [(.node xd xs), (.node yd ys)]) _ _ (.slice none 0 0, .slice none 0 0, .slice (some ⟨w4.heap.size, 0, none⟩) 2 2) H5.out.2 (wordsV_g (HW.out.below (bthen H4.out.1.below H5.out.1 (Nat.le_refl _))))⟩
 go_wp2_with fail
 refine (CS.out).mono ?_
 rintro e6 w6 ⟨sv, rfl, hp6, hb6⟩
 obtain ⟨SA, sc, rfl⟩ := hp6.form
 have hb46 : Below w4.heap.size w4 w6 := bthen H5.out.1 hb6 (Nat.le_refl _)
 have H6 : Box (RcT w w6 ga (.node xd xs) (.slice D1 xd.ms.length n1, .slice D2 xd.bys.length n2, .slice D3 xs.length n3) gb (.node yd ys) (.slice B1 yd.ms.length m1, .slice B2 yd.bys.length m2, .slice B3 ys.length m3) ∧ PlanP w6 AnyP (.slice PA pl.length pc) pl ∧ PlanP w6 AnyP (.slice QA ql.length qc) ql ∧ PlanP w6 AnyP (.slice SA sl.length sc) sl) := ⟨H4.out.1.next hb46, H4.out.2.1.anyB hb46, H4.out.2.2.anyB hb46, hp6.any⟩
 clear k0 k1 k2 k3 k4 k5 k6 k7 k8 k9 k10
 clear j0 j1 j2 j3 j4 j5 j6 j7 j8 j9 j10
 clear hp6 hb6 hb46 H4 H5 CS
 obtain ⟨k0, k1, k2, k3, k4, k5, k6, k7, k8, k9, k10⟩ := blk11z (d := xd) H6.out.1.a.box
 have CSH : Box (Calls Tryd.prog 23 #[.agg (ndC xd (.slice D1 xd.ms.length n1) (.slice D2 xd.bys.length n2) (.slice D3 xs.length n3)), .int .i64 kk] w6 (RetSh (fun b => b < w6.heap.size) (shT kk (.node xd xs)) w6)) := ⟨rshifted_any kk qk1 (by omega) (.node xd xs) (fun b => b < w6.heap.size) w6 (.slice D1 xd.ms.length n1, .slice D2 xd.bys.length n2, .slice D3 xs.length n3) (fun b h => h) H6.out.1.a.tr.low (by have := HGA.out.2; omega) (good_off HGA.out.1)⟩
 go_wp2_with (go_at_call 17; (with_reducible refine (CKK.out _).mono ?_); rintro e7 w7 ⟨rfl, rfl⟩)
 refine (CSH.out).mono ?_
 rintro e7 w7 ⟨mv7, bv7, kv7, rfl, hT7, hb7⟩
 have HVT : Box (validE (shT kk (.node xd xs)) = 0) := ⟨good_valid (most := 4000 + kk) nsAB_ok (by omega) (goodT_sh (k := kk) qk1 HGA.out.1) (by rw [sh_dep]; have := HGA.out.2; omega) (by rw [sh_nds]; have := HGA.out.2; omega)⟩
 have HTL : Box (postT (shT kk (.node xd xs)) = pl.map (shN kk)) := ⟨by rw [post_sh, HPL.out]⟩
 obtain ⟨td, ts, htt⟩ : ∃ td ts, shT kk (.node xd xs) = .node td ts := ⟨_, _, by rw [shT]⟩
 rw [htt] at HVT HTL hT7 ⊢
 clear htt
 obtain ⟨E1, p1, rfl, -⟩ := hT7.nod.ms.form
 obtain ⟨E2, p2, rfl, -⟩ := hT7.nod.bys.form
 obtain ⟨E3, p3, rfl, -⟩ := hT7.nod.kform
 simp only [Tree.d]
 obtain ⟨tl, htl⟩ : ∃ l, pl.map (shN kk) = l := ⟨_, rfl⟩
 rw [htl] at HTL
 have HTL2 := Box.mk htl
 clear htl
 have HTS : Box (∀ d ∈ tl, SmallD d) := ⟨by rw [← HTL.out]; exact small_post HVT.out⟩
 have H7 : Box (RcT w w7 ga (.node xd xs) (.slice D1 xd.ms.length n1, .slice D2 xd.bys.length n2, .slice D3 xs.length n3) gb (.node yd ys) (.slice B1 yd.ms.length m1, .slice B2 yd.bys.length m2, .slice B3 ys.length m3) ∧ PlanP w7 AnyP (.slice PA pl.length pc) pl ∧ PlanP w7 AnyP (.slice QA ql.length qc) ql ∧ PlanP w7 AnyP (.slice SA sl.length sc) sl) := ⟨H6.out.1.next hb7, H6.out.2.1.anyB hb7, H6.out.2.2.1.anyB hb7, H6.out.2.2.2.anyB hb7⟩
 have CT : Box (Calls Tryd.prog 22 #[.agg (ndC td (.slice E1 td.ms.length p1) (.slice E2 td.bys.length p2) (.slice E3 ts.length p3))] w7 (RetPlF (tl, 0) w7)) := ⟨by rw [← HTL.out, ← compileM_ok HVT.out]; exact pcompile_any (.node td ts) _ w7 (.slice E1 td.ms.length p1, .slice E2 td.bys.length p2, .slice E3 ts.length p3) hT7 (wordsV_g (HW.out.below H7.out.1.below))⟩
 clear k0 k1 k2 k3 k4 k5 k6 k7 k8 k9 k10
 clear hT7 hb7 H6 CSH CKK
 go_wp2_with fail
 refine (CT.out).mono ?_
 rintro e8 w8 ⟨tv, rfl, hp8, hb8⟩
 obtain ⟨TA', tc, rfl⟩ := hp8.form
 have H8 : Box (RpS w w8 (.slice PA pl.length pc) pl (.slice QA ql.length qc) ql (.slice SA sl.length sc) sl (.slice TA' tl.length tc) tl) := ⟨bthen H7.out.1.below hb8 (Nat.le_refl _), H7.out.2.1.anyB hb8, H7.out.2.2.1.anyB hb8, H7.out.2.2.2.anyB hb8, hp8.any⟩
 clear hp8 hb8 H7 CT
 have CC : Box (Calls Tryd.prog 15 #[.slice PA pl.length pc, .int .i64 at', .int .i64 how, .int .i64 v] w8 (RetCh pl w8)) := ⟨rchanged_any pl _ at' how v w8 H8.out.p HPS.out (by have := HPN.out; omega) HI.out.2.1 HI.out.2.2.1 HI.out.2.2.2⟩
 go_wp2_with fail
 refine (CC.out).mono ?_
 rintro e9 w9 ⟨cm', cv, rfl, hp9, hcl9, hcs9, hb9⟩
 obtain ⟨CA', cc', rfl⟩ := hp9.form
 have H9 : Box (RpS w w9 (.slice PA pl.length pc) pl (.slice QA ql.length qc) ql (.slice SA sl.length sc) sl (.slice TA' tl.length tc) tl ∧ PlanP w9 AnyP (.slice CA' cm'.length cc') cm') := ⟨H8.out.next hb9, hp9.any⟩
 have HCS := Box.mk hcs9
 clear hp9 hb9 H8 CC hcs9 hcl9
 have HTP : Box ((treeM pl).2 = 0) := ⟨by rw [← HPL.out, tree_post HVA.out]⟩
 have HTQ : Box ((treeM ql).2 = 0) := ⟨by rw [← HQL.out, tree_post HVB.out]⟩
 have HTSM : Box ((treeM sl).2 = 0) := ⟨by rw [← HSL.out, tree_post HVS.out]⟩
 have HTT : Box ((treeM tl).2 = 0) := ⟨by rw [← HTL.out, tree_post HVT.out]⟩
 have HLP : Box (reachM pl = reachL 0 pl) := ⟨if_pos HTP.out⟩
 have HLQ : Box (reachM ql = reachL 0 ql) := ⟨if_pos HTQ.out⟩
 have HLS : Box (reachM sl = reachL 0 sl) := ⟨if_pos HTSM.out⟩
 have HLT : Box (reachM tl = reachL 0 tl) := ⟨if_pos HTT.out⟩
 have HSUM : Box (reachM sl = min (reachM pl) (reachM ql)) := ⟨by rw [HLS.out, HLP.out, HLQ.out, ← HSL2.out]; exact reach_sum pl ql liveB (by decide)⟩
 obtain ⟨rb1, rb2⟩ := reach_bd pl 0 (plan_rng HTP.out) (by omega) (by omega)
 rw [← HLP.out] at rb1 rb2
 obtain ⟨rp, hrp⟩ : ∃ r, reachM pl = r := ⟨_, rfl⟩
 obtain ⟨rq, hrq⟩ : ∃ r, reachM ql = r := ⟨_, rfl⟩
 obtain ⟨rc, hrc⟩ : ∃ r, reachM cm' = r := ⟨_, rfl⟩
 rw [hrp, hrq] at HSUM
 rw [hrp] at rb1 rb2 HLP
 obtain ⟨mn, hmn⟩ : ∃ m, min rp rq = m := ⟨_, rfl⟩
 rw [hmn] at HSUM
 have HRS := HSUM
 have HRP := Box.mk hrp
 have HRQ := Box.mk hrq
 have HRC := Box.mk hrc
 clear hrp hrq hrc
 have hn1 : (rp != rp) = false := by simp
 have hn2 : (rc != rc) = false := by simp
 have hn3 : (mn != mn) = false := by simp
 have hlen := HPN.out
 have C9 : Box (Calls Tryd.prog 24 #[.slice PA pl.length pc] w9 (RetB (.int .i64 rp) w9)) := ⟨by rw [← HRP.out]; exact preach_any pl _ w9 H9.out.1.p HPS.out (wordsV_g (HW.out.below H9.out.1.below))⟩
 go_wp2_with fail
 refine (C9.out).mono ?_
 rintro e10 w10 ⟨rfl, hb10⟩
 have H10 : Box (RpS w w10 (.slice PA pl.length pc) pl (.slice QA ql.length qc) ql (.slice SA sl.length sc) sl (.slice TA' tl.length tc) tl ∧ PlanP w10 AnyP (.slice CA' cm'.length cc') cm') := ⟨H9.out.1.next hb10, H9.out.2.anyB hb10⟩
 clear hb10 C9 H9
 have C10 : Box (Calls Tryd.prog 25 #[.slice PA pl.length pc] w10 (RetB (.int .i64 rp) w10)) := ⟨by rw [← HRP.out]; exact rreach_any pl _ w10 H10.out.1.p⟩
 go_wp2_with fail
 refine (C10.out).mono ?_
 rintro e11 w11 ⟨rfl, hb11⟩
 have H11 : Box (RpS w w11 (.slice PA pl.length pc) pl (.slice QA ql.length qc) ql (.slice SA sl.length sc) sl (.slice TA' tl.length tc) tl ∧ PlanP w11 AnyP (.slice CA' cm'.length cc') cm') := ⟨H10.out.1.next hb11, H10.out.2.anyB hb11⟩
 clear hb11 C10 H10
 have C11 : Box (Calls Tryd.prog 24 #[.slice CA' cm'.length cc'] w11 (RetB (.int .i64 rc) w11)) := ⟨by rw [← HRC.out]; exact preach_any cm' _ w11 H11.out.2 HCS.out (wordsV_g (HW.out.below H11.out.1.below))⟩
 go_wp2_with fail
 refine (C11.out).mono ?_
 rintro e12 w12 ⟨rfl, hb12⟩
 have H12 : Box (RpS w w12 (.slice PA pl.length pc) pl (.slice QA ql.length qc) ql (.slice SA sl.length sc) sl (.slice TA' tl.length tc) tl ∧ PlanP w12 AnyP (.slice CA' cm'.length cc') cm') := ⟨H11.out.1.next hb12, H11.out.2.anyB hb12⟩
 clear hb12 C11 H11
 have C12 : Box (Calls Tryd.prog 25 #[.slice CA' cm'.length cc'] w12 (RetB (.int .i64 rc) w12)) := ⟨by rw [← HRC.out]; exact rreach_any cm' _ w12 H12.out.2⟩
 go_wp2_with fail
 refine (C12.out).mono ?_
 rintro e13 w13 ⟨rfl, hb13⟩
 have H13 : Box (RpS w w13 (.slice PA pl.length pc) pl (.slice QA ql.length qc) ql (.slice SA sl.length sc) sl (.slice TA' tl.length tc) tl ∧ PlanP w13 AnyP (.slice CA' cm'.length cc') cm') := ⟨H12.out.1.next hb13, H12.out.2.anyB hb13⟩
 clear hb13 C12 H12
 have C13 : Box (Calls Tryd.prog 24 #[.slice SA sl.length sc] w13 (RetB (.int .i64 mn) w13)) := ⟨by rw [← HRS.out]; exact preach_any sl _ w13 H13.out.1.s HSS.out (wordsV_g (HW.out.below H13.out.1.below))⟩
 go_wp2_with fail
 refine (C13.out).mono ?_
 rintro e14 w14 ⟨rfl, hb14⟩
 have H14 : Box (RpS w w14 (.slice PA pl.length pc) pl (.slice QA ql.length qc) ql (.slice SA sl.length sc) sl (.slice TA' tl.length tc) tl ∧ PlanP w14 AnyP (.slice CA' cm'.length cc') cm') := ⟨H13.out.1.next hb14, H13.out.2.anyB hb14⟩
 clear hb14 C13 H13
 have C14 : Box (Calls Tryd.prog 24 #[.slice PA pl.length pc] w14 (RetB (.int .i64 rp) w14)) := ⟨by rw [← HRP.out]; exact preach_any pl _ w14 H14.out.1.p HPS.out (wordsV_g (HW.out.below H14.out.1.below))⟩
 go_wp2_with fail
 refine (C14.out).mono ?_
 rintro e15 w15 ⟨rfl, hb15⟩
 have H15 : Box (RpS w w15 (.slice PA pl.length pc) pl (.slice QA ql.length qc) ql (.slice SA sl.length sc) sl (.slice TA' tl.length tc) tl ∧ PlanP w15 AnyP (.slice CA' cm'.length cc') cm') := ⟨H14.out.1.next hb15, H14.out.2.anyB hb15⟩
 clear hb15 C14 H14
 have C15 : Box (Calls Tryd.prog 24 #[.slice QA ql.length qc] w15 (RetB (.int .i64 rq) w15)) := ⟨by rw [← HRQ.out]; exact preach_any ql _ w15 H15.out.1.q HQS.out (wordsV_g (HW.out.below H15.out.1.below))⟩
 go_wp2_with fail
 refine (C15.out).mono ?_
 rintro e16 w16 ⟨rfl, hb16⟩
 have H16 : Box (RpS w w16 (.slice PA pl.length pc) pl (.slice QA ql.length qc) ql (.slice SA sl.length sc) sl (.slice TA' tl.length tc) tl ∧ PlanP w16 AnyP (.slice CA' cm'.length cc') cm') := ⟨H15.out.1.next hb16, H15.out.2.anyB hb16⟩
 clear hb16 C15 H15
 have HNB : Box (nselM pl ≤ pl.length) := ⟨nsel_le pl⟩
 obtain ⟨pb, po, hPA⟩ : ∃ pb po, PA = some ⟨pb, po, none⟩ := by
  obtain ⟨b, off, mv, bv, h, -⟩ := H16.out.1.p.at_ 0 _ (List.getElem?_eq_getElem (by rw [← HPL.out]; exact postT_pos _))
  exact ⟨b, off, h⟩
 subst hPA
 go_wp2_with fail
 clear hn1 hn2 hn3 hmn
 go_loop [25, 26] (fun s v => ∃ i : Nat, i ≤ pl.length ∧ v = .int .i64 (i : Nat) ∧ s = .int .i64 ((nselM (pl.take i) : Nat) : Int)) (fun _ v => pl.length - (intOf v).toNat)
 case atStart => exact ⟨0, by omega, rfl, rfl⟩
 case round =>
  obtain ⟨i, hil, rfl, rfl⟩ := hrel
  by_cases hlt : i < pl.length
  ·obtain ⟨d, hd⟩ : ∃ d, pl[i]? = some d := ⟨pl[i], List.getElem?_eq_getElem _⟩
   have HT1 := Box.mk (nsel_take hd)
   have hnb := nsel_le (pl.take i)
   rw [List.length_take] at hnb
   obtain ⟨b', off', mv, bv, hA, -, -, ⟨k0, -⟩, -⟩ := H16.out.1.p.at_ i d hd
   cases hA
   obtain ⟨s, hs⟩ : ∃ s, nselM (pl.take i) = s := ⟨_, rfl⟩
   rw [hs] at HT1 hnb ⊢
   have hlt2 : (i : Int) < (pl.length : Int) := by omega
   have hi0 : (0 : Int) ≤ (i : Int) := by omega
   have hs2 : s ≤ 200 := by omega
   clear hd hs hnb
   by_cases hk : d.kind = 1
   ·have e1 : (d.kind == 1) = true := by simp [hk]
    rw [if_pos hk] at HT1
    clear hk
    go_wp2_with fail
    go_round
    case rel => exact ⟨i + 1, by omega, by go_num, by rw [HT1.out]; go_num⟩
    case measure => simp [intOf]; omega
   ·have e1 : (d.kind == 1) = false := by simpa using hk
    rw [if_neg hk] at HT1
    clear hk
    go_wp2_with fail
    go_round
    case rel => exact ⟨i + 1, by omega, by go_num, by rw [HT1.out]⟩
    case measure => simp [intOf]; omega
  ·have hlt2 : ¬ (i : Int) < (pl.length : Int) := by omega
   have hie : i = pl.length := by omega
   subst hie
   rw [List.take_length]
   by_cases hs0 : nselM pl = 0
   ·have HRT : Box (reachM tl = 0) := ⟨by rw [HLT.out, ← HTL2.out]; exact reach_none _ _ (by rw [nselM_map]; exact hs0)⟩
    rw [hs0]
    have C16 : Box (Calls Tryd.prog 24 #[.slice TA' tl.length tc] w16 (RetB (.int .i64 0) w16)) := ⟨by rw [← HRT.out]; exact preach_any tl _ w16 H16.out.1.t HTS.out (wordsV_g (HW.out.below H16.out.1.below))⟩
    go_wp2_with fail
    refine (C16.out).mono ?_
    rintro e17 w17 ⟨rfl, hb17⟩
    have H17 : Box (RpS w w17 (.slice (some ⟨pb, po, none⟩) pl.length pc) pl (.slice QA ql.length qc) ql (.slice SA sl.length sc) sl (.slice TA' tl.length tc) tl ∧ PlanP w17 AnyP (.slice CA' cm'.length cc') cm') := ⟨H16.out.1.next hb17, H16.out.2.anyB hb17⟩
    clear hb17 C16 H16
    go_wp2_with fail
    refine (plives_true w17 (HW.out.below H17.out.1.below)).mono ?_
    rintro eL wL ⟨rfl, hbL⟩
    have HBL : Box (Below w.heap.size w wL) := ⟨bthen H17.out.1.below hbL (Nat.le_refl _)⟩
    clear hbL
    go_wp2_with fail
    go_ret
    exact ⟨rfl, HBL.out⟩
   ·have HRT : Box (reachM tl = rp - kk) := ⟨by rw [HLT.out, ← HTL2.out, reach_off qk1 pl (plan_rng HTP.out) (by omega), ← HLP.out]⟩
    obtain ⟨s, hs⟩ : ∃ s, nselM pl = s := ⟨_, rfl⟩
    rw [hs] at hs0 ⊢
    have hs1 : ((s : Int) == 0) = false := by simpa using hs0
    have hs2 : (0 : Int) < (s : Int) := by omega
    have hs3 : (s == 0) = false := by simpa using hs0
    clear hs hs0
    have C16 : Box (Calls Tryd.prog 24 #[.slice TA' tl.length tc] w16 (RetB (.int .i64 (rp - kk)) w16)) := ⟨by rw [← HRT.out]; exact preach_any tl _ w16 H16.out.1.t HTS.out (wordsV_g (HW.out.below H16.out.1.below))⟩
    go_wp2_with fail
    refine (C16.out).mono ?_
    rintro e17 w17 ⟨rfl, hb17⟩
    have H17 : Box (RpS w w17 (.slice (some ⟨pb, po, none⟩) pl.length pc) pl (.slice QA ql.length qc) ql (.slice SA sl.length sc) sl (.slice TA' tl.length tc) tl ∧ PlanP w17 AnyP (.slice CA' cm'.length cc') cm') := ⟨H16.out.1.next hb17, H16.out.2.anyB hb17⟩
    clear hb17 C16 H16
    have C17 : Box (Calls Tryd.prog 24 #[.slice (some ⟨pb, po, none⟩) pl.length pc] w17 (RetB (.int .i64 rp) w17)) := ⟨by rw [← HRP.out]; exact preach_any pl _ w17 H17.out.1.p HPS.out (wordsV_g (HW.out.below H17.out.1.below))⟩
    go_wp2_with fail
    refine (C17.out).mono ?_
    rintro e18 w18 ⟨rfl, hb18⟩
    have H18 : Box (RpS w w18 (.slice (some ⟨pb, po, none⟩) pl.length pc) pl (.slice QA ql.length qc) ql (.slice SA sl.length sc) sl (.slice TA' tl.length tc) tl ∧ PlanP w18 AnyP (.slice CA' cm'.length cc') cm') := ⟨H17.out.1.next hb18, H17.out.2.anyB hb18⟩
    clear hb18 C17 H17
    go_wp2_with fail
    refine (plives_true w18 (HW.out.below H18.out.1.below)).mono ?_
    rintro eL wL ⟨rfl, hbL⟩
    have HBL : Box (Below w.heap.size w wL) := ⟨bthen H18.out.1.below hbL (Nat.le_refl _)⟩
    clear hbL
    go_wp2_with fail
    go_ret
    exact ⟨rfl, HBL.out⟩
end
end Go.Proofs.YtipafbppaaflcaaDoor
