/- Contracts, packed: Bf Bg Bi Bo. -/
import Derived.Test.YtkdojgkiclndfaaGreatDoorPz41
import Derived.Test.YtkdojgkiclndfaaGreatDoorPz42
import Derived.Test.YtkdojgkiclndfaaGreatDoorPz46
import Derived.Test.YtkdojgkiclndfaaGreatDoorPz48
import Derived.Test.YtkdojgkiclndfaaGreatDoorPz49
import Derived.Test.YtkdojgkiclndfaaGreatDoorPz50
import Derived.Test.YtkdojgkiclndfaaGreatDoorPz51
set_option linter.unusedVariables false
set_option linter.unusedSimpArgs false
namespace Go.Proofs.YtkdojgkiclndfaaGreatDoor
section
open Go.RowKit FracM
end
section
open Go.RowKit FracM
end
section
open Go.RowKit FracM
theorem planP_ok {w : World} {P : Nat → Nat → Prop} {v : Value} {l : List Nd} (h : PlanP w P v l) : ∀ d ∈ l, NdOk d := by
 obtain ⟨cs, -, h2⟩ := h.rows
 intro d hd
 obtain ⟨i, hi⟩ := List.mem_iff_getElem?.1 hd
 obtain ⟨s, hs⟩ : ∃ s, cs[i]? = some s := ⟨cs[i]'(by rw [h2.1]; exact (List.getElem?_eq_some_iff.1 hi).1), List.getElem?_eq_getElem _⟩
 exact (h2.2 i d s hi hs).ok
end
section
open Go.RowKit FracM
theorem encPl_lim {p : List Nd} (h : (treeM p).2 = 0) (hok : ∀ d ∈ p, NdOk d) : (encPl p).length ≤ 300000 := by
 have hs := plan_sizes h
 obtain ⟨h200, hm⟩ := plan_small h
 have h1 : ∀ d ∈ p, (encNd d).length ≤ 1000 := fun d hd => by
  obtain ⟨i0, i1, i2, i3, i4, i5, i6⟩ := (hok d hd).ints
  have h7 : ∀ x ∈ ([d.kind, d.fn, d.win, d.off, d.k, d.num, d.den] : List Int), I64 x := by intro x hx; simp only [List.mem_cons, List.not_mem_nil, or_false] at hx; rcases hx with rfl | rfl | rfl | rfl | rfl | rfl | rfl <;> assumption
  have e1 := flatI_len _ h7
  have e2 := encS_len (s := d.name) (hs d hd).name
  obtain ⟨hml, hbl⟩ := hm d hd
  have e3 := zig10 (n := (d.ms.length : Int)) (by unfold I64; omega)
  have e4 := zig10 (n := (d.bys.length : Int)) (by unfold I64; omega)
  have e5 : (d.ms.flatMap matE).length ≤ 62 * d.ms.length := by
   have : ∀ l : List Mat, (∀ m ∈ l, (matE m).length ≤ 62) → (l.flatMap matE).length ≤ 62 * l.length := by
    intro l
    induction l with
    | nil => intro _; simp
    | cons x r ih =>
     intro hl
     rw [List.flatMap_cons, List.length_append, List.length_cons]
     have h1 := hl x (by simp)
     have h2 := ih fun y hy => hl y (by simp [hy])
     omega
   refine this _ fun m hm => ?_
   obtain ⟨a1, a2, a3⟩ := (hs d hd).ms m hm
   have f1 := encS_len (s := m.1) a1
   have f2 := encS_len (s := m.2.2) a2
   have f3 := zig10 a3
   have : matE m = encS m.1 ++ (encI m.2.1 ++ encS m.2.2) := rfl
   rw [this, List.length_append, List.length_append]
   omega
  have e6 : (d.bys.flatMap encS).length ≤ 26 * d.bys.length := by
   have : ∀ l : List ByteArray, (∀ s ∈ l, s.size ≤ 16) → (l.flatMap encS).length ≤ 26 * l.length := by
    intro l
    induction l with
    | nil => intro _; simp
    | cons x r ih =>
     intro hl
     rw [List.flatMap_cons, List.length_append, List.length_cons]
     have h1 := encS_len (hl x (by simp))
     have h2 := ih fun y hy => hl y (by simp [hy])
     omega
   exact this _ (hs d hd).bys
  unfold encNd
  rw [hdE_eq]
  simp only [List.length_append, List.length_cons, List.length_nil] at e1 ⊢
  omega
 have h2 : (p.flatMap encNd).length ≤ 1000 * p.length := by
  have : ∀ l : List Nd, (∀ d ∈ l, (encNd d).length ≤ 1000) → (l.flatMap encNd).length ≤ 1000 * l.length := by
   intro l
   induction l with
   | nil => intro _; simp
   | cons x r ih =>
    intro hl
    rw [List.flatMap_cons, List.length_append, List.length_cons]
    have h1 := hl x (by simp)
    have h2 := ih fun y hy => hl y (by simp [hy])
    omega
  exact this p h1
 have h3 := zig10 (n := (p.length : Int)) (by unfold I64; omega)
 unfold encPl
 rw [List.length_append]
 omega
set_option maxHeartbeats 4000000 in
set_option maxRecDepth 100000 in
theorem rencode_any (l : List Nd) (pv : Value) (w : World) (hp : PlanP w AnyP pv l) : Calls Tryz.prog 11 #[pv] w (RetEn (encM l) w) := by
 obtain ⟨A, c, rfl, -⟩ := hp.form
 obtain ⟨er, her⟩ : ∃ er, (treeM l).2 = er := ⟨_, rfl⟩
 have CK : Box (Calls Tryz.prog 26 #[.slice A l.length c] w (RetB (.int .i64 er) w)) := ⟨by rw [← her]; exact rpcheck_any l _ w hp⟩
 have HP := Box.mk hp
 have HOK := Box.mk (planP_ok hp)
 have HER := Box.mk her
 clear hp her
 go_enter Tryz.func11, Tryz.ntmps11
 go_wp2_with fail
 refine (CK.out).mono ?_
 rintro e1 w1 ⟨rfl, hb⟩
 have HB1 := Box.mk hb
 clear hb CK
 by_cases h0 : er = 0
 ·subst h0
  have HEN : Box (encM l = (encPl l, 0)) := ⟨if_pos HER.out⟩
  go_wp2_with fail
  refine (rwrite_any l _ w1 (HP.out.anyB HB1.out) HER.out).mono ?_
  rintro e2 w2 ⟨v, rfl, hO, hb⟩
  have HO : Box (OwnB w2 w.heap.size v (encPl l) ∧ Below w.heap.size w w2) := ⟨own_baseU hO HB1.out.size, bthen HB1.out hb (Nat.le_refl _)⟩
  clear hO hb
  obtain ⟨A2, c2, rfl⟩ := own_form HO.out.1
  go_wp2_with fail
  refine bodyPost_ret (v := .tuple #[.slice A2 (encPl l).length c2, .int .i64 0]) (by simp [results, Tryz.results11, go_sem]) rfl ?_
  exact ⟨.slice A2 (encPl l).length c2, by rw [HEN.out], by rw [HEN.out]; exact HO.out.1, by rw [HEN.out]; exact encPl_lim HER.out HOK.out, HO.out.2⟩
 ·have h1 : (er == 0) = false := by simpa using h0
  have h2 : (er != 0) = true := by simp [h0]
  have HEN : Box (encM l = ([], er)) := ⟨by unfold encM; rw [if_neg (by rw [HER.out]; exact h0), HER.out]⟩
  go_wp2_with fail
  refine bodyPost_ret (v := .tuple #[.slice none 0 0, .int .i64 er]) (by simp [results, Tryz.results11, go_sem]) rfl ?_
  exact ⟨.slice none 0 0, by rw [HEN.out], by rw [HEN.out]; exact OwnB.nil _ _, by rw [HEN.out]; simp, HB1.out⟩
theorem own_slice {w : World} {B : Nat} {v : Value} {l : List Nat} (h : OwnB w B v l) : ∃ A c, v = .slice A l.length c := own_form h
set_option maxHeartbeats 4000000 in
set_option maxRecDepth 100000 in
theorem encodes_any (l : List Nd) (pv : Value) (w : World) (hp : PlanP w AnyP pv l) (hsm : ∀ d ∈ l, SmallD d) (hw : WordsV w) : Calls Tryz.prog 8 #[pv] w (RetB (.bool true) w) := by
 obtain ⟨A, c, rfl, -⟩ := hp.form
 obtain ⟨q, hq⟩ : ∃ q, encM l = q := ⟨_, rfl⟩
 obtain ⟨b, er⟩ := q
 have CP : Box (Calls Tryz.prog 19 #[.slice A l.length c] w (RetEn (b, er) w)) := ⟨by rw [← hq]; exact pencode_any l _ w hp hsm hw⟩
 have CR : Box (∀ W : World, PlanP W AnyP (.slice A l.length c) l → Calls Tryz.prog 11 #[.slice A l.length c] W (RetEn (b, er) W)) := ⟨fun W h => by rw [← hq]; exact rencode_any l _ W h⟩
 have HP := Box.mk hp
 clear hp hsm hw hq
 have hee : (er == er) = true := by simp
 go_enter Tryz.func8, Tryz.ntmps8
 go_wp2_with fail
 refine (CP.out).mono ?_
 rintro e1 w1 ⟨v1, rfl, hO, hlen, hb⟩
 have HSQ : Box (SeqP w1 AnyP 1 v1 b.length (u8L b)) := ⟨SeqP.of_own hO (fun _ _ _ _ => trivial)⟩
 have HB1 := Box.mk hb
 have HL := Box.mk hlen
 obtain ⟨A1, c1, rfl⟩ := own_slice hO
 clear hO hb hlen CP
 go_wp2_with fail
 refine (CR.out _ (HP.out.anyB HB1.out)).mono ?_
 rintro e2 w2 ⟨v2, rfl, hO, hlen, hb⟩
 have HSQ2 : Box (SeqP w2 AnyP 1 v2 b.length (u8L b)) := ⟨SeqP.of_own hO (fun _ _ _ _ => trivial)⟩
 have HB2 : Box (Below w.heap.size w w2 ∧ SeqP w2 AnyP 1 (.slice A1 b.length c1) b.length (u8L b)) := ⟨bthen HB1.out hb (Nat.le_refl _), HSQ.out.belo hb⟩
 obtain ⟨A2, c2, rfl⟩ := own_slice hO
 clear hO hb hlen CR HB1 HSQ
 have CB : Box (Calls Tryz.prog 20 #[.slice A1 b.length c1, .slice A2 b.length c2] w2 (RetB (.bool true) w2)) := ⟨by have hl : b.length ≤ 300000 := HL.out; have h := sameBytes_any _ _ _ _ AnyP AnyP b b w2 HB2.out.2 HSQ2.out (by omega) (by omega); rw [decide_eq_true (rfl : b = b)] at h; exact h⟩
 go_wp2_with fail
 refine (CB.out).mono ?_
 rintro e3 w3 ⟨rfl, hb⟩
 have HB3 : Box (Below w.heap.size w w3) := ⟨bthen HB2.out.1 hb (Nat.le_refl _)⟩
 clear hb
 go_wp2_with fail
 go_ret
 exact ⟨rfl, HB3.out⟩
set_option maxHeartbeats 8000000 in
set_option maxRecDepth 100000 in
theorem planEncode_walk (AL : Option Addr) (nl cl : Nat) (ll : List Int) (at' how v : Int) (w : World) (hw : WordsV w) (h1 : Ints w w.heap.size (.slice AL nl cl) ll)
  (a1 : -9223372036854775808 ≤ at') (a2 : at' ≤ 9223372036854775807) (b1 : -9223372036854775808 ≤ how) (b2 : how ≤ 9223372036854775807) (c1 : -9223372036854775808 ≤ v) (c2 : v ≤ 9223372036854775807) :
  Calls Tryz.prog 3 #[.slice AL nl cl, .int .i64 at', .int .i64 how, .int .i64 v] w fun e w' => e = .returned (.bool true) ∧ Below w.heap.size w w' := by
 have HW := Box.mk hw
 have HI := Box.mk (And.intro (And.intro a1 a2 : I64 at') (And.intro (And.intro b1 b2 : I64 how) (And.intro c1 c2 : I64 v)))
 have HL := Box.mk h1.toP
 clear hw h1 a1 a2 b1 b2 c1 c2
 go_enter Tryz.func3, Tryz.ntmps3
 go_wp2_with fail
 refine (expr0_any _ ll _ HL.out).mono ?_
 rintro e0 w1 ⟨t1, s1, rfl, htree, hgt, hdp, hnd, hb1⟩
 obtain ⟨xd, xs⟩ := t1
 obtain ⟨q1, q2, q3⟩ := s1
 obtain ⟨D1, n1, rfl, -⟩ := htree.form.1
 obtain ⟨D2, n2, rfl, -⟩ := htree.form.2.1
 obtain ⟨D3, n3, rfl, -⟩ := htree.form.2.2
 simp only [Tree.d]
 have HVA : Box (validE (.node xd xs) = 0) := ⟨good_valid ns6_ok (by omega) hgt (by omega) (by omega)⟩
 have HT1 : Box (TreeAt w1 AnyP (.node xd xs) (.slice D1 xd.ms.length n1, .slice D2 xd.bys.length n2, .slice D3 xs.length n3)) := ⟨by obtain ⟨Lf, h⟩ := htree; exact h.tree.mono fun _ _ _ _ => trivial⟩
 have HR1 : Box (Below w.heap.size w w1) := ⟨hb1⟩
 obtain ⟨pl, hpl⟩ : ∃ l, postT (.node xd xs) = l := ⟨_, rfl⟩
 have HPS : Box (∀ d ∈ pl, SmallD d) := ⟨by rw [← hpl]; exact small_post HVA.out⟩
 have HPN : Box (pl.length ≤ 200) := ⟨by rw [← hpl]; exact (postT_small HVA.out).1⟩
 have CA : Box (Calls Tryz.prog 6 #[.agg (ndC xd (.slice D1 xd.ms.length n1) (.slice D2 xd.bys.length n2) (.slice D3 xs.length n3))] w1 (RetPlE (pl, 0) AnyP w1)) := ⟨by rw [← hpl, ← compileM_ok HVA.out]; exact rcompile_any (.node xd xs) AnyP w1 (.slice D1 xd.ms.length n1, .slice D2 xd.bys.length n2, .slice D3 xs.length n3) HT1.out (by omega) (by omega)⟩
 clear htree hgt hdp hnd hb1 HL hpl HVA HT1
 go_wp2_with fail
 with_reducible refine (CA.out).mono ?_
 rintro e1 w2 ⟨qv, rfl, hq, hb⟩
 obtain ⟨PA, pc, rfl⟩ := hq.form
 have HS2 : Box (Below w.heap.size w w2 ∧ PlanP w2 AnyP (.slice PA pl.length pc) pl) := ⟨bthen HR1.out hb (Nat.le_refl _), hq.any⟩
 clear hq hb CA HR1
 have C1 : Box (Calls Tryz.prog 8 #[.slice PA pl.length pc] w2 (RetB (.bool true) w2)) := ⟨encodes_any pl _ w2 HS2.out.2 HPS.out (HW.out.below HS2.out.1)⟩
 go_wp2_with fail
 refine (C1.out).mono ?_
 rintro e2 w3 ⟨rfl, hb⟩
 have HS3 : Box (Below w.heap.size w w3 ∧ PlanP w3 AnyP (.slice PA pl.length pc) pl) := ⟨bthen HS2.out.1 hb (Nat.le_refl _), HS2.out.2.anyB hb⟩
 clear hb C1 HS2
 have C3 : Box (Calls Tryz.prog 9 #[.slice PA pl.length pc, .int .i64 at', .int .i64 how, .int .i64 v] w3 (RetCh pl w3)) := ⟨rchanged_any pl _ at' how v w3 HS3.out.2 HPS.out (by have := HPN.out; omega) HI.out.1 HI.out.2.1 HI.out.2.2⟩
 go_wp2_with fail
 refine (C3.out).mono ?_
 rintro e3 w4 ⟨xl, xv, rfl, hx, hxl, hxs, hb⟩
 obtain ⟨XA, xc, rfl⟩ := hx.form
 have HS4 : Box (Below w.heap.size w w4 ∧ PlanP w4 AnyP (.slice XA xl.length xc) xl) := ⟨bthen HS3.out.1 hb (Nat.le_refl _), hx.any⟩
 have HXS := Box.mk hxs
 clear hx hxl hxs hb HS3 C3
 have C4 : Box (Calls Tryz.prog 8 #[.slice XA xl.length xc] w4 (RetB (.bool true) w4)) := ⟨encodes_any xl _ w4 HS4.out.2 HXS.out (HW.out.below HS4.out.1)⟩
 go_wp2_with fail
 refine (C4.out).mono ?_
 rintro e4 w5 ⟨rfl, hb⟩
 have HS5 : Box (Below w.heap.size w w5) := ⟨bthen HS4.out.1 hb (Nat.le_refl _)⟩
 clear hb C4 HS4
 go_wp2_with fail
 refine (plives_true w5 (HW.out.below HS5.out)).mono ?_
 rintro e9 wL ⟨rfl, hb⟩
 have HBL : Box (Below w.heap.size w wL) := ⟨bthen HS5.out hb (Nat.le_refl _)⟩
 clear hb
 go_wp2_with fail
 go_ret
 exact ⟨rfl, HBL.out⟩
end
end Go.Proofs.YtkdojgkiclndfaaGreatDoor
