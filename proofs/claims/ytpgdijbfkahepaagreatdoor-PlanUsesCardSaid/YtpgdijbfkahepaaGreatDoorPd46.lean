/- Contracts, packed: Uw. -/
import Derived.Test.YtpgdijbfkahepaaGreatDoorPd45
set_option linter.unusedVariables false
set_option linter.unusedSimpArgs false
namespace Go.Proofs.YtpgdijbfkahepaaGreatDoor
section
open Go.RowKit FracM
theorem stack_step {d : Nd} {r : List Nd} {st : List Tree} (h1 : 0 ≤ d.kind ∧ d.kind ≤ 3) (h2 : popsN d.kind ≤ st.length) : stackM (d :: r) st = stackM r (st.take (st.length - popsN d.kind) ++ [.node d (st.drop (st.length - popsN d.kind))]) := by
 rw [stackM, if_pos ⟨h1, h2⟩]
theorem stack_bad {d : Nd} {r : List Nd} {st : List Tree} (h : ¬ ((0 ≤ d.kind ∧ d.kind ≤ 3) ∧ popsN d.kind ≤ st.length)) : stackM (d :: r) st = none := by
 rw [stackM, if_neg h]
theorem tree_bad {l : List Nd} (hl : l.length ≤ 200) (h : stackM l [] = none) : treeM l = (zeroT, 1) := by
 unfold treeM
 rw [if_neg (by omega), h]
theorem tree_many {l : List Nd} {st : List Tree} (hl : l.length ≤ 200) (h : stackM l [] = some st) (h1 : st.length ≠ 1) : treeM l = (zeroT, 1) := by
 unfold treeM
 rw [if_neg (by omega), h]
 match st, h1 with
 | [], _ => rfl
 | [t], h1 => exact absurd rfl h1
 | _ :: _ :: _, _ => rfl
theorem treeM_one {l : List Nd} {t : Tree} (hl : l.length ≤ 200) (h : stackM l [] = some [t]) : treeM l = if validE t = 0 then (t, 0) else (zeroT, validE t) := by
 unfold treeM
 rw [if_neg (by omega), h]
theorem pops_ok {k : Int} (h : 0 ≤ k ∧ k ≤ 3) : popsZ k = (popsN k : Int) := by
 unfold popsZ popsN
 by_cases h3 : k = 3
 ·subst h3; rfl
 by_cases h2 : k = 2
 ·subst h2; rfl
 rw [if_pos (by omega), if_neg h3, if_neg h2]; rfl
theorem pops_no {k : Int} (h : ¬ (0 ≤ k ∧ k ≤ 3)) : popsZ k = -1 := by
 unfold popsZ
 rw [if_neg (by omega), if_neg (by omega), if_neg (by omega)]
theorem popsN_le (k : Int) : popsN k ≤ 2 := by unfold popsN; split <;> (try split) <;> omega
set_option maxHeartbeats 8000000 in
set_option maxRecDepth 100000 in
theorem ptree_big (l : List Nd) (pv : Value) (w : World) (hp : PlanP w AnyP pv l) (hl : 200 < l.length) : Calls Tryz.prog 33 #[pv] w (RetTr (treeM l) w) := by
 obtain ⟨A, c, rfl, -⟩ := hp.form
 have HTM : Box (treeM l = (zeroT, 4)) := ⟨by unfold treeM; rw [if_pos hl]⟩
 have hl2 : (200 : Int) < (l.length : Int) := by omega
 have H0 : Box (TrS w (w.alloc (.cells zeroC 35)) (.slice A l.length c) l (.slice none 0 0) [] []) := ⟨bel1 _ _, Blk.new _ _ _, (hp.mono (Q := fun b _ => b < w.heap.size) fun _ _ hb _ => hb).belo (bel1 _ _), StackC.nil _ _ _⟩
 clear hp
 go_enter Tryz.func33, Tryz.ntmps33
 go_upto_region 1 with (fail)
 generalize w.alloc (.cells zeroC 35) = W at H0 ⊢
 obtain ⟨z0, z1, z2, z3, z4, z5, z6, z7, z8, z9, z10⟩ := blk11z (d := zNd) H0.out.z
 have zf := H0.out.z.frozen
 go_wp2_with fail
 have HF : Box (Blk (put11 W w.heap.size (.int .i64 0) (.int .i64 0) (.int .i64 0) (.int .i64 0) (.int .i64 0) (.int .i64 0) (.int .i64 0) (.string ⟨#[]⟩) (.slice none 0 0) (.slice none 0 0) (.slice none 0 0)) w.heap.size 35 zeroC ∧ Below w.heap.size w (put11 W w.heap.size (.int .i64 0) (.int .i64 0) (.int .i64 0) (.int .i64 0) (.int .i64 0) (.int .i64 0) (.int .i64 0) (.string ⟨#[]⟩) (.slice none 0 0) (.slice none 0 0) (.slice none 0 0))) := ⟨put11_blk H0.out.z, H0.out.below.trans (put11_below (Nat.le_refl _) ..)⟩
 show bodyPost _ _ _ _ _ (put11 W w.heap.size (.int .i64 0) (.int .i64 0) (.int .i64 0) (.int .i64 0) (.int .i64 0) (.int .i64 0) (.int .i64 0) (.string ⟨#[]⟩) (.slice none 0 0) (.slice none 0 0) (.slice none 0 0))
 generalize (put11 W w.heap.size (.int .i64 0) (.int .i64 0) (.int .i64 0) (.int .i64 0) (.int .i64 0) (.int .i64 0) (.int .i64 0) (.string ⟨#[]⟩) (.slice none 0 0) (.slice none 0 0) (.slice none 0 0)) = WF at HF ⊢
 clear z0 z1 z2 z3 z4 z5 z6 z7 z8 z9 z10 zf
 obtain ⟨e0, e1, e2, e3, e4, e5, e6, e7, e8, e9, e10⟩ := blk11z (d := zNd) HF.out.1
 have ef := HF.out.1.frozen
 refine bodyPost_ret (v := .tuple #[.agg zeroC, .int .i64 4]) (by simp [results, Tryz.results33, go_sem, e0, e1, e2, e3, e4, e5, e6, e7, e8, e9, e10, ef]) rfl ?_
 exact ⟨nilV, nilV, nilV, by rw [HTM.out]; rfl, by rw [HTM.out]; exact zero_tree _ _, HF.out.2⟩
set_option maxHeartbeats 8000000 in
set_option maxRecDepth 100000 in
theorem ptree_small (l : List Nd) (pv : Value) (w : World) (hp : PlanP w AnyP pv l) (hsm : ∀ d ∈ l, d.ms.length ≤ 1000000 ∧ d.bys.length ≤ 1000000) (hw : WordsG w) (hl : l.length ≤ 200) : Calls Tryz.prog 33 #[pv] w (RetTr (treeM l) w) := by
  obtain ⟨A, c, rfl, -⟩ := hp.form
  have hl2 : ¬ (200 : Int) < (l.length : Int) := by omega
  have HW := Box.mk hw
  have HSMA := Box.mk hsm
  have H0 : Box (TrS w (w.alloc (.cells zeroC 35)) (.slice A l.length c) l (.slice none 0 0) [] []) := ⟨bel1 _ _, Blk.new _ _ _, (hp.mono (Q := fun b _ => b < w.heap.size) fun _ _ hb _ => hb).belo (bel1 _ _), StackC.nil _ _ _⟩
  clear hp hw hsm
  go_enter Tryz.func33, Tryz.ntmps33
  go_upto_region 1 with (fail)
  generalize w.alloc (.cells zeroC 35) = W at H0 ⊢
  go_wp2_with fail
  go_loopw [4, 17] (fun s v wr => ∃ (k : Nat) (st : List Tree) (cs : List Sl), k ≤ l.length ∧ v = .int .i64 (k : Nat) ∧ Box (stackM l [] = stackM (l.drop k) st ∧ st.length ≤ k) ∧ Box (TrS w wr (.slice A l.length c) l s st cs)) (fun _ v _ => l.length - (intOf v).toNat)
  case atStart => exact ⟨0, [], [], by omega, rfl, ⟨by rw [List.drop_zero], by simp⟩, H0⟩
  case round =>
    clear H0
    obtain ⟨k, st, cs, hk, rfl, HM, HS⟩ := hrel
    obtain ⟨AS, sc, rfl, hsc1, hsc2, hsc3⟩ := HS.out.stk.form
    have hstl := HM.out.2
    by_cases hlt : k < l.length
    · obtain ⟨d, hd⟩ : ∃ d, l[k]? = some d := ⟨l[k], List.getElem?_eq_getElem _⟩
      have HDR : Box (l.drop k = d :: l.drop (k + 1)) := ⟨by rw [List.drop_eq_getElem_cons hlt]; congr 1; exact (List.getElem?_eq_some_iff.1 hd).2⟩
      have HSM : Box (d.ms.length ≤ 1000000 ∧ d.bys.length ≤ 1000000) := ⟨HSMA.out d (List.mem_of_getElem? hd)⟩
      obtain ⟨pb, po, mv, bv, rfl, plt, -, ⟨k0, k1, k2, k3, k4, k5, k6, k7, k8, k9⟩, hx⟩ := HS.out.pl.at_ k d hd
      obtain ⟨X1, x1, rfl, -⟩ := hx.ms.form
      obtain ⟨X2, x2, rfl, -⟩ := hx.bys.form
      have HX := Box.mk hx
      have hlt2 : (k : Int) < (l.length : Int) := by omega
      have hk0 : (0 : Int) ≤ (k : Int) := by omega
      clear hx hd
      go_upto_region 7 with (fail)
      have HS1 : Box (TrS w (wr.alloc (.cells (insC d (.slice X1 d.ms.length x1) (.slice X2 d.bys.length x2)) 55)) (.slice (some ⟨pb, po, none⟩) l.length c) l (.slice AS st.length sc) st cs ∧ Blk (wr.alloc (.cells (insC d (.slice X1 d.ms.length x1) (.slice X2 d.bys.length x2)) 55)) wr.heap.size 55 (insC d (.slice X1 d.ms.length x1) (.slice X2 d.bys.length x2)) ∧ InsAt (wr.alloc (.cells (insC d (.slice X1 d.ms.length x1) (.slice X2 d.bys.length x2)) 55)) AnyP d (.slice X1 d.ms.length x1) (.slice X2 d.bys.length x2)) := ⟨HS.out.next (bel1 _ _), Blk.new _ _ _, (HX.out.belo (bel1 _ _)).any⟩
      obtain ⟨xb, hxb⟩ : ∃ g, wr.heap.size = g := ⟨_, rfl⟩
      rw [hxb] at HS1 ⊢
      clear hxb HX HS k0 k1 k2 k3 k4 k5 k6 k7 k8 k9 plt
      generalize wr.alloc (.cells (insC d (.slice X1 d.ms.length x1) (.slice X2 d.bys.length x2)) 55) = W1 at HS1 ⊢
      obtain ⟨AS2, sc2, hsf, hsc1, hsc2, hsc3⟩ := HS1.out.1.stk.form
      cases hsf
      obtain ⟨p, hpp⟩ : ∃ p, popsN d.kind = p := ⟨_, rfl⟩
      have HP := Box.mk hpp
      have hp2 : p ≤ 2 := by rw [← hpp]; exact popsN_le _
      clear hpp
      have hkk := (blk10z HS1.out.2.1).1
      by_cases hkd : 0 ≤ d.kind ∧ d.kind ≤ 3
      · have CP : Box (∀ W : World, Calls Tryz.prog 53 #[.int .i64 d.kind] W fun e w' => e = .returned (.int .i64 (p : Int)) ∧ w' = W) := ⟨fun W => by have h := pops_any d.kind W; rw [pops_ok hkd, HP.out] at h; exact h⟩
        by_cases hfew : p ≤ st.length
        · have HSTEP : Box (stackM (l.drop k) st = stackM (l.drop (k + 1)) (st.take (st.length - p) ++ [.node d (st.drop (st.length - p))])) := ⟨by rw [HDR.out, stack_step hkd (by rw [HP.out]; exact hfew), HP.out]⟩
          obtain ⟨q, hq⟩ : ∃ q, q = st.length - p := ⟨_, rfl⟩
          have HQ : Box (st.length = q + p ∧ q = st.length - p) := ⟨by omega, hq⟩
          obtain ⟨A2, c2, hs1, hs2⟩ := stack_top HS1.out.1.stk q (by omega)
          rw [show st.length - q = p by omega] at hs1 hs2
          have HK2 := Box.mk hs2
          have hb0 := stack_bot AS st.length sc q (by omega) hsc2
          have hsub : (st.length : Int) - (p : Int) = (q : Int) := by omega
          have hg1 : ¬ (st.length : Int) < (p : Int) := by omega
          have hg2 : ¬ ((p : Int) < 0) := by omega
          have hg3 : st.length ≤ 200 := by omega
          rw [← HQ.out.2] at HSTEP
          have HKD := Box.mk hkd
          clear hq hs2 hkd hsc3 hlt2 hk0
          go_wp2_with fail
          refine (CP.out _).mono ?_
          rintro e7 w7 ⟨rfl, rfl⟩
          go_upto_region 11 with (fail)
          have HSX := Box.mk HS1.out.2.2
          have HLX : Box (xb < w7.heap.size) := ⟨HS1.out.2.1.lt⟩
          have HK7 : Box (At10z w7.drew xb d (.slice X1 d.ms.length x1) (.slice X2 d.bys.length x2)) := ⟨blk10z (W := w7.drew) HS1.out.2.1⟩
          have HK7b : Box (At10z w7 xb d (.slice X1 d.ms.length x1) (.slice X2 d.bys.length x2)) := ⟨blk10z HS1.out.2.1⟩
          have HST := Box.mk HS1.out.1
          have HONE := Box.mk (stack_one HS1.out.1.stk q)
          clear hkk CP hb0 HS1 hg1 hg2 hsub
          go_cut [9] (fun ep wx => ∃ eb mv' bv' kv', ep = .pointer (some ⟨eb, 0, none⟩) ∧ TrE w wx (.slice (some ⟨pb, po, none⟩) l.length c) l (.slice AS st.length sc) st cs d q eb mv' bv' kv')
          case first =>
            go_region_held3 (fun w' : World => (w'.cell? ⟨xb, 0, none⟩ = some (.int .i64 d.kind) ∧ w'.cell? ⟨xb, 1, none⟩ = some (.int .i64 d.fn) ∧ w'.cell? ⟨xb, 2, none⟩ = some (.int .i64 d.win) ∧ w'.cell? ⟨xb, 3, none⟩ = some (.int .i64 d.off) ∧ w'.cell? ⟨xb, 4, none⟩ = some (.int .i64 d.k) ∧ w'.cell? ⟨xb, 5, none⟩ = some (.int .i64 d.num) ∧ w'.cell? ⟨xb, 6, none⟩ = some (.int .i64 d.den) ∧ w'.cell? ⟨xb, 7, none⟩ = some (.string d.name) ∧ w'.cell? ⟨xb, 8, none⟩ = some ((.slice X1 d.ms.length x1)) ∧ w'.cell? ⟨xb, 9, none⟩ = some ((.slice X2 d.bys.length x2)))) (first | with_reducible exact HK7.out | with_reducible exact at10_allocd _ HK7b.out HLX.out | with_reducible exact HK8.out | with_reducible exact at10_alloc _ HK8.out HL8.out | with_reducible exact HK9.out | with_reducible exact at10_alloc _ HK9.out HL9.out | with_reducible exact HK10.out | with_reducible exact at10_alloc _ HK10.out HL10.out | with_reducible exact at10_put HK10.out HN10.out ..)
              (first
                | (go_at_call 45; (with_reducible refine (cloneM_any (Q := AnyP) d.ms ?_ HSM.out.1).mono ?_); (first | with_reducible exact HSX.out.ms.belo (bd1 w7) | with_reducible exact HSX.out.ms.belo (bad1 w7 _)); rintro e8 wm ⟨v8, rfl, hs8, hb8⟩; obtain ⟨A8, a8, rfl, -⟩ := hs8.form; have HM8 := Box.mk hs8.lt'; have HB8 : Box (Below w7.heap.size w7 wm) := ⟨by first | exact (bd1 w7).trans hb8 | exact (bad1 w7 _).trans (hb8.mono (bad1 w7 _).size)⟩; (first | (have HO8 : Box (Blk wm w7.heap.size 35 zeroC) := ⟨(show Blk (w7.alloc (.cells zeroC 35)).drew w7.heap.size 35 zeroC from Blk.new w7 _ _).below hb8⟩; have HW0 : True := trivial) | skip); have HK8 : Box (At10z wm xb d (.slice X1 d.ms.length x1) (.slice X2 d.bys.length x2)) := ⟨at10_keep HK7b.out HB8.out HLX.out⟩; have HL8 : Box (xb < wm.heap.size) := ⟨Nat.lt_of_lt_of_le HLX.out HB8.out.size⟩; clear hs8 hb8)
                | (go_at_call 46; (with_reducible refine (cloneS_any (Q := AnyP) d.bys ?_ HSM.out.2).mono ?_); (first | with_reducible exact HSX.out.bys.belo HB8.out | with_reducible exact HSX.out.bys.belo (bthen HB8.out (bel1 _ _) (Nat.le_refl _))); rintro e9 ws ⟨v9, rfl, hs9, hb9⟩; obtain ⟨A9, a9, rfl, -⟩ := hs9.form; have HY9 := Box.mk hs9.lt'; have HB9 : Box (Below w7.heap.size w7 ws ∧ Below wm.heap.size wm ws) := ⟨by first | exact ⟨bthen HB8.out hb9 (Nat.le_refl _), hb9⟩ | exact ⟨bthen (bthen HB8.out (bel1 _ _) (Nat.le_refl _)) hb9 (Nat.le_refl _), bthen (bel1 _ _) hb9 (Nat.le_refl _)⟩⟩; (first | (have HO9 : Box (Blk ws w7.heap.size 35 zeroC) := ⟨HO8.out.below HB9.out.2⟩) | (have HO9 : Box (Blk ws wm.heap.size 35 zeroC) := ⟨(show Blk (wm.alloc (.cells zeroC 35)) wm.heap.size 35 zeroC from Blk.new wm _ _).below hb9⟩; have HW1 : True := trivial) | skip); have HK9 : Box (At10z ws xb d (.slice X1 d.ms.length x1) (.slice X2 d.bys.length x2)) := ⟨at10_keep HK7b.out HB9.out.1 HLX.out⟩; have HL9 : Box (xb < ws.heap.size) := ⟨Nat.lt_of_lt_of_le HLX.out HB9.out.1.size⟩; clear hs9 hb9)
                | (go_at_call 54; (with_reducible refine (cloneE_any (Q := fun b _ => b < w7.heap.size) p _ ?_ (by omega) HONE.out).mono ?_); (first | with_reducible exact (HK2.out.low).keep (Agree.of_lt HB9.out.1 fun _ _ h => h) | with_reducible exact (HK2.out.low).keep (Agree.of_lt (bthen HB9.out.1 (bel1 _ _) (Nat.le_refl _)) fun _ _ h => h)); rintro e10 we ⟨v10, rfl, hs10, hb10⟩; obtain ⟨A10, a10, rfl, -⟩ := hs10.form; have HE10 := Box.mk hs10.lt'; have HB10 : Box (Below w7.heap.size w7 we ∧ Below ws.heap.size ws we) := ⟨by first | exact ⟨bthen HB9.out.1 hb10 (Nat.le_refl _), hb10⟩ | exact ⟨bthen (bthen HB9.out.1 (bel1 _ _) (Nat.le_refl _)) hb10 (Nat.le_refl _), bthen (bel1 _ _) hb10 (Nat.le_refl _)⟩⟩; (first | (have HO10 : Box (Blk we w7.heap.size 35 zeroC) := ⟨HO9.out.below HB10.out.2⟩; have HN10 : Box (xb ≠ w7.heap.size) := ⟨Nat.ne_of_lt HLX.out⟩) | (have HO10 : Box (Blk we wm.heap.size 35 zeroC) := ⟨HO9.out.below HB10.out.2⟩; have HN10 : Box (xb ≠ wm.heap.size) := ⟨Nat.ne_of_lt HL8.out⟩) | (have HO10 : Box (Blk we ws.heap.size 35 zeroC) := ⟨(show Blk (ws.alloc (.cells zeroC 35)) ws.heap.size 35 zeroC from Blk.new ws _ _).below hb10⟩; have HN10 : Box (xb ≠ ws.heap.size) := ⟨Nat.ne_of_lt HL9.out⟩; have HW2 : True := trivial) | skip); have HK10 : Box (At10z we xb d (.slice X1 d.ms.length x1) (.slice X2 d.bys.length x2)) := ⟨at10_keep HK7b.out HB10.out.1 HLX.out⟩; have HL10 : Box (xb < we.heap.size) := ⟨Nat.lt_of_lt_of_le HLX.out HB10.out.1.size⟩; (first | (obtain ⟨o0, o1, o2, o3, o4, o5, o6, o7, o8, o9, o10⟩ := blk11z (d := zNd) HO10.out; have of := HO10.out.frozen) | skip); clear hs10 hb10))
            all_goals go_wp2_with fail
            all_goals (first
              | (have z8 := HB8.out.size; have z9 := HB9.out.2.size; have z10 := HB10.out.2.size; have _t := HW0; have zl := HO8.out.lt; have hle : w7.heap.size ≤ w7.heap.size := (by omega); have HFIN : Box (TrE w (put11 we w7.heap.size (.int .i64 d.kind) (.int .i64 d.fn) (.int .i64 d.win) (.int .i64 d.off) (.int .i64 d.k) (.int .i64 d.num) (.int .i64 d.den) (.string d.name) (.slice A8 d.ms.length a8) (.slice A9 d.bys.length a9) (.slice A10 p a10)) (.slice (some ⟨pb, po, none⟩) l.length c) l (.slice AS st.length sc) st cs d q w7.heap.size (.slice A8 d.ms.length a8) (.slice A9 d.bys.length a9) (.slice A10 p a10)) := ⟨TrE.fill HST.out HB10.out.1 HSX.out.ok HQ.out.1 ((HM8.out.belo HB9.out.2).belo HB10.out.2) (HY9.out.belo HB10.out.2) HE10.out HO10.out hle (by intro b e hp; have h1 : (w7.alloc (.cells zeroC 35)).heap.size ≤ b := hp.1; rw [World.size_alloc] at h1; have h2 : b < wm.heap.size := hp.2; omega) (by intro b e hp; have h1 : wm.heap.size ≤ b := hp.1; have h2 : b < ws.heap.size := hp.2; omega) (by intro b e hp; have h1 : ws.heap.size ≤ b := hp.1; have h2 : b < we.heap.size := hp.2; omega)⟩; go_meet; exact ⟨w7.heap.size, _, _, _, rfl, HFIN.out⟩)
              | (have z8 := HB8.out.size; have z9 := HB9.out.2.size; have z10 := HB10.out.2.size; have _t := HW1; have zl := HO9.out.lt; have hle : w7.heap.size ≤ wm.heap.size := (by omega); have HFIN : Box (TrE w (put11 we wm.heap.size (.int .i64 d.kind) (.int .i64 d.fn) (.int .i64 d.win) (.int .i64 d.off) (.int .i64 d.k) (.int .i64 d.num) (.int .i64 d.den) (.string d.name) (.slice A8 d.ms.length a8) (.slice A9 d.bys.length a9) (.slice A10 p a10)) (.slice (some ⟨pb, po, none⟩) l.length c) l (.slice AS st.length sc) st cs d q wm.heap.size (.slice A8 d.ms.length a8) (.slice A9 d.bys.length a9) (.slice A10 p a10)) := ⟨TrE.fill HST.out HB10.out.1 HSX.out.ok HQ.out.1 ((HM8.out.belo HB9.out.2).belo HB10.out.2) (HY9.out.belo HB10.out.2) HE10.out HO10.out hle (by intro b e hp; have h1 : w7.heap.size ≤ b := hp.1; have h2 : b < wm.heap.size := hp.2; omega) (by intro b e hp; have h1 : (wm.alloc (.cells zeroC 35)).heap.size ≤ b := hp.1; rw [World.size_alloc] at h1; have h2 : b < ws.heap.size := hp.2; omega) (by intro b e hp; have h1 : ws.heap.size ≤ b := hp.1; have h2 : b < we.heap.size := hp.2; omega)⟩; go_meet; exact ⟨wm.heap.size, _, _, _, rfl, HFIN.out⟩)
              | (have z8 := HB8.out.size; have z9 := HB9.out.2.size; have z10 := HB10.out.2.size; have _t := HW2; have zl := HO10.out.lt; have hle : w7.heap.size ≤ ws.heap.size := (by omega); have HFIN : Box (TrE w (put11 we ws.heap.size (.int .i64 d.kind) (.int .i64 d.fn) (.int .i64 d.win) (.int .i64 d.off) (.int .i64 d.k) (.int .i64 d.num) (.int .i64 d.den) (.string d.name) (.slice A8 d.ms.length a8) (.slice A9 d.bys.length a9) (.slice A10 p a10)) (.slice (some ⟨pb, po, none⟩) l.length c) l (.slice AS st.length sc) st cs d q ws.heap.size (.slice A8 d.ms.length a8) (.slice A9 d.bys.length a9) (.slice A10 p a10)) := ⟨TrE.fill HST.out HB10.out.1 HSX.out.ok HQ.out.1 ((HM8.out.belo HB9.out.2).belo HB10.out.2) (HY9.out.belo HB10.out.2) HE10.out HO10.out hle (by intro b e hp; have h1 : w7.heap.size ≤ b := hp.1; have h2 : b < wm.heap.size := hp.2; omega) (by intro b e hp; have h1 : wm.heap.size ≤ b := hp.1; have h2 : b < ws.heap.size := hp.2; omega) (by intro b e hp; have h1 : (ws.alloc (.cells zeroC 35)).heap.size ≤ b := hp.1; rw [World.size_alloc] at h1; have h2 : b < we.heap.size := hp.2; omega)⟩; go_meet; exact ⟨ws.heap.size, _, _, _, rfl, HFIN.out⟩)
              | (have z8 := HB8.out.size
                 have z9 := HB9.out.2.size
                 have z10 := HB10.out.2.size
                 have HFIN : Box (TrE w (we.alloc (.cells (ndC d (.slice A8 d.ms.length a8) (.slice A9 d.bys.length a9) (.slice A10 p a10)) 35)) (.slice (some ⟨pb, po, none⟩) l.length c) l (.slice AS st.length sc) st cs d q we.heap.size (.slice A8 d.ms.length a8) (.slice A9 d.bys.length a9) (.slice A10 p a10)) := ⟨TrE.last HST.out HB10.out.1 HSX.out.ok HQ.out.1 ((HM8.out.belo HB9.out.2).belo HB10.out.2) (HY9.out.belo HB10.out.2) HE10.out (by intro b e hp; have h1 : w7.heap.size ≤ b := hp.1; have h2 : b < wm.heap.size := hp.2; omega) (by intro b e hp; have h1 : wm.heap.size ≤ b := hp.1; have h2 : b < ws.heap.size := hp.2; omega) (by intro b e hp; have h1 : ws.heap.size ≤ b := hp.1; have h2 : b < we.heap.size := hp.2; omega)⟩
                 go_meet
                 exact ⟨we.heap.size, _, _, _, rfl, HFIN.out⟩))
          case rest =>
            obtain ⟨eb, mv', bv', kv', rfl, hE⟩ := hcut
            rename World => wd
            obtain ⟨E1, e1, rfl, -⟩ := hE.t.nod.ms.form
            obtain ⟨E2, e2, rfl, -⟩ := hE.t.nod.bys.form
            obtain ⟨E3, e3, h3, -⟩ := hE.t.nod.kform
            rw [show (st.drop q).length = p by rw [List.length_drop]; have := HQ.out.1; omega] at h3
            subst h3
            have HE := Box.mk hE
            have HKE : Box (At11z wd.drew eb d (.slice E1 d.ms.length e1) (.slice E2 d.bys.length e2) (.slice E3 p e3)) := ⟨blk11z (W := wd.drew) hE.e⟩
            have HKE2 : Box (At11z wd eb d (.slice E1 d.ms.length e1) (.slice E2 d.bys.length e2) (.slice E3 p e3)) := ⟨blk11z hE.e⟩
            have HLE : Box (eb < wd.heap.size) := ⟨hE.e.lt⟩
            have hqs : q ≤ st.length := by have := HQ.out.1; omega
            have HOWN : Box ((wd.alloc (.cells (ndC d (.slice E1 d.ms.length e1) (.slice E2 d.bys.length e2) (.slice E3 p e3)) 35)).drew.ownsRow (w.heap.size + 1) 35 11 (.slice AS q sc) q (((st.take q).zip (cs.take q)).flatMap ndL)) := ⟨by have h := (hE.s.stk.take q hqs rfl).own; rw [List.length_take, Nat.min_eq_left hqs] at h; exact own_below h (bad1 wd _)⟩
            have HNEW : Box (∀ (j : Nat) (u : Value), (ndL (.node d (st.drop q), .slice E1 d.ms.length e1, .slice E2 d.bys.length e2, .slice E3 p e3))[j]? = some u → (wd.alloc (.cells (ndC d (.slice E1 d.ms.length e1) (.slice E2 d.bys.length e2) (.slice E3 p e3)) 35)).drew.cell? ((⟨wd.heap.size, 0, none⟩ : Addr).add j) = some u) := ⟨World.news_of_block (show Blk (wd.alloc (.cells (ndC d (.slice E1 d.ms.length e1) (.slice E2 d.bys.length e2) (.slice E3 p e3)) 35)).drew wd.heap.size 35 (ndC d (.slice E1 d.ms.length e1) (.slice E2 d.bys.length e2) (.slice E3 p e3)) from Blk.new wd _ _)⟩
            obtain ⟨j0, hi, hz0, hz1, hz2⟩ := info_parts exprInfoC
            have HJ := Box.mk (And.intro hi (And.intro hz0 (And.intro hz1 hz2)))
            have HONE2 := Box.mk (nd_one hE.t)
            have hzw := hE.s.below.size
            have hzl := hE.s.z.lt
            have HB0 := Box.mk (stack_bot AS st.length sc q (by omega) hsc2)
            have hb0 := HB0.out
            clear hE hi hz0 hz1 hz2 HST HSX HLX HK7 HK7b HK2 HONE hs1
            go_wp2_with fail
            go_region_held3 (fun w' : World => w'.cell? ⟨eb, 0, none⟩ = some (.int .i64 d.kind) ∧ w'.cell? ⟨eb, 1, none⟩ = some (.int .i64 d.fn) ∧ w'.cell? ⟨eb, 2, none⟩ = some (.int .i64 d.win) ∧ w'.cell? ⟨eb, 3, none⟩ = some (.int .i64 d.off) ∧ w'.cell? ⟨eb, 4, none⟩ = some (.int .i64 d.k) ∧ w'.cell? ⟨eb, 5, none⟩ = some (.int .i64 d.num) ∧ w'.cell? ⟨eb, 6, none⟩ = some (.int .i64 d.den) ∧ w'.cell? ⟨eb, 7, none⟩ = some (.string d.name) ∧ w'.cell? ⟨eb, 8, none⟩ = some (.slice E1 d.ms.length e1) ∧ w'.cell? ⟨eb, 9, none⟩ = some (.slice E2 d.bys.length e2) ∧ w'.cell? ⟨eb, 10, none⟩ = some (.slice E3 p e3)) (first | with_reducible exact HKE.out | with_reducible exact at11_allocd _ HKE2.out HLE.out | with_reducible exact HKE9.out)
              ((refine step_append_lies _ (by rfl) _ _ 33 (by rfl) (w.heap.size + 1) 35 j0 _ 11 144 Tryz.underlying33 HJ.out.1 HJ.out.2.1 HJ.out.2.2.1 HJ.out.2.2.2 rfl (by decide) (.slice AS q sc) q (((st.take q).zip (cs.take q)).flatMap ndL) (by rfl) HOWN.out ⟨wd.heap.size, 0, none⟩ 1 1 (ndL (.node d (st.drop q), .slice E1 d.ms.length e1, .slice E2 d.bys.length e2, .slice E3 p e3)) (by rfl) rfl HNEW.out HONE2.out (by omega) (by unfold maxLen; omega) (by omega) (by rw [szd]; omega) (wd.heap.size + 1) (szd _ _) ?_; intro g9 cap9 w9 hown9 hgr9 hat9 hlt9; have HS9 := Box.mk (HE.out.push hqs hown9 hgr9 hat9); have HKE9 : Box (At11z w9 eb d (.slice E1 d.ms.length e1) (.slice E2 d.bys.length e2) (.slice E3 p e3)) := ⟨at11_sub HKE2.out fun o => World.cell?_of_block (a := ⟨eb, o, none⟩) ((hgr9.block eb (by rw [szd]; have := HLE.out; omega) (fun e => HE.out.ne (by cases AS <;> exact e.symm))).trans ((bad1 wd _).block eb HLE.out))⟩; clear hown9 hgr9 hat9 hlt9))
            go_wp2_with fail
            go_roundw
            case rel => exact ⟨k + 1, st.take q ++ [.node d (st.drop q)], cs.take q ++ [(.slice E1 d.ms.length e1, .slice E2 d.bys.length e2, .slice E3 p e3)], by omega, by go_num, ⟨by rw [HM.out.1, HSTEP.out], by rw [List.length_append, List.length_take]; simp only [List.length_cons, List.length_nil]; omega⟩, HS9⟩
            case measure => simp [intOf]; omega
        · have HTM : Box (treeM l = (zeroT, 1)) := ⟨tree_bad hl (by rw [HM.out.1, HDR.out]; exact stack_bad (fun h => hfew (by rw [← HP.out]; exact h.2)))⟩
          have hg1 : (st.length : Int) < (p : Int) := by omega
          have hg2 : ¬ ((p : Int) < 0) := by omega
          clear hfew hkd
          obtain ⟨z0, z1, z2, z3, z4, z5, z6, z7, z8, z9, z10⟩ := blk11z (d := zNd) HS1.out.1.z
          have zf := HS1.out.1.z.frozen

          go_wp2_with fail
          refine (CP.out _).mono ?_
          rintro e7 w7 ⟨rfl, rfl⟩
          go_wp2_with fail
          have HF : Box (Blk (put11 w7 w.heap.size (.int .i64 0) (.int .i64 0) (.int .i64 0) (.int .i64 0) (.int .i64 0) (.int .i64 0) (.int .i64 0) (.string ⟨#[]⟩) (.slice none 0 0) (.slice none 0 0) (.slice none 0 0)) w.heap.size 35 zeroC ∧ Below w.heap.size w (put11 w7 w.heap.size (.int .i64 0) (.int .i64 0) (.int .i64 0) (.int .i64 0) (.int .i64 0) (.int .i64 0) (.int .i64 0) (.string ⟨#[]⟩) (.slice none 0 0) (.slice none 0 0) (.slice none 0 0))) := ⟨put11_blk HS1.out.1.z, HS1.out.1.below.trans (put11_below (Nat.le_refl _) ..)⟩
          show bodyPost _ _ _ _ _ (put11 w7 w.heap.size (.int .i64 0) (.int .i64 0) (.int .i64 0) (.int .i64 0) (.int .i64 0) (.int .i64 0) (.int .i64 0) (.string ⟨#[]⟩) (.slice none 0 0) (.slice none 0 0) (.slice none 0 0))
          generalize (put11 w7 w.heap.size (.int .i64 0) (.int .i64 0) (.int .i64 0) (.int .i64 0) (.int .i64 0) (.int .i64 0) (.int .i64 0) (.string ⟨#[]⟩) (.slice none 0 0) (.slice none 0 0) (.slice none 0 0)) = WF at HF ⊢
          clear z0 z1 z2 z3 z4 z5 z6 z7 z8 z9 z10 zf
          obtain ⟨e0, e1, e2, e3, e4, e5, e6, e7, e8, e9, e10⟩ := blk11z (d := zNd) HF.out.1
          have ef := HF.out.1.frozen
          refine bodyPost_ret (v := .tuple #[.agg zeroC, .int .i64 1]) (by simp [results, Tryz.results33, go_sem, e0, e1, e2, e3, e4, e5, e6, e7, e8, e9, e10, ef]) rfl ?_
          exact ⟨nilV, nilV, nilV, by rw [HTM.out]; rfl, by rw [HTM.out]; exact zero_tree _ _, HF.out.2⟩

      · have CP : Box (∀ W : World, Calls Tryz.prog 53 #[.int .i64 d.kind] W fun e w' => e = .returned (.int .i64 (-1)) ∧ w' = W) := ⟨fun W => by have h := pops_any d.kind W; rw [pops_no hkd] at h; exact h⟩
        have HTM : Box (treeM l = (zeroT, 1)) := ⟨tree_bad hl (by rw [HM.out.1, HDR.out]; exact stack_bad (fun h => hkd h.1))⟩
        clear hkd
        obtain ⟨z0, z1, z2, z3, z4, z5, z6, z7, z8, z9, z10⟩ := blk11z (d := zNd) HS1.out.1.z
        have zf := HS1.out.1.z.frozen

        go_wp2_with fail
        refine (CP.out _).mono ?_
        rintro e7 w7 ⟨rfl, rfl⟩
        go_wp2_with fail
        have HF : Box (Blk (put11 w7 w.heap.size (.int .i64 0) (.int .i64 0) (.int .i64 0) (.int .i64 0) (.int .i64 0) (.int .i64 0) (.int .i64 0) (.string ⟨#[]⟩) (.slice none 0 0) (.slice none 0 0) (.slice none 0 0)) w.heap.size 35 zeroC ∧ Below w.heap.size w (put11 w7 w.heap.size (.int .i64 0) (.int .i64 0) (.int .i64 0) (.int .i64 0) (.int .i64 0) (.int .i64 0) (.int .i64 0) (.string ⟨#[]⟩) (.slice none 0 0) (.slice none 0 0) (.slice none 0 0))) := ⟨put11_blk HS1.out.1.z, HS1.out.1.below.trans (put11_below (Nat.le_refl _) ..)⟩
        show bodyPost _ _ _ _ _ (put11 w7 w.heap.size (.int .i64 0) (.int .i64 0) (.int .i64 0) (.int .i64 0) (.int .i64 0) (.int .i64 0) (.int .i64 0) (.string ⟨#[]⟩) (.slice none 0 0) (.slice none 0 0) (.slice none 0 0))
        generalize (put11 w7 w.heap.size (.int .i64 0) (.int .i64 0) (.int .i64 0) (.int .i64 0) (.int .i64 0) (.int .i64 0) (.int .i64 0) (.string ⟨#[]⟩) (.slice none 0 0) (.slice none 0 0) (.slice none 0 0)) = WF at HF ⊢
        clear z0 z1 z2 z3 z4 z5 z6 z7 z8 z9 z10 zf
        obtain ⟨e0, e1, e2, e3, e4, e5, e6, e7, e8, e9, e10⟩ := blk11z (d := zNd) HF.out.1
        have ef := HF.out.1.frozen
        refine bodyPost_ret (v := .tuple #[.agg zeroC, .int .i64 1]) (by simp [results, Tryz.results33, go_sem, e0, e1, e2, e3, e4, e5, e6, e7, e8, e9, e10, ef]) rfl ?_
        exact ⟨nilV, nilV, nilV, by rw [HTM.out]; rfl, by rw [HTM.out]; exact zero_tree _ _, HF.out.2⟩

    · have hlt2 : ¬ (k : Int) < (l.length : Int) := by omega
      have hke : k = l.length := by omega
      subst hke
      have HM2 : Box (stackM l [] = some st) := ⟨by rw [HM.out.1, List.drop_length]; rfl⟩
      by_cases h1 : st.length = 1
      · obtain ⟨t, ht⟩ : ∃ t, st = [t] := List.length_eq_one_iff.1 h1
        subst ht
        clear hsc1 h1
        obtain ⟨g, rfl⟩ : ∃ g, AS = some ⟨g, 0, none⟩ := by
          rcases hsc3 with ⟨-, h⟩ | ⟨g, h, -⟩
          · cases h
          · exact ⟨g, h⟩
        obtain ⟨mv, bv, kv, hT, h11⟩ := HS.out.stk.one
        obtain ⟨d, ks⟩ := t
        obtain ⟨T1, t1, rfl, -⟩ := hT.nod.ms.form
        obtain ⟨T2, t2, rfl, -⟩ := hT.nod.bys.form
        obtain ⟨T3, t3, rfl, -⟩ := hT.nod.kform
        have h1n : ((1 : Nat) != 1) = false := rfl
        have HT := Box.mk hT
        have h11' : At11z wr g d (.slice T1 d.ms.length t1) (.slice T2 d.bys.length t2) (.slice T3 ks.length t3) := h11
        have H11 := Box.mk h11'
        obtain ⟨k0, k1, k2, k3, k4, k5, k6, k7, k8, k9, k10⟩ := h11'
        clear hT h11 hsc3
        have HLEN : Box (([.node d ks] : List Tree).length = 1) := ⟨rfl⟩
        simp only [List.length_cons, List.length_nil, Nat.zero_add]
        obtain ⟨er, her⟩ : ∃ er, validE (.node d ks) = er := ⟨_, rfl⟩
        have HER := Box.mk her
        have CV : Box (Calls Tryz.prog 43 #[.agg (ndC d (.slice T1 d.ms.length t1) (.slice T2 d.bys.length t2) (.slice T3 ks.length t3))] wr (RetB (.int .i64 er) wr)) := ⟨by rw [← her]; exact pvalid_any (.node d ks) _ wr (.slice T1 d.ms.length t1, .slice T2 d.bys.length t2, .slice T3 ks.length t3) HT.out (HW.out.below HS.out.below)⟩
        clear her
        by_cases h0 : er = 0
        · subst h0
          have HTM : Box (treeM l = (.node d ks, 0)) := ⟨by rw [treeM_one hl HM2.out, if_pos HER.out]⟩
          go_wp2_with fail
          refine (CV.out).mono ?_
          rintro e7 w7 ⟨rfl, hb7⟩
          have HS7 := Box.mk (HS.out.next hb7)
          have HT7 : Box (TreeAt w7 (fun b _ => b ≠ w.heap.size) (.node d ks) (.slice T1 d.ms.length t1, .slice T2 d.bys.length t2, .slice T3 ks.length t3)) := ⟨HT.out.belo hb7⟩
          have h7 := at11_sub H11.out fun o => World.cell?_of_block (a := ⟨g, o, none⟩) (hb7.block g (cell_lt H11.out.1))
          have hzz := HS.out.stk.own
          obtain ⟨s0, s1, s2, s3, s4, s5, s6, s7, s8, s9, s10⟩ := h7
          have hzw := HS.out.below.size
          clear k0 k1 k2 k3 k4 k5 k6 k7 k8 k9 k10 hb7 HS H11 hzz
          obtain ⟨z0, z1, z2, z3, z4, z5, z6, z7, z8, z9, z10⟩ := blk11z (d := zNd) HS7.out.z
          have zf := HS7.out.z.frozen

          go_wp2_with fail
          have HF : Box (Blk (put11 w7 w.heap.size (.int .i64 d.kind) (.int .i64 d.fn) (.int .i64 d.win) (.int .i64 d.off) (.int .i64 d.k) (.int .i64 d.num) (.int .i64 d.den) (.string d.name) (.slice T1 d.ms.length t1) (.slice T2 d.bys.length t2) (.slice T3 ks.length t3)) w.heap.size 35 (ndC d (.slice T1 d.ms.length t1) (.slice T2 d.bys.length t2) (.slice T3 ks.length t3)) ∧ Below w.heap.size w (put11 w7 w.heap.size (.int .i64 d.kind) (.int .i64 d.fn) (.int .i64 d.win) (.int .i64 d.off) (.int .i64 d.k) (.int .i64 d.num) (.int .i64 d.den) (.string d.name) (.slice T1 d.ms.length t1) (.slice T2 d.bys.length t2) (.slice T3 ks.length t3)) ∧ TreeAt (put11 w7 w.heap.size (.int .i64 d.kind) (.int .i64 d.fn) (.int .i64 d.win) (.int .i64 d.off) (.int .i64 d.k) (.int .i64 d.num) (.int .i64 d.den) (.string d.name) (.slice T1 d.ms.length t1) (.slice T2 d.bys.length t2) (.slice T3 ks.length t3)) AnyP (.node d ks) (.slice T1 d.ms.length t1, .slice T2 d.bys.length t2, .slice T3 ks.length t3)) := ⟨put11_blk HS7.out.z, HS7.out.below.trans (put11_below (Nat.le_refl _) ..), (HT7.out.keep (Agree.of_only (put11_only ..) fun b _ h => h)).mono fun _ _ _ _ => trivial⟩
          show bodyPost _ _ _ _ _ (put11 w7 w.heap.size (.int .i64 d.kind) (.int .i64 d.fn) (.int .i64 d.win) (.int .i64 d.off) (.int .i64 d.k) (.int .i64 d.num) (.int .i64 d.den) (.string d.name) (.slice T1 d.ms.length t1) (.slice T2 d.bys.length t2) (.slice T3 ks.length t3))
          generalize (put11 w7 w.heap.size (.int .i64 d.kind) (.int .i64 d.fn) (.int .i64 d.win) (.int .i64 d.off) (.int .i64 d.k) (.int .i64 d.num) (.int .i64 d.den) (.string d.name) (.slice T1 d.ms.length t1) (.slice T2 d.bys.length t2) (.slice T3 ks.length t3)) = WF at HF ⊢
          clear z0 z1 z2 z3 z4 z5 z6 z7 z8 z9 z10 zf s0 s1 s2 s3 s4 s5 s6 s7 s8 s9 s10
          obtain ⟨f0, f1, f2, f3, f4, f5, f6, f7, f8, f9, f10⟩ := blk11z (d := d) HF.out.1
          have ef := HF.out.1.frozen
          refine bodyPost_ret (v := .tuple #[.agg (ndC d (.slice T1 d.ms.length t1) (.slice T2 d.bys.length t2) (.slice T3 ks.length t3)), .int .i64 0]) (by simp [results, Tryz.results33, go_sem, f0, f1, f2, f3, f4, f5, f6, f7, f8, f9, f10, ef]) rfl ?_
          exact ⟨.slice T1 d.ms.length t1, .slice T2 d.bys.length t2, .slice T3 ks.length t3, by rw [HTM.out]; rfl, by rw [HTM.out]; exact HF.out.2.2, HF.out.2.1⟩
        · have h1 : (er != 0) = true := by simpa using h0
          have h2 : (er == 0) = false := by simpa using h0
          have HTM : Box (treeM l = (zeroT, er)) := ⟨by rw [treeM_one hl HM2.out, if_neg (by rw [HER.out]; exact h0), HER.out]⟩
          clear h0
          go_wp2_with fail
          refine (CV.out).mono ?_
          rintro e7 w7 ⟨rfl, hb7⟩
          have HS7 := Box.mk (HS.out.next hb7)
          clear k0 k1 k2 k3 k4 k5 k6 k7 k8 k9 k10 hb7 HS H11
          obtain ⟨z0, z1, z2, z3, z4, z5, z6, z7, z8, z9, z10⟩ := blk11z (d := zNd) HS7.out.z
          have zf := HS7.out.z.frozen

          go_wp2_with fail
          have HF : Box (Blk (put11 w7 w.heap.size (.int .i64 0) (.int .i64 0) (.int .i64 0) (.int .i64 0) (.int .i64 0) (.int .i64 0) (.int .i64 0) (.string ⟨#[]⟩) (.slice none 0 0) (.slice none 0 0) (.slice none 0 0)) w.heap.size 35 zeroC ∧ Below w.heap.size w (put11 w7 w.heap.size (.int .i64 0) (.int .i64 0) (.int .i64 0) (.int .i64 0) (.int .i64 0) (.int .i64 0) (.int .i64 0) (.string ⟨#[]⟩) (.slice none 0 0) (.slice none 0 0) (.slice none 0 0))) := ⟨put11_blk HS7.out.z, HS7.out.below.trans (put11_below (Nat.le_refl _) ..)⟩
          show bodyPost _ _ _ _ _ (put11 w7 w.heap.size (.int .i64 0) (.int .i64 0) (.int .i64 0) (.int .i64 0) (.int .i64 0) (.int .i64 0) (.int .i64 0) (.string ⟨#[]⟩) (.slice none 0 0) (.slice none 0 0) (.slice none 0 0))
          generalize (put11 w7 w.heap.size (.int .i64 0) (.int .i64 0) (.int .i64 0) (.int .i64 0) (.int .i64 0) (.int .i64 0) (.int .i64 0) (.string ⟨#[]⟩) (.slice none 0 0) (.slice none 0 0) (.slice none 0 0)) = WF at HF ⊢
          clear z0 z1 z2 z3 z4 z5 z6 z7 z8 z9 z10 zf
          obtain ⟨e0, e1, e2, e3, e4, e5, e6, e7, e8, e9, e10⟩ := blk11z (d := zNd) HF.out.1
          have ef := HF.out.1.frozen
          refine bodyPost_ret (v := .tuple #[.agg zeroC, .int .i64 er]) (by simp [results, Tryz.results33, go_sem, e0, e1, e2, e3, e4, e5, e6, e7, e8, e9, e10, ef]) rfl ?_
          exact ⟨nilV, nilV, nilV, by rw [HTM.out]; rfl, by rw [HTM.out]; exact zero_tree _ _, HF.out.2⟩

      · have h1i : ((st.length : Int) != 1) = true := by simp; omega
        have h1i' : ((st.length : Int) == 1) = false := by simp; omega
        have h1n : (st.length != 1) = true := by simpa using h1
        have HTM : Box (treeM l = (zeroT, 1)) := ⟨tree_many hl HM2.out h1⟩
        clear h1
        obtain ⟨z0, z1, z2, z3, z4, z5, z6, z7, z8, z9, z10⟩ := blk11z (d := zNd) HS.out.z
        have zf := HS.out.z.frozen

        go_wp2_with fail
        have HF : Box (Blk (put11 wr w.heap.size (.int .i64 0) (.int .i64 0) (.int .i64 0) (.int .i64 0) (.int .i64 0) (.int .i64 0) (.int .i64 0) (.string ⟨#[]⟩) (.slice none 0 0) (.slice none 0 0) (.slice none 0 0)) w.heap.size 35 zeroC ∧ Below w.heap.size w (put11 wr w.heap.size (.int .i64 0) (.int .i64 0) (.int .i64 0) (.int .i64 0) (.int .i64 0) (.int .i64 0) (.int .i64 0) (.string ⟨#[]⟩) (.slice none 0 0) (.slice none 0 0) (.slice none 0 0))) := ⟨put11_blk HS.out.z, HS.out.below.trans (put11_below (Nat.le_refl _) ..)⟩
        show bodyPost _ _ _ _ _ (put11 wr w.heap.size (.int .i64 0) (.int .i64 0) (.int .i64 0) (.int .i64 0) (.int .i64 0) (.int .i64 0) (.int .i64 0) (.string ⟨#[]⟩) (.slice none 0 0) (.slice none 0 0) (.slice none 0 0))
        generalize (put11 wr w.heap.size (.int .i64 0) (.int .i64 0) (.int .i64 0) (.int .i64 0) (.int .i64 0) (.int .i64 0) (.int .i64 0) (.string ⟨#[]⟩) (.slice none 0 0) (.slice none 0 0) (.slice none 0 0)) = WF at HF ⊢
        clear z0 z1 z2 z3 z4 z5 z6 z7 z8 z9 z10 zf
        obtain ⟨e0, e1, e2, e3, e4, e5, e6, e7, e8, e9, e10⟩ := blk11z (d := zNd) HF.out.1
        have ef := HF.out.1.frozen
        refine bodyPost_ret (v := .tuple #[.agg zeroC, .int .i64 1]) (by simp [results, Tryz.results33, go_sem, e0, e1, e2, e3, e4, e5, e6, e7, e8, e9, e10, ef]) rfl ?_
        exact ⟨nilV, nilV, nilV, by rw [HTM.out]; rfl, by rw [HTM.out]; exact zero_tree _ _, HF.out.2⟩
end
end Go.Proofs.YtpgdijbfkahepaaGreatDoor
