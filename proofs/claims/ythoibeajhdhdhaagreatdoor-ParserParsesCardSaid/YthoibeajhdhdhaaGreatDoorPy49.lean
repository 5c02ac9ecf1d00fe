/- Contracts, packed: On. -/
import Derived.Test.YthoibeajhdhdhaaGreatDoorPy42
import Derived.Test.YthoibeajhdhdhaaGreatDoorPy48
set_option linter.unusedVariables false
set_option linter.unusedSimpArgs false
namespace Go.Proofs.YthoibeajhdhdhaaGreatDoor
section
open Go.RowKit FracM
theorem RetU.fin {g : Nat} {A : Option Addr} {c : Nat} {N : Int} {toks : List Tok} {w WF : World} {B : Nat} {r : Res Tree} {d : Nd} {A1 : Option Addr} {n1 c1 : Nat} {A2 : Option Addr} {n2 c2 : Nat} {A3 : Option Addr} {n3 c3 : Nat} (ho : Only g w WF) (hp : RX WF g A c N toks (sOf r))
  (hv : ∀ t us, r = .ok (t, us) → ∃ ks, t = .node d ks ∧ TreeAt WF (fun b _ => B ≤ b) (.node d ks) ((.slice A1 n1 c1), (.slice A2 n2 c2), (.slice A3 n3 c3))) : RetU g A c N toks w r (VTr B) GTr (.returned (.agg (ndC d (.slice A1 n1 c1) (.slice A2 n2 c2) (.slice A3 n3 c3)))) WF := by
 match r, hp, hv with
 | .error f, hp, _ => exact RetU.er rfl ho hp ⟨_, _, _, _, _, _, _, _, _, _, rfl⟩
 | .ok (t, us), hp, hv =>
  obtain ⟨ks, rfl, ht⟩ := hv t us rfl
  exact RetU.ok rfl ho hp ⟨_, _, _, rfl, ht⟩
set_option maxHeartbeats 2000000 in
set_option maxRecDepth 100000 in
theorem rfactor_bad {g : Nat} {A : Option Addr} {c : Nat} {N : Int} {toks : List Tok} {f : Int × Int} {w : World} (h : RX w g A c N toks (.error f)) : Calls Tryz.prog 129 #[.pointer (some ⟨g, 0, none⟩)] w (RetU g A c N toks w (.error f : Res Tree) (VTr w.heap.size) GTr) := by
 have hg := h.lt
 have HP0 : Box (RX (w.alloc (.cells zeroC 29)) g A c N toks (.error f)) := ⟨h.below (bel1 _ _)⟩
 have HR0 : Box (Blk (w.alloc (.cells zeroC 29)) w.heap.size 29 zeroC ∧ Only g w (w.alloc (.cells zeroC 29))) := ⟨Blk.new _ _ _, Only.of_below (bel1 _ _)⟩
 have he2 : (f.2 != 0) = true := by have := h.bad rfl; simpa using this
 clear h
 go_enter Tryz.func129, Tryz.ntmps129
 go_upto_region 1 with (fail)
 generalize w.alloc (.cells zeroC 29) = W0 at HP0 HR0 ⊢
 have c4 : W0.cell? ⟨g, 4, none⟩ = some (.int .i64 f.2) := HP0.out.err
 obtain ⟨z0, z1, z2, z3, z4, z5, z6, z7, z8, z9, z10⟩ := blkE HR0.out.1
 have zf := HR0.out.1.frozen
 go_wp2_with fail
 have HA : Box (Only g w (put11 W0 w.heap.size (.int .i64 0) (.int .i64 0) (.int .i64 0) (.int .i64 0) (.int .i64 0) (.int .i64 0) (.int .i64 0) (.string ⟨#[]⟩) nilV nilV nilV) ∧ RX (put11 W0 w.heap.size (.int .i64 0) (.int .i64 0) (.int .i64 0) (.int .i64 0) (.int .i64 0) (.int .i64 0) (.int .i64 0) (.string ⟨#[]⟩) nilV nilV nilV) g A c N toks _ ∧ Agree (fun b _ => w.heap.size < b) W0 (put11 W0 w.heap.size (.int .i64 0) (.int .i64 0) (.int .i64 0) (.int .i64 0) (.int .i64 0) (.int .i64 0) (.int .i64 0) (.string ⟨#[]⟩) nilV nilV nilV)) := ⟨HR0.out.2.low_then (put11_below (Nat.le_refl _) ..), HP0.out.onlyk (put11_only ..) hg, Agree.of_only (put11_only ..) fun b _ hb => by omega⟩
 have HBL : Box (Blk (put11 W0 w.heap.size (.int .i64 0) (.int .i64 0) (.int .i64 0) (.int .i64 0) (.int .i64 0) (.int .i64 0) (.int .i64 0) (.string ⟨#[]⟩) nilV nilV nilV) w.heap.size 29 (ndC ⟨0, 0, 0, 0, 0, 0, 0, ⟨#[]⟩, [], []⟩ nilV nilV nilV)) := ⟨put11_blk HR0.out.1⟩
 show bodyPost _ _ _ _ _ (put11 W0 w.heap.size (.int .i64 0) (.int .i64 0) (.int .i64 0) (.int .i64 0) (.int .i64 0) (.int .i64 0) (.int .i64 0) (.string ⟨#[]⟩) nilV nilV nilV)
 generalize put11 W0 w.heap.size (.int .i64 0) (.int .i64 0) (.int .i64 0) (.int .i64 0) (.int .i64 0) (.int .i64 0) (.int .i64 0) (.string ⟨#[]⟩) nilV nilV nilV = WF at HA HBL ⊢
 clear z0 z1 z2 z3 z4 z5 z6 z7 z8 z9 z10 zf
 obtain ⟨e0, e1, e2, e3, e4, e5, e6, e7, e8, e9, e10⟩ := blkE HBL.out
 have ef := HBL.out.frozen
 refine bodyPost_ret (v := .agg (ndC ⟨0, 0, 0, 0, 0, 0, 0, ⟨#[]⟩, [], []⟩ nilV nilV nilV)) (by simp [results, Tryz.results129, go_sem, e0, e1, e2, e3, e4, e5, e6, e7, e8, e9, e10, ef]) rfl ?_
 exact RetU.er rfl HA.out.1 HA.out.2.1 ⟨⟨0, 0, 0, 0, 0, 0, 0, ⟨#[]⟩, [], []⟩, none, 0, 0, none, 0, 0, none, 0, 0, rfl⟩
theorem fac_paren {N : Int} {ex : List Tok → Res Tree} {s sb : StP} {Mm : Res Tree} (h1 : sOf (bindS s ex) = sb) (h2 : bindS s (fun ts => andR (ex ts) fun t ts1 => andR (symbolM N sShut ts1) fun _ ts2 => .ok (t, ts2)) = Mm) :
  sOf (bindS sb (symbolM N sShut)) = sOf Mm ∧ ∀ t us, Mm = .ok (t, us) → ∃ us1, bindS s ex = .ok (t, us1) := by
 subst h1 h2
 match s with
 | .error e => exact ⟨rfl, fun t us h => (by cases h)⟩
 | .ok ts =>
  show sOf (bindS (sOf (ex ts)) (symbolM N sShut)) = sOf (andR (ex ts) _) ∧ ∀ t us, andR (ex ts) _ = .ok (t, us) → ∃ us1, ex ts = .ok (t, us1)
  cases hq : ex ts with
  | error e => exact ⟨rfl, fun t us h => (by cases h)⟩
  | ok p =>
   obtain ⟨t, us⟩ := p
   show sOf (symbolM N sShut us) = sOf (andR (symbolM N sShut us) _) ∧ ∀ t' us', andR (symbolM N sShut us) _ = .ok (t', us') → _
   cases hs : symbolM N sShut us with
   | error e => exact ⟨rfl, fun t us h => (by cases h)⟩
   | ok p => obtain ⟨u, vs⟩ := p; exact ⟨rfl, fun t' us' h => (by cases h; exact ⟨_, rfl⟩)⟩
set_option maxHeartbeats 8000000 in
set_option maxRecDepth 100000 in
theorem rfactor_of {g : Nat} {A : Option Addr} {c : Nat} {N : Int} {toks : List Tok} {n : Nat} (hS : TreeOk 68 g A c N toks (exprOf (facM N n)) n) : TreeOk 129 g A c N toks (facM N (n + 1)) (n + 1) := by
 intro w s hlen h
 match s, hlen, h with
 | .error f, _, h => exact rfactor_bad h
 | .ok ts, hlen, h =>
 have HL := Box.mk (hlen ts rfl)
 have HWF := Box.mk (h.wfd rfl)
 have HS := Box.mk hS
 have hg := h.lt
 have HP0 : Box (RX (w.alloc (.cells zeroC 29)) g A c N toks (.ok ts)) := ⟨h.below (bel1 _ _)⟩
 have HR0 : Box (Blk (w.alloc (.cells zeroC 29)) w.heap.size 29 zeroC ∧ Only g w (w.alloc (.cells zeroC 29))) := ⟨Blk.new _ _ _, Only.of_below (bel1 _ _)⟩
 obtain ⟨Mm, HMM⟩ : ∃ Mm, Box (facM N (n + 1) ts = Mm) := ⟨_, ⟨rfl⟩⟩
 show Calls Tryz.prog _ _ w (RetU g A c N toks w (facM N (n + 1) ts) (VTr w.heap.size) GTr)
 rw [HMM.out]
 clear h hlen hS
 go_enter Tryz.func129, Tryz.ntmps129
 go_upto_region 1 with (fail)
 generalize w.alloc (.cells zeroC 29) = W0 at HP0 HR0 ⊢
 have c4 : W0.cell? ⟨g, 4, none⟩ = some (.int .i64 0) := HP0.out.err
 go_upto_region 3 with (fail)
 clear c4
 go_wp2_with fail
 refine (rkind_u HP0.out).mono ?_
 rintro e w1 ⟨z, rfl, hz, m1, rfl⟩
 have HZ := Box.mk (hz ts rfl)
 have HP1 := Box.mk (HP0.out.drewN m1)
 have HR1 : Box (Blk (W0.drewN m1) w.heap.size 29 zeroC ∧ Only g w (W0.drewN m1)) := ⟨HR0.out.1.below (below_drewN _ _), HR0.out.2.trans (Only.of_below (below_drewN _ _))⟩
 clear HP0 HR0 hz
 generalize W0.drewN m1 = W1 at HP1 HR1 ⊢
 by_cases hk1 : z = 1
 ·have HK1 : Box (kindT ts 1 = true) := ⟨by
   have h1 := HZ.out
   rw [hk1] at h1
   cases ts with
   | nil => cases h1
   | cons t r => show (t.kind == 1) = true; rw [show t.kind = 1 from h1.symm]; rfl⟩
  have hz1 : (z == 1) = true := by simp [hk1]
  obtain ⟨k, HK⟩ : ∃ k, Box (intR (bindS (.ok ts) (numberM N 0 1073741824)) = k) := ⟨_, ⟨rfl⟩⟩
  have HNM : Box (numberM N 0 1073741824 ts = .ok (k, ts.tail) ∧ Mm = .ok (numT k, ts.tail) ∧ (0 ≤ k ∧ k ≤ 1073741824)) := ⟨by
   have h1 := HK1.out
   have h2 := HK.out
   have h3 : intR (numberM N 0 1073741824 ts) = k := h2
   have hm : Mm = .ok (numT (headT ts).n, ts.tail) := by rw [← HMM.out]; unfold facM; rw [h1]; rfl
   obtain ⟨t, r, rfl⟩ := kindT_cons h1
   have hn := (HWF.out.2 t (by simp)).n
   have hq : numberM N 0 1073741824 (t :: r) = .ok (t.n, r) := by
    unfold numberM
    rw [h1, if_pos rfl, if_neg (by show ¬ (t.n < 0 ∨ 1073741824 < t.n); omega)]
    rfl
   rw [hq] at h3
   have h4 : t.n = k := h3
   subst h4
   exact ⟨hq, hm, hn⟩⟩
  clear hk1
  go_wp2_with fail
  refine (rnumber_v 0 1073741824 HP1.out).mono ?_
  rw [HK.out]
  rintro e w2 ⟨rfl, ho, hp⟩
  have HP2 : Box (RX w2 g A c N toks (.ok ts.tail)) := ⟨by
   have h1 : sOf (bindS (.ok ts) (numberM N 0 1073741824)) = .ok ts.tail := by show sOf (numberM N 0 1073741824 ts) = _; rw [HNM.out.1]; rfl
   rw [h1] at hp; exact hp⟩
  have HR2 : Box (Blk w2 w.heap.size 29 zeroC ∧ Only g w w2) := ⟨ho.blk HR1.out.1 (by omega), HR1.out.2.trans ho⟩
  clear ho hp HP1 HR1
  obtain ⟨z0, z1, z2, z3, z4, z5, z6, z7, z8, z9, z10⟩ := blkE HR2.out.1
  have zf := HR2.out.1.frozen
  go_wp2_with fail
  have HA : Box (Only g w (put11 w2 w.heap.size (.int .i64 0) (.int .i64 0) (.int .i64 0) (.int .i64 0) (.int .i64 0) (.int .i64 k) (.int .i64 1) (.string ⟨#[]⟩) nilV nilV nilV) ∧ RX (put11 w2 w.heap.size (.int .i64 0) (.int .i64 0) (.int .i64 0) (.int .i64 0) (.int .i64 0) (.int .i64 k) (.int .i64 1) (.string ⟨#[]⟩) nilV nilV nilV) g A c N toks _ ∧ Agree (fun b _ => w.heap.size < b) w2 (put11 w2 w.heap.size (.int .i64 0) (.int .i64 0) (.int .i64 0) (.int .i64 0) (.int .i64 0) (.int .i64 k) (.int .i64 1) (.string ⟨#[]⟩) nilV nilV nilV)) := ⟨HR2.out.2.low_then (put11_below (Nat.le_refl _) ..), HP2.out.onlyk (put11_only ..) hg, Agree.of_only (put11_only ..) fun b _ hb => by omega⟩
  have HBL : Box (Blk (put11 w2 w.heap.size (.int .i64 0) (.int .i64 0) (.int .i64 0) (.int .i64 0) (.int .i64 0) (.int .i64 k) (.int .i64 1) (.string ⟨#[]⟩) nilV nilV nilV) w.heap.size 29 (ndC ⟨0, 0, 0, 0, 0, k, 1, ⟨#[]⟩, [], []⟩ nilV nilV nilV)) := ⟨put11_blk HR2.out.1⟩
  show bodyPost _ _ _ _ _ (put11 w2 w.heap.size (.int .i64 0) (.int .i64 0) (.int .i64 0) (.int .i64 0) (.int .i64 0) (.int .i64 k) (.int .i64 1) (.string ⟨#[]⟩) nilV nilV nilV)
  generalize put11 w2 w.heap.size (.int .i64 0) (.int .i64 0) (.int .i64 0) (.int .i64 0) (.int .i64 0) (.int .i64 k) (.int .i64 1) (.string ⟨#[]⟩) nilV nilV nilV = WF at HA HBL ⊢
  clear z0 z1 z2 z3 z4 z5 z6 z7 z8 z9 z10 zf
  obtain ⟨e0, e1, e2, e3, e4, e5, e6, e7, e8, e9, e10⟩ := blkE HBL.out
  have ef := HBL.out.frozen
  refine bodyPost_ret (v := .agg (ndC ⟨0, 0, 0, 0, 0, k, 1, ⟨#[]⟩, [], []⟩ nilV nilV nilV)) (by simp [results, Tryz.results129, go_sem, e0, e1, e2, e3, e4, e5, e6, e7, e8, e9, e10, ef]) rfl ?_
  exact RetU.ok HNM.out.2.1 HA.out.1 HA.out.2.1 ⟨_, _, _, rfl, kleaf_at (numOk k HNM.out.2.2) (SeqP.nil _ _ _) (SeqP.nil _ _ _)⟩
 ·have HK1 : Box (kindT ts 1 = false) := ⟨by
   have h1 := HZ.out
   cases ts with
   | nil => rfl
   | cons t r => show (t.kind == 1) = false; have h2 : z = t.kind := h1; rw [← h2]; simpa using hk1⟩
  have hz1 : (z == 1) = false := by simpa using hk1
  clear hk1
  go_upto_if 18 with (go_at_call 105; refine (ris_s sOpen ⟨#[40]⟩ rfl sOpen_sym HP1.out).mono ?_; rintro e w2 ⟨b, rfl, hb, m2, rfl⟩; have HB := Box.mk (hb ts rfl); clear hb)
  clear hz1
  have HP2 := Box.mk (HP1.out.drewN m2)
  have HR2 : Box (Blk (W1.drewN m2) w.heap.size 29 zeroC ∧ Only g w (W1.drewN m2)) := ⟨HR1.out.1.below (below_drewN _ _), HR1.out.2.trans (Only.of_below (below_drewN _ _))⟩
  clear HP1 HR1
  generalize W1.drewN m2 = W2 at HP2 HR2 ⊢
  cases b
  ·go_wp2_with fail
   refine (rkind_u HP2.out).mono ?_
   rintro e w3 ⟨z2, rfl, hz, m3, rfl⟩
   have HZ2 := Box.mk (hz ts rfl)
   have HP3 := Box.mk (HP2.out.drewN m3)
   have HR3 : Box (Blk (W2.drewN m3) w.heap.size 29 zeroC ∧ Only g w (W2.drewN m3)) := ⟨HR2.out.1.below (below_drewN _ _), HR2.out.2.trans (Only.of_below (below_drewN _ _))⟩
   clear HP2 HR2 hz
   generalize W2.drewN m3 = W3 at HP3 HR3 ⊢
   by_cases hk0 : z2 = 0
   ·obtain ⟨t, r, HTS⟩ : ∃ t r, Box (ts = t :: r ∧ t.kind = 0) := by
     obtain ⟨t, r, h1, h2⟩ := kindZ_cons (ts := ts) (by rw [← HZ2.out]; exact hk0)
     exact ⟨t, r, ⟨h1, h2⟩⟩
    have HMC : Box (bindS (.ok ts) (fun ts => andR (wordM N ts) fun x ts1 => if 0 ≤ idxT groupsT x then groupM N (exprOf (facM N n)) (idxT groupsT x) ts1 else selectM N x ts1) = Mm) := ⟨by
     have h1 := HK1.out
     have h2 := HB.out
     obtain ⟨h3, h4⟩ := HTS.out
     rw [← HMM.out]
     show andR (wordM N ts) _ = _
     have h5 : kindT ts 0 = true := by rw [h3]; show (t.kind == 0) = true; rw [h4]; rfl
     unfold facM wordM
     rw [h1, ← h2, h5]
     rfl⟩
    have hz2 : (z2 != 0) = false := by simp [hk0]
    clear hk0
    obtain ⟨tx, HTX⟩ : ∃ tx, Box (bsL t.text = tx) := ⟨_, ⟨rfl⟩⟩
    obtain ⟨iq, HIQ⟩ : ∃ iq, Box (findI tx grpL5 0 = iq) := ⟨_, ⟨rfl⟩⟩
    obtain ⟨i, a, hrp, hok, -⟩ := HP3.out.rp
    have hd : toks.drop i = t :: r := by rw [(hok ts rfl).1]; exact HTS.out.1
    obtain ⟨ht, -, hlt⟩ := drop_cons hd
    obtain ⟨b, off, hA, hb, hne, -, -, k0, k1, k2, k3⟩ := hrp.tok ht
    obtain ⟨d0, d1, d2, d3, d4⟩ := hrp.mem.c5
    rw [hA] at d0
    rw [HTX.out] at k1
    have hlt2 : (i : Int) < (toks.length : Int) := by omega
    have hi0 : (0 : Int) ≤ (i : Int) := by omega
    clear hd ht k0 k2 k3 d2 d3 d4 hrp hok hA
    go_upto_region 13 with (fail)
    clear hz2
    go_cut [45] (fun v wx => ∃ q, v = .bool q ∧ Box (q = decide (iq ≥ 0)) ∧ Box (Below W3.heap.size W3 wx))
    case first =>
     go_region_held3 (fun w' => w'.cell? ⟨g, 0, none⟩ = some (.slice (some ⟨b, off, none⟩) toks.length c) ∧ w'.cell? ⟨g, 1, none⟩ = some (.int .i64 (i : Int)) ∧ w'.cell? ⟨b, off + i * 4 + 1, none⟩ = some (.string tx)) (go_keep)
      (first
       | (go_at_call 103; refine (rgroupsM_any _).mono ?_; rintro e w6 ⟨rfl, rfl⟩)
       | (go_at_call 114; refine (rfind_any _ _ _ grpL5 tx _ ((grp_at W3).keep (Agree.of_below (below_drewN _ 1)))).mono ?_; rw [HIQ.out]; rintro e w7 ⟨rfl, rfl⟩))
     go_wp2_with fail
     go_meet
     exact ⟨_, rfl, ⟨by simp⟩, ⟨bthen (bel1 W3 _) (below_drewN _ _) (by simp)⟩⟩
    case rest =>
     obtain ⟨q, rfl, HQI, HBx⟩ := hcut
     rename World => W4
     clear k1 d0 d1
     have HP4 := Box.mk (HP3.out.below HBx.out)
     have HR4 : Box (Blk W4 w.heap.size 29 zeroC ∧ Only g w W4) := ⟨HR3.out.1.below HBx.out, HR3.out.2.trans (Only.of_below HBx.out)⟩
     have hsz4 : w.heap.size < W4.heap.size := HR4.out.1.lt
     clear HP3 HR3 HBx
     cases q
     rotate_left
     ·have hi : iq ≥ 0 := of_decide_eq_true HQI.out.symm
      have HGX : Box (0 ≤ idxT groupsT t.text) := ⟨by rw [← find_grp, HTX.out, HIQ.out]; exact hi⟩
      clear hi
      go_wp2_with fail
      refine (rgroup_of (s := .ok ts) HS.out (fun ts' hs => by cases hs; exact HL.out) HP4.out).mono ?_
      rw [show bindS (.ok ts) (fun ts => andR (wordM N ts) fun x ts1 => groupM N (exprOf (facM N n)) (idxT groupsT x) ts1) = Mm from by
       rw [← HMC.out]
       obtain ⟨h3, h4⟩ := HTS.out
       rw [h3]
       have h5 : kindT (t :: r) 0 = true := by show (t.kind == 0) = true; rw [h4]; rfl
       show andR (wordM N (t :: r)) _ = andR (wordM N (t :: r)) _
       unfold wordM
       rw [h5]
       show groupM N _ (idxT groupsT t.text) r = if 0 ≤ idxT groupsT t.text then _ else _
       rw [if_pos HGX.out]
       rfl]
      intro e w5 hx
      obtain ⟨ho, hp, d, A1, n1, c1, A2, n2, c2, A3, n3, c3, rfl, hvt⟩ := hx.tree
      have HP5 := Box.mk hp
      have HR5 : Box (Blk w5 w.heap.size 29 zeroC ∧ Only g w w5) := ⟨ho.blk HR4.out.1 (by omega), HR4.out.2.trans ho⟩
      have HVT := Box.mk hvt
      have HSZ4 := Box.mk hsz4
      clear ho hp hvt hx HP4 HR4
      obtain ⟨z0, z1, z2, z3, z4, z5, z6, z7, z8, z9, z10⟩ := blkE HR5.out.1
      have zf := HR5.out.1.frozen
      go_wp2_with fail
      have HA : Box (Only g w (put11 w5 w.heap.size (.int .i64 d.kind) (.int .i64 d.fn) (.int .i64 d.win) (.int .i64 d.off) (.int .i64 d.k) (.int .i64 d.num) (.int .i64 d.den) (.string d.name) (.slice A1 n1 c1) (.slice A2 n2 c2) (.slice A3 n3 c3)) ∧ RX (put11 w5 w.heap.size (.int .i64 d.kind) (.int .i64 d.fn) (.int .i64 d.win) (.int .i64 d.off) (.int .i64 d.k) (.int .i64 d.num) (.int .i64 d.den) (.string d.name) (.slice A1 n1 c1) (.slice A2 n2 c2) (.slice A3 n3 c3)) g A c N toks _ ∧ Agree (fun b _ => w.heap.size < b) w5 (put11 w5 w.heap.size (.int .i64 d.kind) (.int .i64 d.fn) (.int .i64 d.win) (.int .i64 d.off) (.int .i64 d.k) (.int .i64 d.num) (.int .i64 d.den) (.string d.name) (.slice A1 n1 c1) (.slice A2 n2 c2) (.slice A3 n3 c3))) := ⟨HR5.out.2.low_then (put11_below (Nat.le_refl _) ..), HP5.out.onlyk (put11_only ..) hg, Agree.of_only (put11_only ..) fun b _ hb => by omega⟩
      have HBL : Box (Blk (put11 w5 w.heap.size (.int .i64 d.kind) (.int .i64 d.fn) (.int .i64 d.win) (.int .i64 d.off) (.int .i64 d.k) (.int .i64 d.num) (.int .i64 d.den) (.string d.name) (.slice A1 n1 c1) (.slice A2 n2 c2) (.slice A3 n3 c3)) w.heap.size 29 (ndC d (.slice A1 n1 c1) (.slice A2 n2 c2) (.slice A3 n3 c3))) := ⟨put11_blk HR5.out.1⟩
      show bodyPost _ _ _ _ _ (put11 w5 w.heap.size (.int .i64 d.kind) (.int .i64 d.fn) (.int .i64 d.win) (.int .i64 d.off) (.int .i64 d.k) (.int .i64 d.num) (.int .i64 d.den) (.string d.name) (.slice A1 n1 c1) (.slice A2 n2 c2) (.slice A3 n3 c3))
      generalize put11 w5 w.heap.size (.int .i64 d.kind) (.int .i64 d.fn) (.int .i64 d.win) (.int .i64 d.off) (.int .i64 d.k) (.int .i64 d.num) (.int .i64 d.den) (.string d.name) (.slice A1 n1 c1) (.slice A2 n2 c2) (.slice A3 n3 c3) = WF at HA HBL ⊢
      clear z0 z1 z2 z3 z4 z5 z6 z7 z8 z9 z10 zf
      obtain ⟨e0, e1, e2, e3, e4, e5, e6, e7, e8, e9, e10⟩ := blkE HBL.out
      have ef := HBL.out.frozen
      refine bodyPost_ret (v := .agg (ndC d (.slice A1 n1 c1) (.slice A2 n2 c2) (.slice A3 n3 c3))) (by simp [results, Tryz.results129, go_sem, e0, e1, e2, e3, e4, e5, e6, e7, e8, e9, e10, ef]) rfl ?_
      refine RetU.fin HA.out.1 HA.out.2.1 fun t us hq => ?_
      obtain ⟨ks, e1, e2⟩ := HVT.out t us hq
      exact ⟨ks, e1, (e2.mono' (Q := fun b _ => w.heap.size < b) fun b e _ hb => by have := HSZ4.out; omega).keep HA.out.2.2 |>.mono fun b e _ hb => by omega⟩
     ·have hi : ¬ iq ≥ 0 := of_decide_eq_false HQI.out.symm
      have HGX : Box (idxT groupsT t.text < 0) := ⟨by rw [← find_grp, HTX.out, HIQ.out]; omega⟩
      clear hi
      go_wp2_with fail
      refine (rselect_u HP4.out).mono ?_
      rw [show bindS (.ok ts) (fun ts => andR (wordM N ts) fun x ts1 => selectM N x ts1) = Mm from by
       rw [← HMC.out]
       obtain ⟨h3, h4⟩ := HTS.out
       rw [h3]
       have h5 : kindT (t :: r) 0 = true := by show (t.kind == 0) = true; rw [h4]; rfl
       show andR (wordM N (t :: r)) _ = andR (wordM N (t :: r)) _
       unfold wordM
       rw [h5]
       show selectM N t.text r = if 0 ≤ idxT groupsT t.text then _ else _
       rw [if_neg (by have := HGX.out; omega)]
       rfl]
      intro e w5 hx
      obtain ⟨ho, hp, d, A1, n1, c1, A2, n2, c2, A3, n3, c3, rfl, hvt⟩ := hx.tree
      have HP5 := Box.mk hp
      have HR5 : Box (Blk w5 w.heap.size 29 zeroC ∧ Only g w w5) := ⟨ho.blk HR4.out.1 (by omega), HR4.out.2.trans ho⟩
      have HVT := Box.mk hvt
      have HSZ4 := Box.mk hsz4
      clear ho hp hvt hx HP4 HR4
      obtain ⟨z0, z1, z2, z3, z4, z5, z6, z7, z8, z9, z10⟩ := blkE HR5.out.1
      have zf := HR5.out.1.frozen
      go_wp2_with fail
      have HA : Box (Only g w (put11 w5 w.heap.size (.int .i64 d.kind) (.int .i64 d.fn) (.int .i64 d.win) (.int .i64 d.off) (.int .i64 d.k) (.int .i64 d.num) (.int .i64 d.den) (.string d.name) (.slice A1 n1 c1) (.slice A2 n2 c2) (.slice A3 n3 c3)) ∧ RX (put11 w5 w.heap.size (.int .i64 d.kind) (.int .i64 d.fn) (.int .i64 d.win) (.int .i64 d.off) (.int .i64 d.k) (.int .i64 d.num) (.int .i64 d.den) (.string d.name) (.slice A1 n1 c1) (.slice A2 n2 c2) (.slice A3 n3 c3)) g A c N toks _ ∧ Agree (fun b _ => w.heap.size < b) w5 (put11 w5 w.heap.size (.int .i64 d.kind) (.int .i64 d.fn) (.int .i64 d.win) (.int .i64 d.off) (.int .i64 d.k) (.int .i64 d.num) (.int .i64 d.den) (.string d.name) (.slice A1 n1 c1) (.slice A2 n2 c2) (.slice A3 n3 c3))) := ⟨HR5.out.2.low_then (put11_below (Nat.le_refl _) ..), HP5.out.onlyk (put11_only ..) hg, Agree.of_only (put11_only ..) fun b _ hb => by omega⟩
      have HBL : Box (Blk (put11 w5 w.heap.size (.int .i64 d.kind) (.int .i64 d.fn) (.int .i64 d.win) (.int .i64 d.off) (.int .i64 d.k) (.int .i64 d.num) (.int .i64 d.den) (.string d.name) (.slice A1 n1 c1) (.slice A2 n2 c2) (.slice A3 n3 c3)) w.heap.size 29 (ndC d (.slice A1 n1 c1) (.slice A2 n2 c2) (.slice A3 n3 c3))) := ⟨put11_blk HR5.out.1⟩
      show bodyPost _ _ _ _ _ (put11 w5 w.heap.size (.int .i64 d.kind) (.int .i64 d.fn) (.int .i64 d.win) (.int .i64 d.off) (.int .i64 d.k) (.int .i64 d.num) (.int .i64 d.den) (.string d.name) (.slice A1 n1 c1) (.slice A2 n2 c2) (.slice A3 n3 c3))
      generalize put11 w5 w.heap.size (.int .i64 d.kind) (.int .i64 d.fn) (.int .i64 d.win) (.int .i64 d.off) (.int .i64 d.k) (.int .i64 d.num) (.int .i64 d.den) (.string d.name) (.slice A1 n1 c1) (.slice A2 n2 c2) (.slice A3 n3 c3) = WF at HA HBL ⊢
      clear z0 z1 z2 z3 z4 z5 z6 z7 z8 z9 z10 zf
      obtain ⟨e0, e1, e2, e3, e4, e5, e6, e7, e8, e9, e10⟩ := blkE HBL.out
      have ef := HBL.out.frozen
      refine bodyPost_ret (v := .agg (ndC d (.slice A1 n1 c1) (.slice A2 n2 c2) (.slice A3 n3 c3))) (by simp [results, Tryz.results129, go_sem, e0, e1, e2, e3, e4, e5, e6, e7, e8, e9, e10, ef]) rfl ?_
      refine RetU.fin HA.out.1 HA.out.2.1 fun t us hq => ?_
      obtain ⟨ks, e1, e2⟩ := HVT.out t us hq
      exact ⟨ks, e1, (e2.mono' (Q := fun b _ => w.heap.size < b) fun b e _ hb => by have := HSZ4.out; omega).keep HA.out.2.2 |>.mono fun b e _ hb => by omega⟩
   ·have HMC : Box (Mm = .error (failAt ts N, 2)) := ⟨by
     have h1 := HK1.out
     have h2 := HB.out
     have h3 : kindT ts 0 = false := by
      have h4 := HZ2.out
      cases ts with
      | nil => rfl
      | cons t r => show (t.kind == 0) = false; have h5 : z2 = t.kind := h4; rw [← h5]; simpa using hk0
     rw [← HMM.out]
     unfold facM
     rw [h1, ← h2, h3]
     rfl⟩
    have hz2 : (z2 != 0) = true := by simpa using hk0
    clear hk0
    go_wp2_with fail
    refine (rfail_u 2 (by omega) HP3.out).mono ?_
    rintro e w4 ⟨rfl, ho, hp⟩
    have HP4 : Box (RX w4 g A c N toks (.error (failAt ts N, 2))) := ⟨hp⟩
    have HR4 : Box (Blk w4 w.heap.size 29 zeroC ∧ Only g w w4) := ⟨ho.blk HR3.out.1 (by omega), HR3.out.2.trans ho⟩
    clear ho hp HP3 HR3
    obtain ⟨z0, z1, z2, z3, z4, z5, z6, z7, z8, z9, z10⟩ := blkE HR4.out.1
    have zf := HR4.out.1.frozen
    go_wp2_with fail
    have HA : Box (Only g w (put11 w4 w.heap.size (.int .i64 0) (.int .i64 0) (.int .i64 0) (.int .i64 0) (.int .i64 0) (.int .i64 0) (.int .i64 0) (.string ⟨#[]⟩) nilV nilV nilV) ∧ RX (put11 w4 w.heap.size (.int .i64 0) (.int .i64 0) (.int .i64 0) (.int .i64 0) (.int .i64 0) (.int .i64 0) (.int .i64 0) (.string ⟨#[]⟩) nilV nilV nilV) g A c N toks _ ∧ Agree (fun b _ => w.heap.size < b) w4 (put11 w4 w.heap.size (.int .i64 0) (.int .i64 0) (.int .i64 0) (.int .i64 0) (.int .i64 0) (.int .i64 0) (.int .i64 0) (.string ⟨#[]⟩) nilV nilV nilV)) := ⟨HR4.out.2.low_then (put11_below (Nat.le_refl _) ..), HP4.out.onlyk (put11_only ..) hg, Agree.of_only (put11_only ..) fun b _ hb => by omega⟩
    have HBL : Box (Blk (put11 w4 w.heap.size (.int .i64 0) (.int .i64 0) (.int .i64 0) (.int .i64 0) (.int .i64 0) (.int .i64 0) (.int .i64 0) (.string ⟨#[]⟩) nilV nilV nilV) w.heap.size 29 (ndC ⟨0, 0, 0, 0, 0, 0, 0, ⟨#[]⟩, [], []⟩ nilV nilV nilV)) := ⟨put11_blk HR4.out.1⟩
    show bodyPost _ _ _ _ _ (put11 w4 w.heap.size (.int .i64 0) (.int .i64 0) (.int .i64 0) (.int .i64 0) (.int .i64 0) (.int .i64 0) (.int .i64 0) (.string ⟨#[]⟩) nilV nilV nilV)
    generalize put11 w4 w.heap.size (.int .i64 0) (.int .i64 0) (.int .i64 0) (.int .i64 0) (.int .i64 0) (.int .i64 0) (.int .i64 0) (.string ⟨#[]⟩) nilV nilV nilV = WF at HA HBL ⊢
    clear z0 z1 z2 z3 z4 z5 z6 z7 z8 z9 z10 zf
    obtain ⟨e0, e1, e2, e3, e4, e5, e6, e7, e8, e9, e10⟩ := blkE HBL.out
    have ef := HBL.out.frozen
    refine bodyPost_ret (v := .agg (ndC ⟨0, 0, 0, 0, 0, 0, 0, ⟨#[]⟩, [], []⟩ nilV nilV nilV)) (by simp [results, Tryz.results129, go_sem, e0, e1, e2, e3, e4, e5, e6, e7, e8, e9, e10, ef]) rfl ?_
    exact RetU.er HMC.out HA.out.1 HA.out.2.1 ⟨⟨0, 0, 0, 0, 0, 0, 0, ⟨#[]⟩, [], []⟩, none, 0, 0, none, 0, 0, none, 0, 0, rfl⟩
  ·have HMC : Box (bindS (.ok ts.tail) (fun ts => andR (exprOf (facM N n) ts) fun t ts1 => andR (symbolM N sShut ts1) fun _ ts2 => .ok (t, ts2)) = Mm) := ⟨by
    rw [← HMM.out]
    show andR (exprOf (facM N n) ts.tail) _ = _
    have h1 := HK1.out
    have h2 := HB.out
    conv => rhs; unfold facM
    rw [h1, ← h2]
    rfl⟩
   have HNE : Box (ts ≠ []) := ⟨fun h0 => by have h2 := HB.out; rw [h0] at h2; cases h2⟩
   go_wp2_with fail
   refine (rtake_u (fun ts' hs => by cases hs; exact HNE.out) HP2.out).mono ?_
   rintro e w3 ⟨rfl, ho, hp⟩
   have HP3 : Box (RX w3 g A c N toks (.ok ts.tail)) := ⟨hp⟩
   have HR3 : Box (Blk w3 w.heap.size 29 zeroC ∧ Only g w w3) := ⟨ho.blk HR2.out.1 (by omega), HR2.out.2.trans ho⟩
   have HLT : Box (ts.tail.length < n) := ⟨by have h1 := HL.out; have h2 : 0 < ts.length := List.length_pos_iff.2 HNE.out; rw [List.length_tail]; omega⟩
   clear ho hp HP2 HR2
   go_wp2_with fail
   refine (HS.out _ (.ok ts.tail) (fun ts' hs => by cases hs; exact HLT.out) HP3.out).mono ?_
   intro e w4 hx
   obtain ⟨ho, hp, d, A1, n1, c1, A2, n2, c2, A3, n3, c3, rfl, hvt⟩ := hx.tree
   obtain ⟨sb, HSB⟩ : ∃ sb, Box (sOf (bindS (.ok ts.tail) (exprOf (facM N n))) = sb) := ⟨_, ⟨rfl⟩⟩
   rw [HSB.out] at hp
   have HVT := Box.mk hvt
   have HSZ3 : Box (w.heap.size < w3.heap.size) := ⟨HR3.out.1.lt⟩
   have HP4 : Box (RX (w4.alloc (.cells (ndC d (.slice A1 n1 c1) (.slice A2 n2 c2) (.slice A3 n3 c3)) 29)) g A c N toks sb) := ⟨hp.below (bel1 _ _)⟩
   have HR4 : Box (Blk (w4.alloc (.cells (ndC d (.slice A1 n1 c1) (.slice A2 n2 c2) (.slice A3 n3 c3)) 29)) w.heap.size 29 zeroC ∧ Only g w (w4.alloc (.cells (ndC d (.slice A1 n1 c1) (.slice A2 n2 c2) (.slice A3 n3 c3)) 29))) := ⟨(ho.blk HR3.out.1 (by omega)).alloc _, (HR3.out.2.trans ho).trans (Only.of_below (bel1 _ _))⟩
   have HVT4 : Box (∀ t us, bindS (.ok ts.tail) (exprOf (facM N n)) = .ok (t, us) → ∃ ks, t = .node d ks ∧ TreeAt (w4.alloc (.cells (ndC d (.slice A1 n1 c1) (.slice A2 n2 c2) (.slice A3 n3 c3)) 29)) (fun b _ => w.heap.size < b) (.node d ks) ((.slice A1 n1 c1), (.slice A2 n2 c2), (.slice A3 n3 c3))) := ⟨fun t us hq => by
    obtain ⟨ks, e1, e2⟩ := HVT.out t us hq
    exact ⟨ks, e1, (e2.mono' (Q := fun b _ => w.heap.size < b) fun b e _ hb => by have := HSZ3.out; omega).belo (bel1 _ _)⟩⟩
   have HRB : Box (Blk (w4.alloc (.cells (ndC d (.slice A1 n1 c1) (.slice A2 n2 c2) (.slice A3 n3 c3)) 29)) w4.heap.size 29 (ndC d (.slice A1 n1 c1) (.slice A2 n2 c2) (.slice A3 n3 c3))) := ⟨Blk.new _ _ _⟩
   have hrn : w.heap.size < w4.heap.size := by have := ho.size; have := HSZ3.out; omega
   have hrg : g ≠ w4.heap.size := by omega
   clear ho hp hx hvt HP3 HR3 HVT
   go_upto_region 8 with (fail)
   obtain ⟨rb, hrb⟩ : ∃ rb, w4.heap.size = rb := ⟨_, rfl⟩
   rw [hrb] at HRB hrn hrg ⊢
   generalize w4.alloc (.cells (ndC d (.slice A1 n1 c1) (.slice A2 n2 c2) (.slice A3 n3 c3)) 29) = W4 at HP4 HR4 HVT4 HRB ⊢
   clear hrb
   go_wp2_with fail
   refine (rexpect_v sShut ⟨#[41]⟩ rfl sShut_sym HP4.out).mono ?_
   rintro e w5 ⟨rfl, ho, hp⟩
   have HP5 := Box.mk hp
   have HR5 : Box (Blk w5 w.heap.size 29 zeroC ∧ Only g w w5) := ⟨ho.blk HR4.out.1 (by omega), HR4.out.2.trans ho⟩
   have HRB5 := Box.mk (ho.blk HRB.out (Ne.symm hrg))
   have HVT5 : Box (∀ t us, bindS (.ok ts.tail) (exprOf (facM N n)) = .ok (t, us) → ∃ ks, t = .node d ks ∧ TreeAt w5 (fun b _ => w.heap.size < b) (.node d ks) ((.slice A1 n1 c1), (.slice A2 n2 c2), (.slice A3 n3 c3))) := ⟨fun t us hq => by
    obtain ⟨ks, e1, e2⟩ := HVT4.out t us hq
    exact ⟨ks, e1, e2.keep (Agree.of_only ho fun b _ hb => by omega)⟩⟩
   clear ho hp HP4 HR4 HVT4 HRB
   obtain ⟨r0, r1, r2, r3, r4, r5, r6, r7, r8, r9, r10⟩ := blkE HRB5.out
   have rf := HRB5.out.frozen
   obtain ⟨z0, z1, z2, z3, z4, z5, z6, z7, z8, z9, z10⟩ := blkE HR5.out.1
   have zf := HR5.out.1.frozen
   go_wp2_with fail
   have HA : Box (Only g w (put11 w5 w.heap.size (.int .i64 d.kind) (.int .i64 d.fn) (.int .i64 d.win) (.int .i64 d.off) (.int .i64 d.k) (.int .i64 d.num) (.int .i64 d.den) (.string d.name) (.slice A1 n1 c1) (.slice A2 n2 c2) (.slice A3 n3 c3)) ∧ RX (put11 w5 w.heap.size (.int .i64 d.kind) (.int .i64 d.fn) (.int .i64 d.win) (.int .i64 d.off) (.int .i64 d.k) (.int .i64 d.num) (.int .i64 d.den) (.string d.name) (.slice A1 n1 c1) (.slice A2 n2 c2) (.slice A3 n3 c3)) g A c N toks _ ∧ Agree (fun b _ => w.heap.size < b) w5 (put11 w5 w.heap.size (.int .i64 d.kind) (.int .i64 d.fn) (.int .i64 d.win) (.int .i64 d.off) (.int .i64 d.k) (.int .i64 d.num) (.int .i64 d.den) (.string d.name) (.slice A1 n1 c1) (.slice A2 n2 c2) (.slice A3 n3 c3))) := ⟨HR5.out.2.low_then (put11_below (Nat.le_refl _) ..), HP5.out.onlyk (put11_only ..) hg, Agree.of_only (put11_only ..) fun b _ hb => by omega⟩
   have HBL : Box (Blk (put11 w5 w.heap.size (.int .i64 d.kind) (.int .i64 d.fn) (.int .i64 d.win) (.int .i64 d.off) (.int .i64 d.k) (.int .i64 d.num) (.int .i64 d.den) (.string d.name) (.slice A1 n1 c1) (.slice A2 n2 c2) (.slice A3 n3 c3)) w.heap.size 29 (ndC d (.slice A1 n1 c1) (.slice A2 n2 c2) (.slice A3 n3 c3))) := ⟨put11_blk HR5.out.1⟩
   show bodyPost _ _ _ _ _ (put11 w5 w.heap.size (.int .i64 d.kind) (.int .i64 d.fn) (.int .i64 d.win) (.int .i64 d.off) (.int .i64 d.k) (.int .i64 d.num) (.int .i64 d.den) (.string d.name) (.slice A1 n1 c1) (.slice A2 n2 c2) (.slice A3 n3 c3))
   generalize put11 w5 w.heap.size (.int .i64 d.kind) (.int .i64 d.fn) (.int .i64 d.win) (.int .i64 d.off) (.int .i64 d.k) (.int .i64 d.num) (.int .i64 d.den) (.string d.name) (.slice A1 n1 c1) (.slice A2 n2 c2) (.slice A3 n3 c3) = WF at HA HBL ⊢
   clear z0 z1 z2 z3 z4 z5 z6 z7 z8 z9 z10 zf
   obtain ⟨e0, e1, e2, e3, e4, e5, e6, e7, e8, e9, e10⟩ := blkE HBL.out
   have ef := HBL.out.frozen
   refine bodyPost_ret (v := .agg (ndC d (.slice A1 n1 c1) (.slice A2 n2 c2) (.slice A3 n3 c3))) (by simp [results, Tryz.results129, go_sem, e0, e1, e2, e3, e4, e5, e6, e7, e8, e9, e10, ef]) rfl ?_
   have HFF := fac_paren HSB.out HMC.out
   rw [HFF.1] at HA
   refine RetU.fin HA.out.1 HA.out.2.1 fun t us hq => ?_
   obtain ⟨us1, hq1⟩ := HFF.2 t us hq
   obtain ⟨ks, e1, e2⟩ := HVT5.out t us1 hq1
   exact ⟨ks, e1, (e2.keep HA.out.2.2).mono fun b e _ hb => by omega⟩
/-- all of the parser -/
theorem rfac_all {g : Nat} {A : Option Addr} {c : Nat} {N : Int} {toks : List Tok} (n : Nat) : TreeOk 129 g A c N toks (facM N n) n := by
 induction n with
 | zero =>
  intro w s hlen h
  match s, hlen, h with
  | .error f, _, h => exact rfactor_bad h
  | .ok ts, hlen, h => exact absurd (hlen ts rfl) (by omega)
 | succ n ih => exact rfactor_of (rsum_of (operM_len _ (facM_len N n) 2) (rterm_of (facM_len N n) ih))
theorem rsum_all {g : Nat} {A : Option Addr} {c : Nat} {N : Int} {toks : List Tok} (n : Nat) : TreeOk 68 g A c N toks (exprOf (facM N n)) n :=
 rsum_of (operM_len _ (facM_len N n) 2) (rterm_of (facM_len N n) (rfac_all n))
end
end Go.Proofs.YthoibeajhdhdhaaGreatDoor
