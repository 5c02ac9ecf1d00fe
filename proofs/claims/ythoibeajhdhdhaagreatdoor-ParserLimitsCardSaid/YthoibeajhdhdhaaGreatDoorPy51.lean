/- Contracts, packed: Or. -/
import Derived.Test.YthoibeajhdhdhaaGreatDoorPy46
import Derived.Test.YthoibeajhdhdhaaGreatDoorPy49
import Derived.Test.YthoibeajhdhdhaaGreatDoorPy50
set_option linter.unusedVariables false
set_option linter.unusedSimpArgs false
namespace Go.Proofs.YthoibeajhdhdhaaGreatDoor
section
open Go.RowKit FracM
/-- Parse under way: the parser's block g, the tree's variable ob -/
structure PaR (w W : World) (g ob : Nat) (A : Option Addr) (c : Nat) (N : Int) (toks : List Tok) (s : StP) (d : Nd) (mv bv kv : Value) (r : Res Tree) : Prop where
 st : RX W g A c N toks s
 res : Blk W w.heap.size 29 zeroC
 out : Blk W ob 29 (ndC d mv bv kv)
 below : Below w.heap.size w W
 tr : ∀ t us, r = .ok (t, us) → ∃ ks, t = .node d ks ∧ TreeAt W (fun b _ => g < b) (.node d ks) (mv, bv, kv)
 hg : w.heap.size < g
 ho : g < ob
theorem PaR.step {w W W' : World} {g ob : Nat} {A : Option Addr} {c : Nat} {N : Int} {toks : List Tok} {s s' : StP} {d : Nd} {mv bv kv : Value} {r : Res Tree} (h : PaR w W g ob A c N toks s d mv bv kv r) (ho : Only g W W') (hp : RX W' g A c N toks s') : PaR w W' g ob A c N toks s' d mv bv kv r :=
 ⟨hp, ho.blk h.res (by have := h.hg; omega), ho.blk h.out (by have := h.ho; omega), h.below.trans (ho.below (by have := h.hg; omega) h.below.size), fun t us hq => by
  obtain ⟨ks, e1, e2⟩ := h.tr t us hq
  exact ⟨ks, e1, e2.keep (Agree.of_only ho fun b _ hb => by omega)⟩, h.hg, h.ho⟩
theorem PaR.next {w W W' : World} {g ob : Nat} {A : Option Addr} {c : Nat} {N : Int} {toks : List Tok} {s : StP} {d : Nd} {mv bv kv : Value} {r : Res Tree} (h : PaR w W g ob A c N toks s d mv bv kv r) (hb : Below W.heap.size W W') : PaR w W' g ob A c N toks s d mv bv kv r :=
 h.step (Only.of_below hb) (h.st.below hb)
/-- what the state behind the tokens' end says -/
def EndR (r : Res Tree) (N : Int) (s : StP) : Prop := (∀ f, r = .error f → s = .error f) ∧ (∀ t x l, r = .ok (t, x :: l) → s = .error ((x.off : Int), 2)) ∧ ∀ t, r = .ok (t, []) → s = .ok []
set_option maxHeartbeats 8000000 in
set_option maxRecDepth 100000 in
theorem rparse_any (s : ByteArray) (w : World) (hs : s.size ≤ maxLen) : Calls Tryz.prog 41 #[.string s] w (RetP s w) := by
 have HS := Box.mk hs
 clear hs
 have HR0 : Box (Blk (w.alloc (.cells zeroC 29)) w.heap.size 29 zeroC ∧ Below w.heap.size w (w.alloc (.cells zeroC 29))) := ⟨Blk.new _ _ _, bel1 _ _⟩
 go_enter Tryz.func41, Tryz.ntmps41
 go_upto_region 1 with (fail)
 generalize w.alloc (.cells zeroC 29) = W0 at HR0 ⊢
 go_wp2_with fail
 refine (rtokens_any s _ HS.out).mono ?_
 intro e w1 hr
 obtain ⟨hb, hr⟩ := retTk_casesW hr
 have HR1 : Box (Blk w1 w.heap.size 29 zeroC ∧ Below w.heap.size w w1) := ⟨HR0.out.1.below hb, bthen HR0.out.2 hb (Nat.le_refl _)⟩
 have hz0 : w.heap.size < W0.heap.size := HR0.out.1.lt
 have hz1 := hb.size
 clear hb HR0
 rcases hr with ⟨a, er, hne, rfl, hP⟩ | ⟨hsz, A, n, c, toks, rfl, rfl, hq, hok, hwf, hlen, hP⟩
 ·have hne2 : (er != 0) = true := by simpa using hne
  have HP := Box.mk hP
  clear hP hne
  obtain ⟨z0, z1, z2, z3, z4, z5, z6, z7, z8, z9, z10⟩ := blkE HR1.out.1
  have zf := HR1.out.1.frozen
  go_wp2_with fail
  have HBL : Box (Blk ((put11 w1 w.heap.size (.int .i64 0) (.int .i64 0) (.int .i64 0) (.int .i64 0) (.int .i64 0) (.int .i64 0) (.int .i64 0) (.string ⟨#[]⟩) nilV nilV nilV)) w.heap.size 29 (ndC ⟨0, 0, 0, 0, 0, 0, 0, ⟨#[]⟩, [], []⟩ nilV nilV nilV) ∧ Below w.heap.size w ((put11 w1 w.heap.size (.int .i64 0) (.int .i64 0) (.int .i64 0) (.int .i64 0) (.int .i64 0) (.int .i64 0) (.int .i64 0) (.string ⟨#[]⟩) nilV nilV nilV)) ∧ True) := ⟨put11_blk HR1.out.1, HR1.out.2.trans (put11_below (Nat.le_refl _) ..), trivial⟩
  show bodyPost _ _ _ _ _ ((put11 w1 w.heap.size (.int .i64 0) (.int .i64 0) (.int .i64 0) (.int .i64 0) (.int .i64 0) (.int .i64 0) (.int .i64 0) (.string ⟨#[]⟩) nilV nilV nilV))
  generalize (put11 w1 w.heap.size (.int .i64 0) (.int .i64 0) (.int .i64 0) (.int .i64 0) (.int .i64 0) (.int .i64 0) (.int .i64 0) (.string ⟨#[]⟩) nilV nilV nilV) = WF at HBL ⊢
  clear z0 z1 z2 z3 z4 z5 z6 z7 z8 z9 z10 zf
  obtain ⟨e0, e1, e2, e3, e4, e5, e6, e7, e8, e9, e10⟩ := blkE HBL.out.1
  have ef := HBL.out.1.frozen
  refine bodyPost_ret (v := .tuple #[.agg (ndC ⟨0, 0, 0, 0, 0, 0, 0, ⟨#[]⟩, [], []⟩ nilV nilV nilV), .int .i64 a, .int .i64 er]) (by simp [results, Tryz.results41, go_sem, e0, e1, e2, e3, e4, e5, e6, e7, e8, e9, e10, ef]) rfl ?_
  exact ⟨nilV, nilV, nilV, by rw [HP.out]; rfl, by rw [HP.out]; exact zero_tree _ _, HBL.out.2.1⟩
 ·have HP := Box.mk hP
  clear hP
  have hg : w.heap.size < w1.heap.size := by omega
  have HX2 : Box (RX (w1.alloc (.cells #[.slice A toks.length c, .int .i64 0, .int .i64 (s.size : Int), .int .i64 0, .int .i64 0] 105)) w1.heap.size A c (s.size : Int) toks (.ok toks)) :=
   ⟨0, rfl, Blk.new _ _ _, (hq.mono (Q := fun b _ => b < w1.heap.size) fun b e hb _ => hb).keep (Agree.of_below (bel1 _ _)), hok, hwf, by omega, by omega, by omega⟩
  have HR2 : Box (Blk (w1.alloc (.cells #[.slice A toks.length c, .int .i64 0, .int .i64 (s.size : Int), .int .i64 0, .int .i64 0] 105)) w.heap.size 29 zeroC ∧ Below w.heap.size w (w1.alloc (.cells #[.slice A toks.length c, .int .i64 0, .int .i64 (s.size : Int), .int .i64 0, .int .i64 0] 105))) := ⟨HR1.out.1.alloc _, bthen HR1.out.2 (bel1 _ _) (Nat.le_refl _)⟩
  have hz2 : w1.heap.size + 1 ≤ (w1.alloc (.cells #[.slice A toks.length c, .int .i64 0, .int .i64 (s.size : Int), .int .i64 0, .int .i64 0] 105)).heap.size := by simp
  clear hq hok hwf HR1
  go_upto_region 5 with (fail)
  obtain ⟨g, hgg⟩ : ∃ g, w1.heap.size = g := ⟨_, rfl⟩
  rw [hgg] at HX2 hg hz2 ⊢
  generalize w1.alloc (.cells #[.slice A toks.length c, .int .i64 0, .int .i64 (s.size : Int), .int .i64 0, .int .i64 0] 105) = W2 at HX2 HR2 hz2 ⊢
  clear hgg hz1 hz0
  go_wp2_with fail
  refine (rsum_all (s.size + 1) _ (.ok toks) (fun ts hs => by cases hs; omega) HX2.out).mono ?_
  intro e w3 hx
  obtain ⟨ho, hp, d, A1, n1, c1, A2, n2, c2, A3, n3, c3, rfl, hvt⟩ := hx.tree
  obtain ⟨r, HRR⟩ : ∃ r, Box (exprOf (facM (s.size : Int) (s.size + 1)) toks = r) := ⟨_, ⟨rfl⟩⟩
  have hvt' : ∀ t us, r = .ok (t, us) → ∃ ks, t = .node d ks ∧ TreeAt w3 (fun b _ => W2.heap.size ≤ b) (.node d ks) ((.slice A1 n1 c1), (.slice A2 n2 c2), (.slice A3 n3 c3)) := by rw [← HRR.out]; exact hvt
  obtain ⟨sb, HSB⟩ : ∃ sb, Box (sOf r = sb) := ⟨_, ⟨rfl⟩⟩
  have hp' : RX w3 g A c (s.size : Int) toks sb := by rw [← HSB.out, ← HRR.out]; exact hp
  rw [HRR.out] at HP
  have hgo : g < w3.heap.size := hp'.lt
  have HF4 : Box (PaR w (w3.alloc (.cells (ndC d (.slice A1 n1 c1) (.slice A2 n2 c2) (.slice A3 n3 c3)) 29)) g w3.heap.size A c (s.size : Int) toks sb d (.slice A1 n1 c1) (.slice A2 n2 c2) (.slice A3 n3 c3) r) := ⟨hp'.below (bel1 _ _), (ho.blk HR2.out.1 (by omega)).alloc _, Blk.new _ _ _, bthen (HR2.out.2.trans (ho.below (by omega) HR2.out.2.size)) (bel1 _ _) (Nat.le_refl _), fun t us hq => by
   obtain ⟨ks, e1, e2⟩ := hvt' t us hq
   exact ⟨ks, e1, (e2.mono' (Q := fun b _ => g < b) fun b e _ hb => by omega).belo (bel1 _ _)⟩, hg, hgo⟩
  clear hx hvt hvt' hp hp' ho HX2 HR2 hz2
  go_upto_region 6 with (fail)
  obtain ⟨ob, hob⟩ : ∃ ob, w3.heap.size = ob := ⟨_, rfl⟩
  rw [hob] at HF4 hgo ⊢
  generalize w3.alloc (.cells (ndC d (.slice A1 n1 c1) (.slice A2 n2 c2) (.slice A3 n3 c3)) 29) = W4 at HF4 ⊢
  clear hob
  go_cut [37] (fun v wx => ∃ q : Bool, v = .bool q ∧ Box (Below W4.heap.size W4 wx) ∧ Box (∀ us, sb = .ok us → q = !us.isEmpty))
  case first =>
   obtain ⟨i, a, hrp, hok, -⟩ := HF4.out.st.rp
   obtain ⟨d0, d1, -, -, -⟩ := hrp.mem.c5
   have hile := hrp.le
   by_cases hlt : (i : Int) < (toks.length : Int)
   ·have HQ : Box (∀ us, sb = .ok us → true = !us.isEmpty) := ⟨fun us hs => by
     have h1 := (hok us hs).1
     have h2 : us.length = toks.length - i := by rw [← h1, List.length_drop]
     cases us with
     | nil => simp at h2; omega
     | cons x l => rfl⟩
    clear hrp hok
    go_quiet (fail)
    go_wp2_with fail
    go_meet
    exact ⟨true, rfl, ⟨below_drewN _ _⟩, HQ⟩
   ·have HQ : Box (∀ us, sb = .ok us → false = !us.isEmpty) := ⟨fun us hs => by
     have h1 := (hok us hs).1
     have h2 : us.length = toks.length - i := by rw [← h1, List.length_drop]
     cases us with
     | nil => rfl
     | cons x l => simp at h2; omega⟩
    clear hrp hok
    go_quiet (fail)
    go_wp2_with fail
    go_meet
    exact ⟨false, rfl, ⟨below_drewN _ _⟩, HQ⟩
  case rest =>
   obtain ⟨q, rfl, HBx, HQ⟩ := hcut
   rename World => W5
   have HF5 := Box.mk (HF4.out.next HBx.out)
   clear HF4 HBx
   go_upto_if 37 with (fail)
   go_cut [] (fun wx => ∃ s5, Box (PaR w wx g ob A c (s.size : Int) toks s5 d (.slice A1 n1 c1) (.slice A2 n2 c2) (.slice A3 n3 c3) r) ∧ Box (EndR r (s.size : Int) s5))
   case first =>
    cases q
    ·go_wp2_with fail
     go_meet
     refine ⟨sb, HF5, ⟨fun f hf => by rw [← HSB.out, hf]; rfl, fun t x l hl => ?_, fun t hl => by rw [← HSB.out, hl]; rfl⟩⟩
     have h1 := HQ.out (x :: l) (by rw [← HSB.out, hl]; rfl)
     simp at h1
    ·go_wp2_with fail
     refine (rfail_u 2 (by omega) HF5.out.st).mono ?_
     rintro e w6 ⟨rfl, ho, hp⟩
     have HF6 := Box.mk (HF5.out.step ho hp)
     clear ho hp HF5
     go_wp2_with fail
     go_meet
     refine ⟨_, HF6, ⟨fun f hf => by rw [← HSB.out, hf]; rfl, fun t x l hl => by rw [← HSB.out, hl]; rfl, fun t hl => ?_⟩⟩
     have h1 := HQ.out [] (by rw [← HSB.out, hl]; rfl)
     simp at h1
   case rest =>
    obtain ⟨s5, HF6, HE⟩ := hcut
    rename World => W6
    clear HF5 HQ
    rcases s5 with f | us
    ·have HPT : Box (parseT (lst s) = (zeroT, f.1, f.2)) := ⟨by
      rw [HP.out]
      rcases r with f' | ⟨t, us⟩
      ·have := HE.out.1 f' rfl; cases this; rfl
      ·cases us with
       | nil => have := HE.out.2.2 t rfl; cases this
       | cons x l => have := HE.out.2.1 t x l rfl; cases this; rfl⟩
     have c4 : W6.cell? ⟨g, 4, none⟩ = some (.int .i64 f.2) := HF6.out.st.err
     have he0 : (f.2 == 0) = false := by have := HF6.out.st.bad rfl; simpa using this
     go_upto_region 11 with (fail)
     clear c4 he0
     obtain ⟨i, a, hrp, -, hf⟩ := HF6.out.st.rp
     have ha := hf _ rfl
     obtain ⟨-, -, -, c3, c4⟩ := hrp.mem.c5
     rw [ha] at c3
     replace c3 : W6.cell? ⟨g, 3, none⟩ = some (.int .i64 f.1) := c3
     replace c4 : W6.cell? ⟨g, 4, none⟩ = some (.int .i64 f.2) := c4
     have he1 : (f.2 != 0) = true := by have := HF6.out.st.bad rfl; simpa using this
     have hgn : ¬ g = w.heap.size := by have := HF6.out.hg; omega
     have hgn2 : ¬ w.heap.size = g := by omega
     have HRE : Box (Blk W6 w.heap.size 29 zeroC ∧ Below w.heap.size w W6) := ⟨HF6.out.res, HF6.out.below⟩
     clear hrp hf ha
     go_upto_region 12 with (fail)
     clear he1
     obtain ⟨z0, z1, z2, z3, z4, z5, z6, z7, z8, z9, z10⟩ := blkE HRE.out.1
     have zf := HRE.out.1.frozen
     go_region_held3 (fun w' => w'.cell? ⟨g, 3, none⟩ = some (.int .i64 f.1) ∧ w'.cell? ⟨g, 4, none⟩ = some (.int .i64 f.2)) (go_keep) (fail)
     go_wp2_with fail
     have HBL : Box (Blk ((put11 W6 w.heap.size (.int .i64 0) (.int .i64 0) (.int .i64 0) (.int .i64 0) (.int .i64 0) (.int .i64 0) (.int .i64 0) (.string ⟨#[]⟩) nilV nilV nilV).drew) w.heap.size 29 (ndC ⟨0, 0, 0, 0, 0, 0, 0, ⟨#[]⟩, [], []⟩ nilV nilV nilV) ∧ Below w.heap.size w ((put11 W6 w.heap.size (.int .i64 0) (.int .i64 0) (.int .i64 0) (.int .i64 0) (.int .i64 0) (.int .i64 0) (.int .i64 0) (.string ⟨#[]⟩) nilV nilV nilV).drew) ∧ True) := ⟨(Blk.below (put11_blk HRE.out.1) (below_drewN _ 1)), bthen (HRE.out.2.trans (put11_below (Nat.le_refl _) ..)) (below_drewN _ 1) (Nat.le_refl _), trivial⟩
     show bodyPost _ _ _ _ _ ((put11 W6 w.heap.size (.int .i64 0) (.int .i64 0) (.int .i64 0) (.int .i64 0) (.int .i64 0) (.int .i64 0) (.int .i64 0) (.string ⟨#[]⟩) nilV nilV nilV).drew)
     generalize (put11 W6 w.heap.size (.int .i64 0) (.int .i64 0) (.int .i64 0) (.int .i64 0) (.int .i64 0) (.int .i64 0) (.int .i64 0) (.string ⟨#[]⟩) nilV nilV nilV).drew = WF at HBL ⊢
     clear z0 z1 z2 z3 z4 z5 z6 z7 z8 z9 z10 zf
     obtain ⟨e0, e1, e2, e3, e4, e5, e6, e7, e8, e9, e10⟩ := blkE HBL.out.1
     have ef := HBL.out.1.frozen
     refine bodyPost_ret (v := .tuple #[.agg (ndC ⟨0, 0, 0, 0, 0, 0, 0, ⟨#[]⟩, [], []⟩ nilV nilV nilV), .int .i64 f.1, .int .i64 f.2]) (by simp [results, Tryz.results41, go_sem, e0, e1, e2, e3, e4, e5, e6, e7, e8, e9, e10, ef]) rfl ?_
     exact ⟨nilV, nilV, nilV, by rw [HPT.out]; rfl, by rw [HPT.out]; exact zero_tree _ _, HBL.out.2.1⟩
    ·obtain ⟨t, HTR⟩ : ∃ t, Box (r = .ok (t, [])) := by
      rcases r with f' | ⟨t, us'⟩
      ·have := HE.out.1 f' rfl; cases this
      ·cases us' with
       | nil => exact ⟨t, ⟨rfl⟩⟩
       | cons x l => have := HE.out.2.1 t x l rfl; cases this
     obtain ⟨ks, rfl, htr⟩ := HF6.out.tr t [] HTR.out
     have HT6 := Box.mk htr
     have HNS : Box (nds (.node d ks) ≤ 2000 ∧ dep (.node d ks) ≤ 2000) := ⟨by
      have h1 := exprOf_siz (facM_siz (s.size : Int) (s.size + 1)) toks (.node d ks) [] (by rw [HRR.out]; exact HTR.out)
      have h2 := dep_nds (.node d ks)
      simp at h1
      omega⟩
     have HPT : Box (parseT (lst s) = if fitB (.node d ks) then (.node d ks, 0, 0) else (zeroT, (s.size : Int), 4)) := ⟨by rw [HP.out, HTR.out]⟩
     clear htr
     obtain ⟨D, HD⟩ : ∃ D : Int, Box ((dep (.node d ks) : Int) = D) := ⟨_, ⟨rfl⟩⟩
     obtain ⟨K, HK⟩ : ∃ K : Int, Box ((nds (.node d ks) : Int) = K) := ⟨_, ⟨rfl⟩⟩
     have c4 : W6.cell? ⟨g, 4, none⟩ = some (.int .i64 0) := HF6.out.st.err
     obtain ⟨k0, k1, k2, k3, k4, k5, k6, k7, k8, k9, k10⟩ := blkE HF6.out.out
     go_upto_region 8 with (fail)
     go_cut [54] (fun v wx => v = .bool (!fitB (.node d ks)) ∧ Box (Below W6.heap.size W6 wx))
     case first =>
      have CD : Box (∀ W', TreeAt W' (fun b _ => g < b) (.node d ks) ((.slice A1 n1 c1), (.slice A2 n2 c2), (.slice A3 n3 c3)) → Calls Tryz.prog 36 #[.agg (ndC d (.slice A1 n1 c1) (.slice A2 n2 c2) (.slice A3 n3 c3))] W' fun e w' => e = .returned (.int .i64 D) ∧ Below W'.heap.size W' w') := ⟨fun W' h => by
       rw [← HD.out]; exact depth_any (.node d ks) (fun b _ => g < b) W' ((.slice A1 n1 c1), (.slice A2 n2 c2), (.slice A3 n3 c3)) h (by have := HNS.out; omega)⟩
      have CN : Box (∀ W', TreeAt W' (fun b _ => g < b) (.node d ks) ((.slice A1 n1 c1), (.slice A2 n2 c2), (.slice A3 n3 c3)) → Calls Tryz.prog 38 #[.agg (ndC d (.slice A1 n1 c1) (.slice A2 n2 c2) (.slice A3 n3 c3))] W' fun e w' => e = .returned (.int .i64 K) ∧ Below W'.heap.size W' w') := ⟨fun W' h => by
       rw [← HK.out]; exact nodes_any (.node d ks) (fun b _ => g < b) W' ((.slice A1 n1 c1), (.slice A2 n2 c2), (.slice A3 n3 c3)) h (by have := HNS.out; omega)⟩
      go_wp2_with fail
      (with_reducible refine (CD.out _ HT6.out).mono ?_)
      rintro e w7 ⟨rfl, hb⟩
      have HF7 := Box.mk (HF6.out.next hb)
      have HT7 := Box.mk (HT6.out.belo hb)
      have HB7 := Box.mk hb
      clear hb k0 k1 k2 k3 k4 k5 k6 k7 k8 k9 k10
      by_cases hD : D > 12
      ·have HFB : Box (fitB (.node d ks) = false) := ⟨by unfold fitB; have := HD.out; rw [decide_eq_false (p := dep _ ≤ 12) (by omega)]; simp⟩
       go_wp2_with fail
       go_meet
       exact ⟨by rw [HFB.out]; rfl, HB7⟩
      ·obtain ⟨k0, k1, k2, k3, k4, k5, k6, k7, k8, k9, k10⟩ := blkE HF7.out.out
       go_wp2_with fail
       (with_reducible refine (CN.out _ HT7.out).mono ?_)
       rintro e w8 ⟨rfl, hb⟩
       have HB8 := Box.mk (bthen HB7.out hb (Nat.le_refl _))
       clear hb k0 k1 k2 k3 k4 k5 k6 k7 k8 k9 k10
       by_cases hK : K > 200
       ·have HFB : Box (fitB (.node d ks) = false) := ⟨by unfold fitB; have := HK.out; rw [decide_eq_false (p := nds _ ≤ 200) (by omega)]; simp⟩
        go_wp2_with fail
        go_meet
        exact ⟨by rw [HFB.out]; rfl, HB8⟩
       ·have HFB : Box (fitB (.node d ks) = true) := ⟨by unfold fitB; have := HK.out; have := HD.out; rw [decide_eq_true (p := nds _ ≤ 200) (by omega), decide_eq_true (p := dep _ ≤ 12) (by omega)]; rfl⟩
        go_wp2_with fail
        go_meet
        exact ⟨by rw [HFB.out, decide_eq_false (p := 12 < D) (by omega), decide_eq_false (p := 200 < K) (by omega)]; rfl, HB8⟩
     case rest =>
      obtain ⟨rfl, HBx⟩ := hcut
      rename World => W7
      have HF7 := Box.mk (HF6.out.next HBx.out)
      have HT7 := Box.mk (HT6.out.belo HBx.out)
      clear HF6 HT6 HBx k0 k1 k2 k3 k4 k5 k6 k7 k8 k9 k10 c4
      obtain ⟨fb, HFB⟩ : ∃ fb, Box (fitB (.node d ks) = fb) := ⟨_, ⟨rfl⟩⟩
      rw [HFB.out]
      cases fb
      ·obtain ⟨i, a, hrp, hok, -⟩ := HF7.out.st.rp
       have cf := hrp.mem.frozen
       obtain ⟨-, -, -, c3, c4⟩ := hrp.mem.c5
       have HX8 : Box (RX ((W7.setCell ⟨g, 4, none⟩ (.int .i64 4)).setCell ⟨g, 3, none⟩ (.int .i64 (s.size : Int))) g A c (s.size : Int) toks (.error ((s.size : Int), 4))) := ⟨by
        refine ⟨by show (4 : Int) ≠ 0; omega, i, hrp.put ((Only.setCell 4 _).trans (Only.setCell 3 _)) ?_ hrp.le⟩
        have := (hrp.mem.set 4 (.int .i64 4)).set 3 (.int .i64 (s.size : Int))
        simpa using this⟩
       have HF8 := Box.mk (HF7.out.step ((Only.setCell 4 _).trans (Only.setCell 3 _)) HX8.out)
       have HPT2 : Box (parseT (lst s) = (zeroT, (s.size : Int), 4)) := ⟨by rw [HPT.out, HFB.out]; rfl⟩
       clear hrp hok HX8 HF7 HT7
       go_upto_region 11 with (fail)
       clear c3 c4 cf
       generalize (W7.setCell ⟨g, 4, none⟩ (.int .i64 4)).setCell ⟨g, 3, none⟩ (.int .i64 (s.size : Int)) = W8 at HF8 ⊢
       obtain ⟨i, a, hrp, -, hf⟩ := HF8.out.st.rp
       have ha := hf _ rfl
       obtain ⟨-, -, -, c3, c4⟩ := hrp.mem.c5
       rw [ha] at c3
       replace c3 : W8.cell? ⟨g, 3, none⟩ = some (.int .i64 (s.size : Int)) := c3
       replace c4 : W8.cell? ⟨g, 4, none⟩ = some (.int .i64 4) := c4
       have he1 : (4 != 0) = true := by decide
       have hgn : ¬ g = w.heap.size := by have := HF8.out.hg; omega
       have hgn2 : ¬ w.heap.size = g := by omega
       have HRE : Box (Blk W8 w.heap.size 29 zeroC ∧ Below w.heap.size w W8) := ⟨HF8.out.res, HF8.out.below⟩
       clear hrp hf ha
       go_upto_region 12 with (fail)
       clear he1
       obtain ⟨z0, z1, z2, z3, z4, z5, z6, z7, z8, z9, z10⟩ := blkE HRE.out.1
       have zf := HRE.out.1.frozen
       go_region_held3 (fun w' => w'.cell? ⟨g, 3, none⟩ = some (.int .i64 (s.size : Int)) ∧ w'.cell? ⟨g, 4, none⟩ = some (.int .i64 4)) (go_keep) (fail)
       go_wp2_with fail
       have HBL : Box (Blk ((put11 W8 w.heap.size (.int .i64 0) (.int .i64 0) (.int .i64 0) (.int .i64 0) (.int .i64 0) (.int .i64 0) (.int .i64 0) (.string ⟨#[]⟩) nilV nilV nilV).drew) w.heap.size 29 (ndC ⟨0, 0, 0, 0, 0, 0, 0, ⟨#[]⟩, [], []⟩ nilV nilV nilV) ∧ Below w.heap.size w ((put11 W8 w.heap.size (.int .i64 0) (.int .i64 0) (.int .i64 0) (.int .i64 0) (.int .i64 0) (.int .i64 0) (.int .i64 0) (.string ⟨#[]⟩) nilV nilV nilV).drew) ∧ True) := ⟨(Blk.below (put11_blk HRE.out.1) (below_drewN _ 1)), bthen (HRE.out.2.trans (put11_below (Nat.le_refl _) ..)) (below_drewN _ 1) (Nat.le_refl _), trivial⟩
       show bodyPost _ _ _ _ _ ((put11 W8 w.heap.size (.int .i64 0) (.int .i64 0) (.int .i64 0) (.int .i64 0) (.int .i64 0) (.int .i64 0) (.int .i64 0) (.string ⟨#[]⟩) nilV nilV nilV).drew)
       generalize (put11 W8 w.heap.size (.int .i64 0) (.int .i64 0) (.int .i64 0) (.int .i64 0) (.int .i64 0) (.int .i64 0) (.int .i64 0) (.string ⟨#[]⟩) nilV nilV nilV).drew = WF at HBL ⊢
       clear z0 z1 z2 z3 z4 z5 z6 z7 z8 z9 z10 zf
       obtain ⟨e0, e1, e2, e3, e4, e5, e6, e7, e8, e9, e10⟩ := blkE HBL.out.1
       have ef := HBL.out.1.frozen
       refine bodyPost_ret (v := .tuple #[.agg (ndC ⟨0, 0, 0, 0, 0, 0, 0, ⟨#[]⟩, [], []⟩ nilV nilV nilV), .int .i64 (s.size : Int), .int .i64 4]) (by simp [results, Tryz.results41, go_sem, e0, e1, e2, e3, e4, e5, e6, e7, e8, e9, e10, ef]) rfl ?_
       exact ⟨nilV, nilV, nilV, by rw [HPT2.out]; rfl, by rw [HPT2.out]; exact zero_tree _ _, HBL.out.2.1⟩
      ·have HPT2 : Box (parseT (lst s) = (.node d ks, 0, 0)) := ⟨by rw [HPT.out, HFB.out]; rfl⟩
       have c4 : W7.cell? ⟨g, 4, none⟩ = some (.int .i64 0) := HF7.out.st.err
       have HRE : Box (Blk W7 w.heap.size 29 zeroC ∧ Below w.heap.size w W7) := ⟨HF7.out.res, HF7.out.below⟩
       have hgn : ¬ ob = w.heap.size := by have := HF7.out.hg; have := HF7.out.ho; omega
       have hgw : w.heap.size < g := HF7.out.hg
       obtain ⟨k0, k1, k2, k3, k4, k5, k6, k7, k8, k9, k10⟩ := blkE HF7.out.out
       go_upto_region 13 with (fail)
       clear c4
       obtain ⟨z0, z1, z2, z3, z4, z5, z6, z7, z8, z9, z10⟩ := blkE HRE.out.1
       have zf := HRE.out.1.frozen
       go_wp2_with fail
       have HBL : Box (Blk ((put11 W7 w.heap.size (.int .i64 d.kind) (.int .i64 d.fn) (.int .i64 d.win) (.int .i64 d.off) (.int .i64 d.k) (.int .i64 d.num) (.int .i64 d.den) (.string d.name) (.slice A1 n1 c1) (.slice A2 n2 c2) (.slice A3 n3 c3))) w.heap.size 29 (ndC d (.slice A1 n1 c1) (.slice A2 n2 c2) (.slice A3 n3 c3)) ∧ Below w.heap.size w ((put11 W7 w.heap.size (.int .i64 d.kind) (.int .i64 d.fn) (.int .i64 d.win) (.int .i64 d.off) (.int .i64 d.k) (.int .i64 d.num) (.int .i64 d.den) (.string d.name) (.slice A1 n1 c1) (.slice A2 n2 c2) (.slice A3 n3 c3))) ∧ TreeAt ((put11 W7 w.heap.size (.int .i64 d.kind) (.int .i64 d.fn) (.int .i64 d.win) (.int .i64 d.off) (.int .i64 d.k) (.int .i64 d.num) (.int .i64 d.den) (.string d.name) (.slice A1 n1 c1) (.slice A2 n2 c2) (.slice A3 n3 c3))) (fun b _ => g < b) (.node d ks) ((.slice A1 n1 c1), (.slice A2 n2 c2), (.slice A3 n3 c3))) := ⟨put11_blk HRE.out.1, HRE.out.2.trans (put11_below (Nat.le_refl _) ..), HT7.out.keep (Agree.of_only (put11_only ..) fun b _ hb => by omega)⟩
       show bodyPost _ _ _ _ _ ((put11 W7 w.heap.size (.int .i64 d.kind) (.int .i64 d.fn) (.int .i64 d.win) (.int .i64 d.off) (.int .i64 d.k) (.int .i64 d.num) (.int .i64 d.den) (.string d.name) (.slice A1 n1 c1) (.slice A2 n2 c2) (.slice A3 n3 c3)))
       generalize (put11 W7 w.heap.size (.int .i64 d.kind) (.int .i64 d.fn) (.int .i64 d.win) (.int .i64 d.off) (.int .i64 d.k) (.int .i64 d.num) (.int .i64 d.den) (.string d.name) (.slice A1 n1 c1) (.slice A2 n2 c2) (.slice A3 n3 c3)) = WF at HBL ⊢
       clear z0 z1 z2 z3 z4 z5 z6 z7 z8 z9 z10 zf k0 k1 k2 k3 k4 k5 k6 k7 k8 k9 k10
       obtain ⟨e0, e1, e2, e3, e4, e5, e6, e7, e8, e9, e10⟩ := blkE HBL.out.1
       have ef := HBL.out.1.frozen
       refine bodyPost_ret (v := .tuple #[.agg (ndC d (.slice A1 n1 c1) (.slice A2 n2 c2) (.slice A3 n3 c3)), .int .i64 0, .int .i64 0]) (by simp [results, Tryz.results41, go_sem, e0, e1, e2, e3, e4, e5, e6, e7, e8, e9, e10, ef]) rfl ?_
       exact ⟨_, _, _, by rw [HPT2.out]; rfl, by rw [HPT2.out]; exact HBL.out.2.2.mono fun b e _ hb => by omega, HBL.out.2.1⟩
set_option maxHeartbeats 4000000 in
set_option maxRecDepth 100000 in
/-- Parse agrees with the reference -/
theorem agrees_any (s : ByteArray) (w : World) (hs : s.size ≤ maxLen) (hw : WordsV w) : Calls Tryz.prog 12 #[.string s] w (RetB (.bool true) w) := by
 have HS := Box.mk hs
 obtain ⟨p, HP⟩ : ∃ p, Box (parseT (lst s) = p) := ⟨_, ⟨rfl⟩⟩
 obtain ⟨⟨d, ks⟩, a, er⟩ := p
 have CP : Box (∀ W, WordsV W → Calls Tryz.prog 31 #[.string s] W fun e w' => ∃ mv bv kv, e = .returned (.tuple #[.agg (ndC d mv bv kv), .int .i64 a, .int .i64 er]) ∧ TreeAt w' (fun b _ => W.heap.size ≤ b) (.node d ks) (mv, bv, kv) ∧ Below W.heap.size W w') := ⟨fun W h => parse_at s (.node d ks) a er W HS.out h HP.out⟩
 have CR : Box (∀ W, Calls Tryz.prog 41 #[.string s] W fun e w' => ∃ mv bv kv, e = .returned (.tuple #[.agg (ndC d mv bv kv), .int .i64 a, .int .i64 er]) ∧ TreeAt w' (fun b _ => W.heap.size ≤ b) (.node d ks) (mv, bv, kv) ∧ Below W.heap.size W w') := ⟨fun W => (rparse_any s W HS.out).mono fun e w' ⟨mv, bv, kv, he, hT, hb⟩ => ⟨mv, bv, kv, by rw [he, HP.out]; rfl, by rw [HP.out] at hT; exact hT, hb⟩⟩
 have HW := Box.mk hw
 clear hs hw
 go_enter Tryz.func12, Tryz.ntmps12
 go_wp2_with fail
 refine (CP.out _ HW.out).mono ?_
 rintro e w1 ⟨mv, bv, kv, rfl, hT, hb⟩
 obtain ⟨A1, n1, rfl, -⟩ := hT.nod.ms.form
 obtain ⟨A2, n2, rfl, -⟩ := hT.nod.bys.form
 obtain ⟨A3, n3, rfl, -⟩ := hT.nod.kform
 go_upto_region 2 with (fail)
 have HT2 : Box (TB (w1.alloc (.cells (ndC d (.slice A1 d.ms.length n1) (.slice A2 d.bys.length n2) (.slice A3 ks.length n3)) 29)) w1.heap.size (.node d ks) (.slice A1 d.ms.length n1, .slice A2 d.bys.length n2, .slice A3 ks.length n3) ∧ Below w.heap.size w (w1.alloc (.cells (ndC d (.slice A1 d.ms.length n1) (.slice A2 d.bys.length n2) (.slice A3 ks.length n3)) 29))) := ⟨TB.new (hT.mono fun _ _ _ _ => trivial), bthen hb (bel1 _ _) (Nat.le_refl _)⟩
 clear hT hb
 generalize w1.heap.size = x1 at *
 generalize w1.alloc (.cells (ndC d (.slice A1 d.ms.length n1) (.slice A2 d.bys.length n2) (.slice A3 ks.length n3)) 29) = W2 at HT2 ⊢
 go_wp2_with fail
 refine (CR.out _).mono ?_
 rintro e w3 ⟨mv, bv, kv, rfl, hT, hb⟩
 obtain ⟨B1, m1, rfl, -⟩ := hT.nod.ms.form
 obtain ⟨B2, m2, rfl, -⟩ := hT.nod.bys.form
 obtain ⟨B3, m3, rfl, -⟩ := hT.nod.kform
 go_upto_region 3 with (fail)
 have HT4 : Box (TB (w3.alloc (.cells (ndC d (.slice B1 d.ms.length m1) (.slice B2 d.bys.length m2) (.slice B3 ks.length m3)) 29)) w3.heap.size (.node d ks) (.slice B1 d.ms.length m1, .slice B2 d.bys.length m2, .slice B3 ks.length m3) ∧ Below w.heap.size w (w3.alloc (.cells (ndC d (.slice B1 d.ms.length m1) (.slice B2 d.bys.length m2) (.slice B3 ks.length m3)) 29))) := ⟨TB.new (hT.mono fun _ _ _ _ => trivial), bthen (bthen HT2.out.2 hb (Nat.le_refl _)) (bel1 _ _) (Nat.le_refl _)⟩
 have HT3 : Box (TB (w3.alloc (.cells (ndC d (.slice B1 d.ms.length m1) (.slice B2 d.bys.length m2) (.slice B3 ks.length m3)) 29)) x1 (.node d ks) (.slice A1 d.ms.length n1, .slice A2 d.bys.length n2, .slice A3 ks.length n3)) := ⟨(HT2.out.1.next hb).next (bel1 _ _)⟩
 clear hT hb HT2
 generalize w3.heap.size = x2 at *
 generalize w3.alloc (.cells (ndC d (.slice B1 d.ms.length m1) (.slice B2 d.bys.length m2) (.slice B3 ks.length m3)) 29) = W4 at HT3 HT4 ⊢
 obtain ⟨k0, k1, k2, k3, k4, k5, k6, k7, k8, k9, k10⟩ := blk11z (d := d) HT3.out.box
 obtain ⟨l0, l1, l2, l3, l4, l5, l6, l7, l8, l9, l10⟩ := blk11z (d := d) HT4.out.1.box
 go_wp2_with fail
 refine (requal_any (.node d ks) (.node d ks) AnyP AnyP _ (.slice A1 d.ms.length n1, .slice A2 d.bys.length n2, .slice A3 ks.length n3) (.slice B1 d.ms.length m1, .slice B2 d.bys.length m2, .slice B3 ks.length m3) HT3.out.tr HT4.out.1.tr).mono ?_
 rw [eqT_refl]
 rintro e w5 ⟨rfl, hb⟩
 have HBF := Box.mk (bthen HT4.out.2 hb (Nat.le_refl _))
 clear hb HT3 HT4 k0 k1 k2 k3 k4 k5 k6 k7 k8 k9 k10 l0 l1 l2 l3 l4 l5 l6 l7 l8 l9 l10
 go_wp2_with fail
 go_ret
 exact ⟨rfl, HBF.out⟩
end
end Go.Proofs.YthoibeajhdhdhaaGreatDoor
