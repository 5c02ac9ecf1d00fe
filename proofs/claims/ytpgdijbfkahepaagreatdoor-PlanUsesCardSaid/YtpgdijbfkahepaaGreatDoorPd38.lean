/- Contracts, packed: Kx. -/
import Derived.Test.YtpgdijbfkahepaaGreatDoorPd37
set_option linter.unusedVariables false
set_option linter.unusedSimpArgs false
namespace Go.Proofs.YtpgdijbfkahepaaGreatDoor
section
open Go.RowKit FracM
set_option maxRecDepth 100000 in
set_option maxHeartbeats 4000000 in
theorem pterm_any (g : Nat) (en : Int) (fac : List Tok → Res Tree) (hfac : ∀ us, Sho (fac us) us) (ts : List Tok) (w : World) (h : PS w g en ts) (hw : WordsP w g)
  (hF : ∀ us w, us.length ≤ ts.length → PS w g en us → WordsP w g → Calls Tryz.prog 79 #[.pointer (some ⟨g, 0, none⟩)] w (RetX g en w (fac us) (VTree w.heap.size))) :
  Calls Tryz.prog 60 #[.pointer (some ⟨g, 0, none⟩)] w (RetX g en w (termOf fac ts) (VTree w.heap.size)) := by
 obtain ⟨R, HR⟩ : ∃ R, Box (termOf fac ts = R) := ⟨_, ⟨rfl⟩⟩
 have hmf : ∀ (fn : Fn) (first cap : Array Value) (w : World), (Instr.makeFunc fn first cap).run Tryz.prog w = .ok (.func fn first cap) w := fun _ _ _ _ => rfl
 have HF := Box.mk hF
 have hg := h.lt
 have H0 : Box (PS (w.alloc (.cells zeroC 35)) g en ts ∧ WordsP (w.alloc (.cells zeroC 35)) g ∧ Blk (w.alloc (.cells zeroC 35)) w.heap.size 35 zeroC ∧ Below w.heap.size w (w.alloc (.cells zeroC 35))) := ⟨h.alloc _, hw.below (bel1 _ _), Blk.new _ _ _, bel1 _ _⟩
 have HC : Box (∀ W, PS W g en ts → WordsP W g → Calls Tryz.prog 59 #[.pointer (some ⟨g, 0, none⟩), .int .i64 2, .func (.func 79) #[.pointer (some ⟨g, 0, none⟩)] #[]] W (RetX g en W R (VTree W.heap.size))) := ⟨fun W h1 h2 => by
  rw [← HR.out]
  exact poper2_any g en fac hfac ts W h1 h2 HF.out⟩
 rw [HR.out]
 clear h hw hF
 go_enter Tryz.func60, Tryz.ntmps60
 have hz0 : (w.alloc (.cells zeroC 35)).heap.size = w.heap.size + 1 := by simp
 go_upto_region 1 with (fail)
 show Code.wp _ _ _ _ (w.alloc (.cells zeroC 35))
 generalize w.alloc (.cells zeroC 35) = W0 at H0 hz0 ⊢
 go_wp2_with fail
 refine (HC.out _ H0.out.1 H0.out.2.1).mono ?_
 intro e w1 hx
 rcases hx.cases with ⟨f, hs, rfl, ho⟩ | ⟨t, us, hs, hp, hv, ho⟩
 ·go_wp2_with fail
  exact ⟨rfl, RetX.err (by first | rfl | exact hs) ((Only.of_below H0.out.2.2.2).trans ho)⟩
 obtain ⟨mv, bv, kv, rfl, ht⟩ := hv
 obtain ⟨e1, es1⟩ := t
 obtain ⟨A1, a1, rfl, -⟩ := ht.nod.ms.form
 obtain ⟨A2, a2, rfl, -⟩ := ht.nod.bys.form
 obtain ⟨A3, a3, rfl, -⟩ := ht.nod.kform
 have HZ : Box (Blk w1 w.heap.size 35 zeroC ∧ Only g w w1 ∧ PS w1 g en us ∧ TreeAt w1 (fun b _ => W0.heap.size ≤ b) (.node e1 es1) (.slice A1 e1.ms.length a1, .slice A2 e1.bys.length a2, .slice A3 es1.length a3)) := ⟨ho.blk H0.out.2.2.1 (by omega), (Only.of_below H0.out.2.2.2).trans ho, hp, ht⟩
 have HRR : Box (R = .ok (.node e1 es1, us)) := ⟨hs⟩
 obtain ⟨z0, z1, z2, z3, z4, z5, z6, z7, z8, z9, z10⟩ := blk11 HZ.out.1
 simp only [Nat.zero_add, Tree.d] at z1 z2 z3 z4 z5 z6 z7 z8 z9 z10 ⊢
 have zf := HZ.out.1.frozen
 clear hs hp ho hx ht H0
 go_wp2_with fail
 have HB : Box (Blk (put11 w1 w.heap.size (.int .i64 e1.kind) (.int .i64 e1.fn) (.int .i64 e1.win) (.int .i64 e1.off) (.int .i64 e1.k) (.int .i64 e1.num) (.int .i64 e1.den) (.string e1.name) (.slice A1 e1.ms.length a1) (.slice A2 e1.bys.length a2) (.slice A3 es1.length a3)) w.heap.size 35 (ndC e1 (.slice A1 e1.ms.length a1) (.slice A2 e1.bys.length a2) (.slice A3 es1.length a3))) := ⟨put11_blk HZ.out.1⟩
 have HOn : Box (Only w.heap.size w1 (put11 w1 w.heap.size (.int .i64 e1.kind) (.int .i64 e1.fn) (.int .i64 e1.win) (.int .i64 e1.off) (.int .i64 e1.k) (.int .i64 e1.num) (.int .i64 e1.den) (.string e1.name) (.slice A1 e1.ms.length a1) (.slice A2 e1.bys.length a2) (.slice A3 es1.length a3))) := ⟨put11_only ..⟩
 show bodyPost _ _ _ _ _ (put11 w1 w.heap.size (.int .i64 e1.kind) (.int .i64 e1.fn) (.int .i64 e1.win) (.int .i64 e1.off) (.int .i64 e1.k) (.int .i64 e1.num) (.int .i64 e1.den) (.string e1.name) (.slice A1 e1.ms.length a1) (.slice A2 e1.bys.length a2) (.slice A3 es1.length a3))
 generalize (put11 w1 w.heap.size (.int .i64 e1.kind) (.int .i64 e1.fn) (.int .i64 e1.win) (.int .i64 e1.off) (.int .i64 e1.k) (.int .i64 e1.num) (.int .i64 e1.den) (.string e1.name) (.slice A1 e1.ms.length a1) (.slice A2 e1.bys.length a2) (.slice A3 es1.length a3)) = WF at HB HOn ⊢
 obtain ⟨f0, f1, f2, f3, f4, f5, f6, f7, f8, f9, f10⟩ := blk11 HB.out
 simp only [Nat.zero_add] at f1 f2 f3 f4 f5 f6 f7 f8 f9 f10
 have ef := HB.out.frozen
 refine bodyPost_ret (v := .agg (ndC e1 (.slice A1 e1.ms.length a1) (.slice A2 e1.bys.length a2) (.slice A3 es1.length a3))) (by simp [results, Tryz.results60, go_sem, f0, f1, f2, f3, f4, f5, f6, f7, f8, f9, f10, ef]) rfl ?_
 exact RetX.okk (HRR.out) (only_new2 HZ.out.2.1 HOn.out (Nat.le_refl _)) ((HZ.out.2.2.1).only HOn.out hg) ⟨_, _, _, rfl, ((HZ.out.2.2.2).keep (Agree.of_only HOn.out fun b e hb => by omega)).mono' fun b e _ hb => by omega⟩
set_option maxRecDepth 100000 in
set_option maxHeartbeats 4000000 in
theorem pexpr_any (g : Nat) (en : Int) (fac : List Tok → Res Tree) (hfac : ∀ us, Sho (fac us) us) (ts : List Tok) (w : World) (h : PS w g en ts) (hw : WordsP w g)
  (hF : ∀ us w, us.length ≤ ts.length → PS w g en us → WordsP w g → Calls Tryz.prog 79 #[.pointer (some ⟨g, 0, none⟩)] w (RetX g en w (fac us) (VTree w.heap.size))) :
  Calls Tryz.prog 40 #[.pointer (some ⟨g, 0, none⟩)] w (RetX g en w (exprOf fac ts) (VTree w.heap.size)) := by
 obtain ⟨R, HR⟩ : ∃ R, Box (exprOf fac ts = R) := ⟨_, ⟨rfl⟩⟩
 have hmf : ∀ (fn : Fn) (first cap : Array Value) (w : World), (Instr.makeFunc fn first cap).run Tryz.prog w = .ok (.func fn first cap) w := fun _ _ _ _ => rfl
 have HF := Box.mk hF
 have hg := h.lt
 have H0 : Box (PS (w.alloc (.cells zeroC 35)) g en ts ∧ WordsP (w.alloc (.cells zeroC 35)) g ∧ Blk (w.alloc (.cells zeroC 35)) w.heap.size 35 zeroC ∧ Below w.heap.size w (w.alloc (.cells zeroC 35))) := ⟨h.alloc _, hw.below (bel1 _ _), Blk.new _ _ _, bel1 _ _⟩
 have HC : Box (∀ W, PS W g en ts → WordsP W g → Calls Tryz.prog 59 #[.pointer (some ⟨g, 0, none⟩), .int .i64 0, .func (.func 60) #[.pointer (some ⟨g, 0, none⟩)] #[]] W (RetX g en W R (VTree W.heap.size))) := ⟨fun W h1 h2 => by
  rw [← HR.out]
  exact poper0_any g en (termOf fac) (fun us => operM_len fac hfac 2 us) ts W h1 h2 (fun us W' hl h3 h4 => pterm_any g en fac hfac us W' h3 h4 (fun vs W2 hl2 => HF.out vs W2 (by omega)))⟩
 rw [HR.out]
 clear h hw hF
 go_enter Tryz.func40, Tryz.ntmps40
 have hz0 : (w.alloc (.cells zeroC 35)).heap.size = w.heap.size + 1 := by simp
 go_upto_region 1 with (fail)
 show Code.wp _ _ _ _ (w.alloc (.cells zeroC 35))
 generalize w.alloc (.cells zeroC 35) = W0 at H0 hz0 ⊢
 go_wp2_with fail
 refine (HC.out _ H0.out.1 H0.out.2.1).mono ?_
 intro e w1 hx
 rcases hx.cases with ⟨f, hs, rfl, ho⟩ | ⟨t, us, hs, hp, hv, ho⟩
 ·go_wp2_with fail
  exact ⟨rfl, RetX.err (by first | rfl | exact hs) ((Only.of_below H0.out.2.2.2).trans ho)⟩
 obtain ⟨mv, bv, kv, rfl, ht⟩ := hv
 obtain ⟨e1, es1⟩ := t
 obtain ⟨A1, a1, rfl, -⟩ := ht.nod.ms.form
 obtain ⟨A2, a2, rfl, -⟩ := ht.nod.bys.form
 obtain ⟨A3, a3, rfl, -⟩ := ht.nod.kform
 have HZ : Box (Blk w1 w.heap.size 35 zeroC ∧ Only g w w1 ∧ PS w1 g en us ∧ TreeAt w1 (fun b _ => W0.heap.size ≤ b) (.node e1 es1) (.slice A1 e1.ms.length a1, .slice A2 e1.bys.length a2, .slice A3 es1.length a3)) := ⟨ho.blk H0.out.2.2.1 (by omega), (Only.of_below H0.out.2.2.2).trans ho, hp, ht⟩
 have HRR : Box (R = .ok (.node e1 es1, us)) := ⟨hs⟩
 obtain ⟨z0, z1, z2, z3, z4, z5, z6, z7, z8, z9, z10⟩ := blk11 HZ.out.1
 simp only [Nat.zero_add, Tree.d] at z1 z2 z3 z4 z5 z6 z7 z8 z9 z10 ⊢
 have zf := HZ.out.1.frozen
 clear hs hp ho hx ht H0
 go_wp2_with fail
 have HB : Box (Blk (put11 w1 w.heap.size (.int .i64 e1.kind) (.int .i64 e1.fn) (.int .i64 e1.win) (.int .i64 e1.off) (.int .i64 e1.k) (.int .i64 e1.num) (.int .i64 e1.den) (.string e1.name) (.slice A1 e1.ms.length a1) (.slice A2 e1.bys.length a2) (.slice A3 es1.length a3)) w.heap.size 35 (ndC e1 (.slice A1 e1.ms.length a1) (.slice A2 e1.bys.length a2) (.slice A3 es1.length a3))) := ⟨put11_blk HZ.out.1⟩
 have HOn : Box (Only w.heap.size w1 (put11 w1 w.heap.size (.int .i64 e1.kind) (.int .i64 e1.fn) (.int .i64 e1.win) (.int .i64 e1.off) (.int .i64 e1.k) (.int .i64 e1.num) (.int .i64 e1.den) (.string e1.name) (.slice A1 e1.ms.length a1) (.slice A2 e1.bys.length a2) (.slice A3 es1.length a3))) := ⟨put11_only ..⟩
 show bodyPost _ _ _ _ _ (put11 w1 w.heap.size (.int .i64 e1.kind) (.int .i64 e1.fn) (.int .i64 e1.win) (.int .i64 e1.off) (.int .i64 e1.k) (.int .i64 e1.num) (.int .i64 e1.den) (.string e1.name) (.slice A1 e1.ms.length a1) (.slice A2 e1.bys.length a2) (.slice A3 es1.length a3))
 generalize (put11 w1 w.heap.size (.int .i64 e1.kind) (.int .i64 e1.fn) (.int .i64 e1.win) (.int .i64 e1.off) (.int .i64 e1.k) (.int .i64 e1.num) (.int .i64 e1.den) (.string e1.name) (.slice A1 e1.ms.length a1) (.slice A2 e1.bys.length a2) (.slice A3 es1.length a3)) = WF at HB HOn ⊢
 obtain ⟨f0, f1, f2, f3, f4, f5, f6, f7, f8, f9, f10⟩ := blk11 HB.out
 simp only [Nat.zero_add] at f1 f2 f3 f4 f5 f6 f7 f8 f9 f10
 have ef := HB.out.frozen
 refine bodyPost_ret (v := .agg (ndC e1 (.slice A1 e1.ms.length a1) (.slice A2 e1.bys.length a2) (.slice A3 es1.length a3))) (by simp [results, Tryz.results40, go_sem, f0, f1, f2, f3, f4, f5, f6, f7, f8, f9, f10, ef]) rfl ?_
 exact RetX.okk (HRR.out) (only_new2 HZ.out.2.1 HOn.out (Nat.le_refl _)) ((HZ.out.2.2.1).only HOn.out hg) ⟨_, _, _, rfl, ((HZ.out.2.2.2).keep (Agree.of_only HOn.out fun b e hb => by omega)).mono' fun b e _ hb => by omega⟩
/-- factor under way: the result's block is there -/
structure FacS (g : Nat) (en : Int) (w W : World) (us : List Tok) : Prop where
 ps : PS W g en us
 wp : WordsP W g
 z : Blk W w.heap.size 35 zeroC
 only : Only g w W
 g0 : g < w.heap.size
theorem FacS.step {g : Nat} {en : Int} {w W W' : World} {ts us : List Tok} (h : FacS g en w W ts) (ho : Only g W W') (hp : PS W' g en us) : FacS g en w W' us :=
 ⟨hp, h.wp.only ho h.wp.far, ho.blk h.z (by have := h.g0; omega), h.only.trans ho, h.g0⟩
theorem grp_word {W : World} {g : Nat} (hw : WordsP W g) (x : List UInt8) : Calls Tryz.prog 92 #[.slice (some ⟨1, 0, none⟩) 5 5, .string (bsL x)] W fun e w' => e = .returned (.int .i64 (idxT groupsT x)) ∧ W = w' := pindex_any _ 5 groupsT rfl (by omega) x W hw.grp
theorem numOk (n : Int) (h : 0 ≤ n ∧ n ≤ 1073741824) : NdOk (numT n).d :=
 ⟨⟨(by unfold I64; omega : I64 0), (by unfold I64; omega : I64 0), (by unfold I64; omega : I64 0), (by unfold I64; omega : I64 0), (by unfold I64; omega : I64 0), (by unfold I64; omega : I64 n), (by unfold I64; omega : I64 1)⟩, by show (0 : Nat) ≤ maxLen; omega, fun m hm => by simp [numT, Tree.d] at hm, fun s hs => by simp [numT, Tree.d] at hs⟩
set_option maxRecDepth 100000 in
set_option maxHeartbeats 4000000 in
theorem pfactor_step (n g : Nat) (en : Int) (IH : ∀ us w, us.length < n → PS w g en us → WordsP w g → Calls Tryz.prog 79 #[.pointer (some ⟨g, 0, none⟩)] w (RetX g en w (facM en n us) (VTree w.heap.size)))
  (ts0 : List Tok) (w : World) (hl : ts0.length < n + 1) (h : PS w g en ts0) (hw : WordsP w g) : Calls Tryz.prog 79 #[.pointer (some ⟨g, 0, none⟩)] w (RetX g en w (facM en (n + 1) ts0) (VTree w.heap.size)) := by
 obtain ⟨R, HR⟩ : ∃ R, Box (facM en (n + 1) ts0 = R) := ⟨_, ⟨rfl⟩⟩
 rw [HR.out]
 have HIH := Box.mk IH
 have HEX : Box (∀ us W, us.length < n → PS W g en us → WordsP W g → Calls Tryz.prog 40 #[.pointer (some ⟨g, 0, none⟩)] W (RetX g en W (exprOf (facM en n) us) (VTree W.heap.size))) := ⟨fun us W h1 h2 h3 => pexpr_any g en (facM en n) (facM_len en n) us W h2 h3 fun vs W2 h4 h5 h6 => IH vs W2 (by omega) h5 h6⟩
 have hg := h.lt
 have H1 : Box (FacS g en w (w.alloc (.cells zeroC 35)) ts0) := ⟨⟨h.alloc _, hw.below (bel1 _ _), Blk.new _ _ _, Only.of_below (bel1 _ _), hg⟩⟩
 have HTK : Box (ToksOk ts0) := ⟨h.ok⟩
 clear h hw IH
 go_enter Tryz.func79, Tryz.ntmps79
 have hz0 : (w.alloc (.cells zeroC 35)).heap.size = w.heap.size + 1 := by simp
 go_upto_region 1 with (fail)
 show Code.wp _ _ _ _ (w.alloc (.cells zeroC 35))
 generalize w.alloc (.cells zeroC 35) = W0 at H1 hz0 ⊢
 cases hk1 : kindT ts0 1
 ·cases hop : isT ts0 3 sOpen
  ·cases hk0 : kindT ts0 0
   ·have hm : facM en (n + 1) ts0 = bad en ts0 2 := by unfold facM; rw [hk1, hop, hk0]; rfl
    go_wp2_with fail
    refine (pkind_any g en 1 ts0 _ H1.out.ps).mono ?_
    rintro e w1 ⟨rfl, rfl⟩
    rw [hk1]
    go_wp2_with fail
    refine (ptry_any g en sOpen _ rfl ts0 _ H1.out.ps).mono ?_
    rintro e w1 ⟨rfl, hp, ho⟩
    rw [hop, if_neg Bool.false_ne_true] at hp
    rw [hop]
    have H2 := Box.mk (H1.out.step ho hp)
    clear hp ho H1
    go_wp2_with fail
    refine (pkind_any g en 0 ts0 _ H2.out.ps).mono ?_
    rintro e w1 ⟨rfl, rfl⟩
    rw [hk0]
    go_wp2_with fail
    refine (pfail_any g en 2 ts0 _ H2.out.ps).mono ?_
    rintro e w1 ⟨rfl, rfl⟩
    go_wp2_with fail
    exact ⟨rfl, RetX.err (HR.out.symm.trans hm) H2.out.only⟩
   ·obtain ⟨t, r, rfl⟩ := kindT_cons hk0
    have HM : Box (facM en (n + 1) (t :: r) = if 0 ≤ idxT groupsT t.text then groupM en (exprOf (facM en n)) (idxT groupsT t.text) r else selectM en t.text r) := ⟨by unfold facM; rw [hk1, hop, hk0]; rfl⟩
    have hfd := tok_f1 (.int .i64 t.kind) (.string (bsL t.text)) (.int .i64 t.n) (.int .i64 (t.off : Int))
    have htx : t.text.length ≤ 2000 := (HTK.out t (by simp)).s
    obtain ⟨ix, HX⟩ : ∃ ix, Box (idxT groupsT t.text = ix) := ⟨_, ⟨rfl⟩⟩
    have hix := idxT_lt groupsT t.text
    rw [HX.out] at hix
    simp only [groupsT, List.length_cons, List.length_nil] at hix
    go_wp2_with fail
    refine (pkind_any g en 1 _ _ H1.out.ps).mono ?_
    rintro e w1 ⟨rfl, rfl⟩
    rw [hk1]
    go_wp2_with fail
    refine (ptry_any g en sOpen _ rfl _ _ H1.out.ps).mono ?_
    rintro e w1 ⟨rfl, hp, ho⟩
    rw [hop, if_neg Bool.false_ne_true] at hp
    rw [hop]
    have hz1 := ho.size
    have H2 := Box.mk (H1.out.step ho hp)
    clear hp ho H1
    go_wp2_with fail
    refine (pkind_any g en 0 _ _ H2.out.ps).mono ?_
    rintro e w1 ⟨rfl, rfl⟩
    rw [hk0]
    go_wp2_with fail
    refine (ptake_any g en t r _ H2.out.ps).mono ?_
    rintro e w2 ⟨rfl, hp, ho⟩
    have hz2 := ho.size
    have H1 := Box.mk (H2.out.step ho hp)
    clear hp ho H2
    go_wp2_with fail
    refine (grp_word H1.out.wp t.text).mono ?_
    rintro e w3 ⟨rfl, rfl⟩
    rw [HX.out]
    by_cases hpos : 0 ≤ ix
    ·have HM2 : Box (facM en (n + 1) (t :: r) = groupM en (exprOf (facM en n)) ix r) := ⟨by rw [HM.out, HX.out, if_pos hpos]⟩
     go_wp2_with fail
     refine (pgroup_any g en ix (exprOf (facM en n)) (exprOf_len _ (facM_len en n)) r _ H1.out.ps H1.out.wp ⟨hpos, by omega⟩ (fun us W h1 h2 h3 => HEX.out us W (by simp at hl; omega) h2 h3)).mono ?_
     intro e w3 hx
     rcases hx.cases with ⟨f, hs, rfl, ho⟩ | ⟨t2, us, hs, hp, hv, ho⟩
     ·have hm : facM en (n + 1) (t :: r) = .error f := by rw [HM2.out, hs]
      go_wp2_with fail
      exact ⟨rfl, RetX.err (HR.out.symm.trans hm) (H1.out.only.trans ho)⟩
     obtain ⟨mv, bv, kv, rfl, ht⟩ := hv
     obtain ⟨e1, es1⟩ := t2
     obtain ⟨A1, a1, rfl, -⟩ := ht.nod.ms.form
     obtain ⟨A2, a2, rfl, -⟩ := ht.nod.bys.form
     obtain ⟨A3, a3, rfl, -⟩ := ht.nod.kform
     have hsz := H1.out.z.lt
     have HZ : Box (Blk w3 w.heap.size 35 zeroC ∧ Only g w w3 ∧ PS w3 g en us ∧ TreeAt w3 (fun b _ => w2.heap.size ≤ b) (.node e1 es1) (.slice A1 e1.ms.length a1, .slice A2 e1.bys.length a2, .slice A3 es1.length a3)) := ⟨ho.blk H1.out.z (by omega), H1.out.only.trans ho, hp, ht⟩
     have HRR : Box (facM en (n + 1) (t :: r) = .ok (.node e1 es1, us)) := ⟨by rw [HM2.out, hs]⟩
     obtain ⟨z0, z1, z2, z3, z4, z5, z6, z7, z8, z9, z10⟩ := blk11 HZ.out.1
     simp only [Nat.zero_add, Tree.d] at z1 z2 z3 z4 z5 z6 z7 z8 z9 z10 ⊢
     have zf := HZ.out.1.frozen
     clear hs hp ho hx ht H1
     go_wp2_with fail
     have HB : Box (Blk (put11 w3 w.heap.size (.int .i64 e1.kind) (.int .i64 e1.fn) (.int .i64 e1.win) (.int .i64 e1.off) (.int .i64 e1.k) (.int .i64 e1.num) (.int .i64 e1.den) (.string e1.name) (.slice A1 e1.ms.length a1) (.slice A2 e1.bys.length a2) (.slice A3 es1.length a3)) w.heap.size 35 (ndC e1 (.slice A1 e1.ms.length a1) (.slice A2 e1.bys.length a2) (.slice A3 es1.length a3))) := ⟨put11_blk HZ.out.1⟩
     have HOn : Box (Only w.heap.size w3 (put11 w3 w.heap.size (.int .i64 e1.kind) (.int .i64 e1.fn) (.int .i64 e1.win) (.int .i64 e1.off) (.int .i64 e1.k) (.int .i64 e1.num) (.int .i64 e1.den) (.string e1.name) (.slice A1 e1.ms.length a1) (.slice A2 e1.bys.length a2) (.slice A3 es1.length a3))) := ⟨put11_only ..⟩
     show bodyPost _ _ _ _ _ (put11 w3 w.heap.size (.int .i64 e1.kind) (.int .i64 e1.fn) (.int .i64 e1.win) (.int .i64 e1.off) (.int .i64 e1.k) (.int .i64 e1.num) (.int .i64 e1.den) (.string e1.name) (.slice A1 e1.ms.length a1) (.slice A2 e1.bys.length a2) (.slice A3 es1.length a3))
     generalize (put11 w3 w.heap.size (.int .i64 e1.kind) (.int .i64 e1.fn) (.int .i64 e1.win) (.int .i64 e1.off) (.int .i64 e1.k) (.int .i64 e1.num) (.int .i64 e1.den) (.string e1.name) (.slice A1 e1.ms.length a1) (.slice A2 e1.bys.length a2) (.slice A3 es1.length a3)) = WF at HB HOn ⊢
     obtain ⟨f0, f1, f2, f3, f4, f5, f6, f7, f8, f9, f10⟩ := blk11 HB.out
     simp only [Nat.zero_add] at f1 f2 f3 f4 f5 f6 f7 f8 f9 f10
     have ef := HB.out.frozen
     refine bodyPost_ret (v := .agg (ndC e1 (.slice A1 e1.ms.length a1) (.slice A2 e1.bys.length a2) (.slice A3 es1.length a3))) (by simp [results, Tryz.results79, go_sem, f0, f1, f2, f3, f4, f5, f6, f7, f8, f9, f10, ef]) rfl ?_
     exact RetX.okk (HR.out.symm.trans HRR.out) (only_new2 HZ.out.2.1 HOn.out (Nat.le_refl _)) ((HZ.out.2.2.1).only HOn.out hg) ⟨_, _, _, rfl, ((HZ.out.2.2.2).keep (Agree.of_only HOn.out fun b e hb => by omega)).mono' fun b e _ hb => by omega⟩
    ·have HM2 : Box (facM en (n + 1) (t :: r) = selectM en t.text r) := ⟨by rw [HM.out, HX.out, if_neg hpos]⟩
     go_wp2_with fail
     refine (pselection_any g en t.text r _ H1.out.ps H1.out.wp htx).mono ?_
     intro e w3 hx
     rcases hx.cases with ⟨f, hs, rfl, ho⟩ | ⟨t2, us, hs, hp, hv, ho⟩
     ·have hm : facM en (n + 1) (t :: r) = .error f := by rw [HM2.out, hs]
      go_wp2_with fail
      exact ⟨rfl, RetX.err (HR.out.symm.trans hm) (H1.out.only.trans ho)⟩
     obtain ⟨mv, bv, kv, rfl, ht⟩ := hv
     obtain ⟨e1, es1⟩ := t2
     obtain ⟨A1, a1, rfl, -⟩ := ht.nod.ms.form
     obtain ⟨A2, a2, rfl, -⟩ := ht.nod.bys.form
     obtain ⟨A3, a3, rfl, -⟩ := ht.nod.kform
     have hsz := H1.out.z.lt
     have HZ : Box (Blk w3 w.heap.size 35 zeroC ∧ Only g w w3 ∧ PS w3 g en us ∧ TreeAt w3 (fun b _ => w2.heap.size ≤ b) (.node e1 es1) (.slice A1 e1.ms.length a1, .slice A2 e1.bys.length a2, .slice A3 es1.length a3)) := ⟨ho.blk H1.out.z (by omega), H1.out.only.trans ho, hp, ht⟩
     have HRR : Box (facM en (n + 1) (t :: r) = .ok (.node e1 es1, us)) := ⟨by rw [HM2.out, hs]⟩
     obtain ⟨z0, z1, z2, z3, z4, z5, z6, z7, z8, z9, z10⟩ := blk11 HZ.out.1
     simp only [Nat.zero_add, Tree.d] at z1 z2 z3 z4 z5 z6 z7 z8 z9 z10 ⊢
     have zf := HZ.out.1.frozen
     clear hs hp ho hx ht H1
     go_wp2_with fail
     have HB : Box (Blk (put11 w3 w.heap.size (.int .i64 e1.kind) (.int .i64 e1.fn) (.int .i64 e1.win) (.int .i64 e1.off) (.int .i64 e1.k) (.int .i64 e1.num) (.int .i64 e1.den) (.string e1.name) (.slice A1 e1.ms.length a1) (.slice A2 e1.bys.length a2) (.slice A3 es1.length a3)) w.heap.size 35 (ndC e1 (.slice A1 e1.ms.length a1) (.slice A2 e1.bys.length a2) (.slice A3 es1.length a3))) := ⟨put11_blk HZ.out.1⟩
     have HOn : Box (Only w.heap.size w3 (put11 w3 w.heap.size (.int .i64 e1.kind) (.int .i64 e1.fn) (.int .i64 e1.win) (.int .i64 e1.off) (.int .i64 e1.k) (.int .i64 e1.num) (.int .i64 e1.den) (.string e1.name) (.slice A1 e1.ms.length a1) (.slice A2 e1.bys.length a2) (.slice A3 es1.length a3))) := ⟨put11_only ..⟩
     show bodyPost _ _ _ _ _ (put11 w3 w.heap.size (.int .i64 e1.kind) (.int .i64 e1.fn) (.int .i64 e1.win) (.int .i64 e1.off) (.int .i64 e1.k) (.int .i64 e1.num) (.int .i64 e1.den) (.string e1.name) (.slice A1 e1.ms.length a1) (.slice A2 e1.bys.length a2) (.slice A3 es1.length a3))
     generalize (put11 w3 w.heap.size (.int .i64 e1.kind) (.int .i64 e1.fn) (.int .i64 e1.win) (.int .i64 e1.off) (.int .i64 e1.k) (.int .i64 e1.num) (.int .i64 e1.den) (.string e1.name) (.slice A1 e1.ms.length a1) (.slice A2 e1.bys.length a2) (.slice A3 es1.length a3)) = WF at HB HOn ⊢
     obtain ⟨f0, f1, f2, f3, f4, f5, f6, f7, f8, f9, f10⟩ := blk11 HB.out
     simp only [Nat.zero_add] at f1 f2 f3 f4 f5 f6 f7 f8 f9 f10
     have ef := HB.out.frozen
     refine bodyPost_ret (v := .agg (ndC e1 (.slice A1 e1.ms.length a1) (.slice A2 e1.bys.length a2) (.slice A3 es1.length a3))) (by simp [results, Tryz.results79, go_sem, f0, f1, f2, f3, f4, f5, f6, f7, f8, f9, f10, ef]) rfl ?_
     exact RetX.okk (HR.out.symm.trans HRR.out) (only_new2 HZ.out.2.1 HOn.out (Nat.le_refl _)) ((HZ.out.2.2.1).only HOn.out hg) ⟨_, _, _, rfl, ((HZ.out.2.2.2).keep (Agree.of_only HOn.out fun b e hb => by omega)).mono' fun b e _ hb => by omega⟩
  ·have HM : Box (facM en (n + 1) ts0 = andR (exprOf (facM en n) ts0.tail) fun t ts1 => andR (symbolM en sShut ts1) fun _ ts2 => .ok (t, ts2)) := ⟨by unfold facM; rw [hk1, hop]; rfl⟩
   have hul := isT_len hop
   go_wp2_with fail
   refine (pkind_any g en 1 _ _ H1.out.ps).mono ?_
   rintro e w1 ⟨rfl, rfl⟩
   rw [hk1]
   go_wp2_with fail
   refine (ptry_any g en sOpen _ rfl _ _ H1.out.ps).mono ?_
   rintro e w1 ⟨rfl, hp, ho⟩
   rw [hop, if_pos rfl] at hp
   rw [hop]
   have hz1 := ho.size
   have H2 := Box.mk (H1.out.step ho hp)
   clear hp ho H1
   go_wp2_with fail
   refine (HEX.out ts0.tail _ (by omega) H2.out.ps H2.out.wp).mono ?_
   intro e w2 hx
   rcases hx.cases with ⟨f, hs, rfl, ho⟩ | ⟨t2, us, hs, hp, hv, ho⟩
   ·have hm : facM en (n + 1) ts0 = .error f := by rw [HM.out, hs]; rfl
    go_wp2_with fail
    exact ⟨rfl, RetX.err (HR.out.symm.trans hm) (H2.out.only.trans ho)⟩
   obtain ⟨mv, bv, kv, rfl, ht⟩ := hv
   obtain ⟨e1, es1⟩ := t2
   obtain ⟨A1, a1, rfl, -⟩ := ht.nod.ms.form
   obtain ⟨A2, a2, rfl, -⟩ := ht.nod.bys.form
   obtain ⟨A3, a3, rfl, -⟩ := ht.nod.kform
   have HM1 : Box (facM en (n + 1) ts0 = andR (symbolM en sShut us) fun _ ts2 => .ok (.node e1 es1, ts2)) := ⟨by rw [HM.out, hs]; rfl⟩
   have hz2 := ho.size
   have H3 := Box.mk (H2.out.step ho hp)
   have hzl := H3.out.z.lt
   have H4 : Box (FacS g en w (w2.alloc (.cells (ndC e1 (.slice A1 e1.ms.length a1) (.slice A2 e1.bys.length a2) (.slice A3 es1.length a3)) 35)) us) := ⟨H3.out.step (Only.of_below (bel1 _ _)) (H3.out.ps.alloc _)⟩
   have HBL : Box (Blk (w2.alloc (.cells (ndC e1 (.slice A1 e1.ms.length a1) (.slice A2 e1.bys.length a2) (.slice A3 es1.length a3)) 35)) w2.heap.size 35 (ndC e1 (.slice A1 e1.ms.length a1) (.slice A2 e1.bys.length a2) (.slice A3 es1.length a3)) ∧ TreeAt (w2.alloc (.cells (ndC e1 (.slice A1 e1.ms.length a1) (.slice A2 e1.bys.length a2) (.slice A3 es1.length a3)) 35)) (fun b _ => w.heap.size < b) (.node e1 es1) (.slice A1 e1.ms.length a1, .slice A2 e1.bys.length a2, .slice A3 es1.length a3)) := ⟨Blk.new _ _ _, (ht.mono' (Q := fun b _ => w.heap.size < b) fun b e _ hb => by omega).belo (bel1 _ _)⟩
   clear hs hp ho hx ht H2 HM H3
   simp only [Tree.d]
   go_upto_region 5 with (fail)
   generalize w2.alloc (.cells (ndC e1 (.slice A1 e1.ms.length a1) (.slice A2 e1.bys.length a2) (.slice A3 es1.length a3)) 35) = W4 at H4 HBL ⊢
   generalize w2.heap.size = eb at *
   go_wp2_with fail
   refine (psymbol_any g en sShut _ rfl us _ H4.out.ps).mono ?_
   intro e w5 hx
   rcases hx.cases with ⟨f, hs, rfl, ho⟩ | ⟨a, vs, hs, hp, rfl, ho⟩
   ·have hm : facM en (n + 1) ts0 = .error f := by rw [HM1.out, hs]; rfl
    go_wp2_with fail
    exact ⟨rfl, RetX.err (HR.out.symm.trans hm) (H4.out.only.trans ho)⟩
   have HRR : Box (facM en (n + 1) ts0 = .ok (.node e1 es1, vs)) := ⟨by rw [HM1.out, hs]; rfl⟩
   have H5 := Box.mk (H4.out.step ho hp)
   have HBL5 : Box (Blk w5 eb 35 (ndC e1 (.slice A1 e1.ms.length a1) (.slice A2 e1.bys.length a2) (.slice A3 es1.length a3)) ∧ TreeAt w5 (fun b _ => w.heap.size < b) (.node e1 es1) (.slice A1 e1.ms.length a1, .slice A2 e1.bys.length a2, .slice A3 es1.length a3)) := ⟨ho.blk HBL.out.1 (by omega), HBL.out.2.keep (Agree.of_only ho fun b e hb => by omega)⟩
   obtain ⟨z0, z1, z2, z3, z4, z5, z6, z7, z8, z9, z10⟩ := blk11 H5.out.z
   obtain ⟨c0, c1, c2, c3, c4, c5, c6, c7, c8, c9, c10⟩ := blk11 HBL5.out.1
   simp only [Nat.zero_add] at z1 z2 z3 z4 z5 z6 z7 z8 z9 z10 c1 c2 c3 c4 c5 c6 c7 c8 c9 c10
   have zf := H5.out.z.frozen
   clear hs hp ho hx HM1 H4 HBL
   go_wp2_with fail
   have HB : Box (Blk (put11 w5 w.heap.size (.int .i64 e1.kind) (.int .i64 e1.fn) (.int .i64 e1.win) (.int .i64 e1.off) (.int .i64 e1.k) (.int .i64 e1.num) (.int .i64 e1.den) (.string e1.name) (.slice A1 e1.ms.length a1) (.slice A2 e1.bys.length a2) (.slice A3 es1.length a3)) w.heap.size 35 (ndC e1 (.slice A1 e1.ms.length a1) (.slice A2 e1.bys.length a2) (.slice A3 es1.length a3))) := ⟨put11_blk H5.out.z⟩
   have HOn : Box (Only w.heap.size w5 (put11 w5 w.heap.size (.int .i64 e1.kind) (.int .i64 e1.fn) (.int .i64 e1.win) (.int .i64 e1.off) (.int .i64 e1.k) (.int .i64 e1.num) (.int .i64 e1.den) (.string e1.name) (.slice A1 e1.ms.length a1) (.slice A2 e1.bys.length a2) (.slice A3 es1.length a3))) := ⟨put11_only ..⟩
   show bodyPost _ _ _ _ _ (put11 w5 w.heap.size (.int .i64 e1.kind) (.int .i64 e1.fn) (.int .i64 e1.win) (.int .i64 e1.off) (.int .i64 e1.k) (.int .i64 e1.num) (.int .i64 e1.den) (.string e1.name) (.slice A1 e1.ms.length a1) (.slice A2 e1.bys.length a2) (.slice A3 es1.length a3))
   generalize (put11 w5 w.heap.size (.int .i64 e1.kind) (.int .i64 e1.fn) (.int .i64 e1.win) (.int .i64 e1.off) (.int .i64 e1.k) (.int .i64 e1.num) (.int .i64 e1.den) (.string e1.name) (.slice A1 e1.ms.length a1) (.slice A2 e1.bys.length a2) (.slice A3 es1.length a3)) = WF at HB HOn ⊢
   obtain ⟨f0, f1, f2, f3, f4, f5, f6, f7, f8, f9, f10⟩ := blk11 HB.out
   simp only [Nat.zero_add] at f1 f2 f3 f4 f5 f6 f7 f8 f9 f10
   have ef := HB.out.frozen
   refine bodyPost_ret (v := .agg (ndC e1 (.slice A1 e1.ms.length a1) (.slice A2 e1.bys.length a2) (.slice A3 es1.length a3))) (by simp [results, Tryz.results79, go_sem, f0, f1, f2, f3, f4, f5, f6, f7, f8, f9, f10, ef]) rfl ?_
   exact RetX.okk (HR.out.symm.trans HRR.out) (only_new2 H5.out.only HOn.out (Nat.le_refl _)) ((H5.out.ps).only HOn.out hg) ⟨_, _, _, rfl, ((HBL5.out.2).keep (Agree.of_only HOn.out fun b e hb => by omega)).mono' fun b e _ hb => by omega⟩
 ·obtain ⟨t, r, rfl⟩ := kindT_cons hk1
  have HRR : Box (facM en (n + 1) (t :: r) = .ok (numT t.n, r)) := ⟨by unfold facM; rw [hk1]; rfl⟩
  have hfd := tok_f2 (.int .i64 t.kind) (.string (bsL t.text)) (.int .i64 t.n) (.int .i64 (t.off : Int))
  have HTN := Box.mk (HTK.out t (by simp)).n
  go_wp2_with fail
  refine (pkind_any g en 1 _ _ H1.out.ps).mono ?_
  rintro e w1 ⟨rfl, rfl⟩
  rw [hk1]
  go_wp2_with fail
  refine (ptake_any g en t r _ H1.out.ps).mono ?_
  rintro e w2 ⟨rfl, hp, ho⟩
  have H2 := Box.mk (H1.out.step ho hp)
  obtain ⟨z0, z1, z2, z3, z4, z5, z6, z7, z8, z9, z10⟩ := blk11 H2.out.z
  simp only [Nat.zero_add] at z1 z2 z3 z4 z5 z6 z7 z8 z9 z10
  have zf := H2.out.z.frozen
  clear hp ho H1 hz0
  go_wp2_with fail
  have HB : Box (Blk (put11 w2 w.heap.size (.int .i64 0) (.int .i64 0) (.int .i64 0) (.int .i64 0) (.int .i64 0) (.int .i64 t.n) (.int .i64 1) (.string ⟨#[]⟩) nilV nilV nilV) w.heap.size 35 (ndC (numT t.n).d nilV nilV nilV)) := ⟨put11_blk H2.out.z⟩
  have HOn : Box (Only w.heap.size w2 (put11 w2 w.heap.size (.int .i64 0) (.int .i64 0) (.int .i64 0) (.int .i64 0) (.int .i64 0) (.int .i64 t.n) (.int .i64 1) (.string ⟨#[]⟩) nilV nilV nilV)) := ⟨put11_only ..⟩
  show bodyPost _ _ _ _ _ (put11 w2 w.heap.size (.int .i64 0) (.int .i64 0) (.int .i64 0) (.int .i64 0) (.int .i64 0) (.int .i64 t.n) (.int .i64 1) (.string ⟨#[]⟩) nilV nilV nilV)
  generalize (put11 w2 w.heap.size (.int .i64 0) (.int .i64 0) (.int .i64 0) (.int .i64 0) (.int .i64 0) (.int .i64 t.n) (.int .i64 1) (.string ⟨#[]⟩) nilV nilV nilV) = WF at HB HOn ⊢
  obtain ⟨f0, f1, f2, f3, f4, f5, f6, f7, f8, f9, f10⟩ := blk11 HB.out
  simp only [Nat.zero_add] at f1 f2 f3 f4 f5 f6 f7 f8 f9 f10
  have ef := HB.out.frozen
  refine bodyPost_ret (v := .agg (ndC (numT t.n).d nilV nilV nilV)) (by simp [results, Tryz.results79, go_sem, f0, f1, f2, f3, f4, f5, f6, f7, f8, f9, f10, ef]) rfl ?_
  exact RetX.okk (HR.out.symm.trans HRR.out) (only_new2 H2.out.only HOn.out (Nat.le_refl _)) (H2.out.ps.only HOn.out hg) ⟨_, _, _, rfl, Nod.tree (d := (numT t.n).d) (ks := []) ⟨numOk _ HTN.out, SeqP.nil _ _ _, SeqP.nil _ _ _, [], rfl, SeqP.nil _ _ _, fun i t c h1 h2 => by simp at h1⟩⟩
theorem pfactor_any (g : Nat) (en : Int) (n : Nat) : ∀ us w, us.length < n → PS w g en us → WordsP w g → Calls Tryz.prog 79 #[.pointer (some ⟨g, 0, none⟩)] w (RetX g en w (facM en n us) (VTree w.heap.size)) := by
 induction n with
 | zero => intro us w h; omega
 | succ n ih => intro us w h h1 h2; exact pfactor_step n g en ih us w h h1 h2
theorem pexpression_any (g : Nat) (en : Int) (n : Nat) (ts : List Tok) (w : World) (hl : ts.length < n) (h : PS w g en ts) (hw : WordsP w g) : Calls Tryz.prog 40 #[.pointer (some ⟨g, 0, none⟩)] w (RetX g en w (exprOf (facM en n) ts) (VTree w.heap.size)) :=
 pexpr_any g en (facM en n) (facM_len en n) ts w h hw fun us W h1 h2 h3 => pfactor_any g en n us W (by omega) h2 h3
end
end Go.Proofs.YtpgdijbfkahepaaGreatDoor
