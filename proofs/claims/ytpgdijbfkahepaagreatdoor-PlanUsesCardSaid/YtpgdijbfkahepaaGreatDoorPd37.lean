/- Contracts, packed: Kw. -/
import Derived.Test.YtpgdijbfkahepaaGreatDoorPd36
set_option linter.unusedVariables false
set_option linter.unusedSimpArgs false
namespace Go.Proofs.YtpgdijbfkahepaaGreatDoor
section
open Go.RowKit FracM
/-- operation under way: the result's block, the left operand in block lb -/
structure OpS (g : Nat) (en : Int) (w W : World) (us : List Tok) (lb : Nat) (t : Tree) (mv bv kv : Value) : Prop where
 ps : PS W g en us
 only : Only g w W
 z : Blk W w.heap.size 35 zeroC
 hl : w.heap.size < lb
 lk : Blk W lb 35 (ndC t.d mv bv kv)
 tr : TreeAt W (fun b _ => w.heap.size < b ∧ b ≠ lb) t (mv, bv, kv)
 g0 : g < w.heap.size
 wp : WordsP W g
theorem TreeAt.mono' {w : World} {P Q : Nat → Nat → Prop} {t : Tree} {s : Sl} (h : TreeAt w P t s) (hq : ∀ b (e : Nat), b < w.heap.size → P b e → Q b e) : TreeAt w Q t s := h.mono hq
section
variable {g : Nat} {en : Int} {w W W' : World} {ts us : List Tok} {lb : Nat} {t : Tree} {mv bv kv : Value}
theorem OpS.step (h : OpS g en w W ts lb t mv bv kv) (ho : Only g W W') (hp : PS W' g en us) : OpS g en w W' us lb t mv bv kv := by
 have hg := h.g0
 have hl := h.hl
 exact ⟨hp, h.only.trans ho, ho.blk h.z (by omega), h.hl, ho.blk h.lk (by omega), h.tr.keep (Agree.of_only ho fun b e hb => by omega), h.g0, h.wp.only ho h.wp.far⟩
end
abbrev kidC (e1 : Nd) (m1 b1 k1 : Value) (e2 : Nd) (m2 b2 k2 : Value) : Array Value := #[.int .i64 e1.kind, .int .i64 e1.fn, .int .i64 e1.win, .int .i64 e1.off, .int .i64 e1.k, .int .i64 e1.num, .int .i64 e1.den, .string e1.name, m1, b1, k1, .int .i64 e2.kind, .int .i64 e2.fn, .int .i64 e2.win, .int .i64 e2.off, .int .i64 e2.k, .int .i64 e2.num, .int .i64 e2.den, .string e2.name, m2, b2, k2]
theorem binOk (fn : Nat) (hf : fn ≤ 10) (a b : Tree) : NdOk (binT fn a b).d :=
 ⟨⟨(by unfold I64; omega : I64 3), (by unfold I64; omega : I64 (fn : Int)), (by unfold I64; omega : I64 0), (by unfold I64; omega : I64 0), (by unfold I64; omega : I64 0), (by unfold I64; omega : I64 0), (by unfold I64; omega : I64 0)⟩, by show (0 : Nat) ≤ maxLen; omega, fun m hm => by simp [binT, Tree.d] at hm, fun s hs => by simp [binT, Tree.d] at hs⟩
theorem opS_of {g : Nat} {en : Int} {w w2 : World} {us : List Tok} {lb b0 : Nat} {e1 e2 : Nd} {es1 es2 : List Tree} {m1 v1 k1 m2 v2 k2 : Value} {fn : Nat} (hf : fn ≤ 10) (h : OpS g en w w2 us lb (.node e1 es1) m1 v1 k1) (ht : TreeAt w2 (fun b _ => b0 ≤ b) (.node e2 es2) (m2, v2, k2)) (hb : lb < b0) :
  OpS g en w (put11 ((w2.alloc (.cells (ndC e2 m2 v2 k2) 35)).alloc (.cells (kidC e1 m1 v1 k1 e2 m2 v2 k2) 35)) lb (.int .i64 3) (.int .i64 (fn : Int)) (.int .i64 0) (.int .i64 0) (.int .i64 0) (.int .i64 0) (.int .i64 0) (.string ⟨#[]⟩) nilV nilV (.slice (some ⟨(w2.alloc (.cells (ndC e2 m2 v2 k2) 35)).heap.size, 0, none⟩) 2 2)) us lb (binT fn (.node e1 es1) (.node e2 es2)) nilV nilV (.slice (some ⟨(w2.alloc (.cells (ndC e2 m2 v2 k2) 35)).heap.size, 0, none⟩) 2 2) := by
 have hg := h.g0
 have hl := h.hl
 have hlt := h.lk.lt
 have hb2 := bel2 w2 (.cells (ndC e2 m2 v2 k2) 35) (.cells (kidC e1 m1 v1 k1 e2 m2 v2 k2) 35)
 have hkb : Blk ((w2.alloc (.cells (ndC e2 m2 v2 k2) 35)).alloc (.cells (kidC e1 m1 v1 k1 e2 m2 v2 k2) 35)) (w2.alloc (.cells (ndC e2 m2 v2 k2) 35)).heap.size 35 (kidC e1 m1 v1 k1 e2 m2 v2 k2) := Blk.new _ _ _
 have hne : (w2.alloc (.cells (ndC e2 m2 v2 k2) 35)).heap.size = w2.heap.size + 1 := by simp
 generalize (w2.alloc (.cells (ndC e2 m2 v2 k2) 35)).alloc (.cells (kidC e1 m1 v1 k1 e2 m2 v2 k2) 35) = W4 at *
 generalize (w2.alloc (.cells (ndC e2 m2 v2 k2) 35)).heap.size = kb at *
 have hbl : Blk (put11 W4 lb (.int .i64 3) (.int .i64 (fn : Int)) (.int .i64 0) (.int .i64 0) (.int .i64 0) (.int .i64 0) (.int .i64 0) (.string ⟨#[]⟩) nilV nilV (.slice (some ⟨kb, 0, none⟩) 2 2)) lb 35 (ndC (binT fn (.node e1 es1) (.node e2 es2)).d nilV nilV (.slice (some ⟨kb, 0, none⟩) 2 2)) := put11_blk (h.lk.below hb2)
 have ho : Only lb W4 (put11 W4 lb (.int .i64 3) (.int .i64 (fn : Int)) (.int .i64 0) (.int .i64 0) (.int .i64 0) (.int .i64 0) (.int .i64 0) (.string ⟨#[]⟩) nilV nilV (.slice (some ⟨kb, 0, none⟩) 2 2)) := put11_only ..
 generalize put11 W4 lb (.int .i64 3) (.int .i64 (fn : Int)) (.int .i64 0) (.int .i64 0) (.int .i64 0) (.int .i64 0) (.int .i64 0) (.string ⟨#[]⟩) nilV nilV (.slice (some ⟨kb, 0, none⟩) 2 2) = WF at *
 have ag : Agree (fun b _ => w.heap.size < b ∧ b ≠ lb) W4 WF := Agree.of_only ho fun b e hb => hb.2
 refine ⟨(h.ps.below hb2).only ho (by omega), only_new2 (h.only.trans (Only.of_below hb2)) ho (by omega), ho.blk (h.z.below hb2) (by omega), hl, hbl, ?_, hg, (h.wp.below hb2).only ho (h.wp.far.le (by omega))⟩
 refine Nod.tree (d := (binT fn (.node e1 es1) (.node e2 es2)).d) (ks := [.node e1 es1, .node e2 es2]) ⟨binOk fn hf (.node e1 es1) (.node e2 es2), SeqP.nil _ _ _, SeqP.nil _ _ _, [(m1, v1, k1), (m2, v2, k2)], rfl, ?_, ?_⟩
 ·have := SeqP.of_blk (P := fun b _ => w.heap.size < b ∧ b ≠ lb) (n := 2) (size := 11) (ho.blk hkb (by omega)) rfl (by omega) ⟨by omega, by omega⟩
  simpa [ndL, Tree.d] using this
 ·intro i t' c h1 h2
  match i, h1, h2 with
  | 0, h1, h2 =>
   simp at h1 h2
   subst h1 h2
   exact (h.tr.belo hb2).keep ag
  | 1, h1, h2 =>
   simp at h1 h2
   subst h1 h2
   exact ((ht.mono' (Q := fun b _ => w.heap.size < b ∧ b ≠ lb) fun b e _ hb => ⟨by omega, by omega⟩).belo hb2).keep ag
  | j + 2, h1, h2 => simp at h1
theorem opLoop_go {opd : List Tok → Res Tree} {A fn n : Nat} {t : Tree} {us : List Tok} (hf : opFn A us = fn) (h : isT us 3 (opAt fn) = true) : opLoop opd A (n + 1) t us = andR (opd us.tail) fun right ts' => opLoop opd A n (binT fn t right) ts' := by
 rw [opLoop, hf, if_pos h]
set_option maxRecDepth 100000 in
set_option maxHeartbeats 4000000 in
theorem poper2_any (g : Nat) (en : Int) (opd : List Tok → Res Tree) (hop : ∀ us, Sho (opd us) us) (ts : List Tok) (w : World) (h : PS w g en ts) (hw : WordsP w g)
  (hF : ∀ us w, us.length ≤ ts.length → PS w g en us → WordsP w g → Calls Tryz.prog 79 #[.pointer (some ⟨g, 0, none⟩)] w (RetX g en w (opd us) (VTree w.heap.size))) :
  Calls Tryz.prog 59 #[.pointer (some ⟨g, 0, none⟩), .int .i64 2, .func (.func 79) #[.pointer (some ⟨g, 0, none⟩)] #[]] w (RetX g en w (operM opd 2 ts) (VTree w.heap.size)) := by
 obtain ⟨R, HR⟩ : ∃ R, Box (operM opd 2 ts = R) := ⟨_, ⟨rfl⟩⟩
 rw [HR.out]
 have HF := Box.mk hF
 have hg := h.lt
 have H0 : Box (PS (w.alloc (.cells zeroC 35)) g en ts ∧ WordsP (w.alloc (.cells zeroC 35)) g ∧ Blk (w.alloc (.cells zeroC 35)) w.heap.size 35 zeroC ∧ Below w.heap.size w (w.alloc (.cells zeroC 35))) := ⟨h.alloc _, hw.below (bel1 _ _), Blk.new _ _ _, bel1 _ _⟩
 have HM : Box (operM opd 2 ts = andR (opd ts) fun left ts' => opLoop opd 2 (ts'.length + 1) left ts') := ⟨rfl⟩
 clear h hw hF
 go_enter Tryz.func59, Tryz.ntmps59
 go_upto_region 1 with (fail)
 have hz0 : (w.alloc (.cells zeroC 35)).heap.size = w.heap.size + 1 := by simp
 show Code.wp _ _ _ _ (w.alloc (.cells zeroC 35))
 generalize w.alloc (.cells zeroC 35) = W0 at H0 hz0 ⊢
 go_wp2_with fail
 refine (HF.out ts _ (Nat.le_refl _) H0.out.1 H0.out.2.1).mono ?_
 intro e w1 hx
 rcases hx.cases with ⟨f, hs, rfl, ho⟩ | ⟨t, us, hs, hp, hv, ho⟩
 ·have hm : operM opd 2 ts = .error f := by rw [HM.out, hs]; rfl
  go_wp2_with fail
  exact ⟨rfl, RetX.err (HR.out.symm.trans hm) ((Only.of_below H0.out.2.2.2).trans ho)⟩
 obtain ⟨mv, bv, kv, rfl, ht⟩ := hv
 obtain ⟨e1, es1⟩ := t
 obtain ⟨B1, q1, rfl, -⟩ := ht.nod.ms.form
 obtain ⟨B2, q2, rfl, -⟩ := ht.nod.bys.form
 obtain ⟨B3, q3, rfl, -⟩ := ht.nod.kform
 have HM1 : Box (operM opd 2 ts = opLoop opd 2 (us.length + 1) (.node e1 es1) us) := ⟨by rw [HM.out, hs]; rfl⟩
 have hul := hop _ _ _ hs
 have hz1 := ho.size
 have H1 : Box (OpS g en w (w1.alloc (.cells (ndC e1 (.slice B1 e1.ms.length q1) (.slice B2 e1.bys.length q2) (.slice B3 es1.length q3)) 35)) us w1.heap.size (.node e1 es1) (.slice B1 e1.ms.length q1) (.slice B2 e1.bys.length q2) (.slice B3 es1.length q3)) :=
  ⟨⟨hp.alloc _, ((Only.of_below H0.out.2.2.2).trans ho).trans (Only.of_below (bel1 _ _)), (ho.blk H0.out.2.2.1 (by omega)).alloc _, by omega, Blk.new _ _ _, (ht.mono' (Q := fun b _ => w.heap.size < b ∧ b ≠ w1.heap.size) fun b e hb hp => ⟨by omega, by omega⟩).belo (bel1 _ _), hg, (H0.out.2.1.only ho H0.out.2.1.far).below (bel1 _ _)⟩⟩
 clear hs hp ho hx ht H0 HM
 simp only [Tree.d]
 go_wp2_with fail
 go_loopw [] (fun wr => ∃ (t : Tree) (mv bv kv : Value) (us : List Tok) (n : Nat), Box (OpS g en w wr us w1.heap.size t mv bv kv) ∧ us.length + 1 ≤ n ∧ us.length < ts.length ∧ Box (operM opd 2 ts = opLoop opd 2 n t us)) (fun wr => tLen g wr)
 case atStart => exact ⟨_, _, _, _, us, _, H1, Nat.le_refl _, hul, HM1⟩
 case round =>
  clear H1 HM1 hul
  generalize w1.heap.size = lb at *
  obtain ⟨t, mv, bv, kv, us, n, HS, hn, hul, HL⟩ := hrel
  have htl := HS.out.ps.tlen
  obtain ⟨n', rfl⟩ : ∃ n', n = n' + 1 := ⟨n - 1, by omega⟩
  have o0 := HS.out.wp.opr.2 2 (opAt 2) rfl
  have o1 := HS.out.wp.opr.2 3 (opAt 3) rfl
  cases hop0 : isT us 3 (opAt 2)
  ·cases hop1 : isT us 3 (opAt 3)
   ·have HL1 : Box (operM opd 2 ts = .ok (t, us)) := ⟨by rw [HL.out, opLoop, if_neg (by unfold opFn; rw [hop0, if_neg Bool.false_ne_true, hop1]; simp)]⟩
    go_wp2_with fail
    refine (pis_any g en 3 (opAt 2) _ rfl us _ HS.out.ps).mono ?_
    rintro e w1 ⟨rfl, rfl⟩
    rw [hop0]
    go_wp2_with fail
    refine (ptry_any g en (opAt 3) _ rfl us _ HS.out.ps).mono ?_
    rintro e w1 ⟨rfl, hp, ho⟩
    rw [hop1, if_neg Bool.false_ne_true] at hp
    rw [hop1]
    have HS1 := Box.mk (HS.out.step ho hp)
    clear hp ho o0 o1 HS HL
    obtain ⟨e1, es1⟩ := t
    obtain ⟨A1, a1, rfl, -⟩ := HS1.out.tr.nod.ms.form
    obtain ⟨A2, a2, rfl, -⟩ := HS1.out.tr.nod.bys.form
    obtain ⟨A3, a3, rfl, -⟩ := HS1.out.tr.nod.kform
    obtain ⟨c0, c1, c2, c3, c4, c5, c6, c7, c8, c9, c10⟩ := blk11 HS1.out.lk
    obtain ⟨z0, z1, z2, z3, z4, z5, z6, z7, z8, z9, z10⟩ := blk11 HS1.out.z
    simp only [Nat.zero_add, Tree.d] at c0 c1 c2 c3 c4 c5 c6 c7 c8 c9 c10 z1 z2 z3 z4 z5 z6 z7 z8 z9 z10
    have zf := HS1.out.z.frozen
    go_wp2_with fail
    have HB : Box (Blk (put11 w1 w.heap.size (.int .i64 e1.kind) (.int .i64 e1.fn) (.int .i64 e1.win) (.int .i64 e1.off) (.int .i64 e1.k) (.int .i64 e1.num) (.int .i64 e1.den) (.string e1.name) (.slice A1 e1.ms.length a1) (.slice A2 e1.bys.length a2) (.slice A3 es1.length a3)) w.heap.size 35 (ndC e1 (.slice A1 e1.ms.length a1) (.slice A2 e1.bys.length a2) (.slice A3 es1.length a3))) := ⟨put11_blk HS1.out.z⟩
    have HOn : Box (Only w.heap.size w1 (put11 w1 w.heap.size (.int .i64 e1.kind) (.int .i64 e1.fn) (.int .i64 e1.win) (.int .i64 e1.off) (.int .i64 e1.k) (.int .i64 e1.num) (.int .i64 e1.den) (.string e1.name) (.slice A1 e1.ms.length a1) (.slice A2 e1.bys.length a2) (.slice A3 es1.length a3))) := ⟨put11_only ..⟩
    show bodyPost _ _ _ _ _ (put11 w1 w.heap.size (.int .i64 e1.kind) (.int .i64 e1.fn) (.int .i64 e1.win) (.int .i64 e1.off) (.int .i64 e1.k) (.int .i64 e1.num) (.int .i64 e1.den) (.string e1.name) (.slice A1 e1.ms.length a1) (.slice A2 e1.bys.length a2) (.slice A3 es1.length a3))
    generalize (put11 w1 w.heap.size (.int .i64 e1.kind) (.int .i64 e1.fn) (.int .i64 e1.win) (.int .i64 e1.off) (.int .i64 e1.k) (.int .i64 e1.num) (.int .i64 e1.den) (.string e1.name) (.slice A1 e1.ms.length a1) (.slice A2 e1.bys.length a2) (.slice A3 es1.length a3)) = WF at HB HOn ⊢
    clear z0 z1 z2 z3 z4 z5 z6 z7 z8 z9 z10 zf c0 c1 c2 c3 c4 c5 c6 c7 c8 c9 c10
    obtain ⟨f0, f1, f2, f3, f4, f5, f6, f7, f8, f9, f10⟩ := blk11 HB.out
    simp only [Nat.zero_add] at f1 f2 f3 f4 f5 f6 f7 f8 f9 f10
    have ef := HB.out.frozen
    refine bodyPost_ret (v := .agg (ndC e1 (.slice A1 e1.ms.length a1) (.slice A2 e1.bys.length a2) (.slice A3 es1.length a3))) (by simp [results, Tryz.results59, go_sem, f0, f1, f2, f3, f4, f5, f6, f7, f8, f9, f10, ef]) rfl ?_
    exact RetX.okk (HR.out.symm.trans HL1.out) (only_new2 HS1.out.only HOn.out (Nat.le_refl _)) (HS1.out.ps.only HOn.out hg) ⟨_, _, _, rfl, (HS1.out.tr.keep (Agree.of_only HOn.out fun b e hb => by omega)).mono' fun b e _ hb => by omega⟩
   ·go_wp2_with fail
    refine (pis_any g en 3 (opAt 2) _ rfl us _ HS.out.ps).mono ?_
    rintro e w1 ⟨rfl, rfl⟩
    rw [hop0]
    go_wp2_with fail
    refine (ptry_any g en (opAt 3) _ rfl us _ HS.out.ps).mono ?_
    rintro e w1 ⟨rfl, hp, ho⟩
    rw [hop1, if_pos rfl] at hp
    rw [hop1]
    have HS1 := Box.mk (HS.out.step ho hp)
    have hl1 := isT_len hop1
    have HL1 : Box (operM opd 2 ts = andR (opd us.tail) fun right ts' => opLoop opd 2 n' (binT 3 t right) ts') := ⟨by rw [HL.out]; exact opLoop_go (by unfold opFn; rw [hop0, if_neg Bool.false_ne_true]) hop1⟩
    clear hp ho o0 o1
    go_wp2_with fail
    refine (HF.out us.tail _ (by omega) HS1.out.ps HS1.out.wp).mono ?_
    intro e w2 hx
    rcases hx.cases with ⟨f, hs, rfl, ho⟩ | ⟨t2, vs, hs, hp, hv, ho⟩
    ·have hm : operM opd 2 ts = .error f := by rw [HL1.out, hs]; rfl
     go_wp2_with fail
     exact ⟨rfl, RetX.err (HR.out.symm.trans hm) (HS1.out.only.trans ho)⟩
    obtain ⟨mv2, bv2, kv2, rfl, ht2⟩ := hv
    obtain ⟨e2, es2⟩ := t2
    obtain ⟨C1, p1, rfl, -⟩ := ht2.nod.ms.form
    obtain ⟨C2, p2, rfl, -⟩ := ht2.nod.bys.form
    obtain ⟨C3, p3, rfl, -⟩ := ht2.nod.kform
    have HL2 : Box (operM opd 2 ts = opLoop opd 2 n' (binT 3 t (.node e2 es2)) vs) := ⟨by rw [HL1.out, hs]; rfl⟩
    have hl2 := hop _ _ _ hs
    have HT2 := Box.mk ht2
    have HS2 := Box.mk (HS1.out.step ho hp)
    have hz2 := ho.size
    have hz1 := HS1.out.lk.lt
    obtain ⟨e1, es1⟩ := t
    obtain ⟨B1, q1, rfl, -⟩ := HS2.out.tr.nod.ms.form
    obtain ⟨B2, q2, rfl, -⟩ := HS2.out.tr.nod.bys.form
    obtain ⟨B3, q3, rfl, -⟩ := HS2.out.tr.nod.kform
    have hlk := HS2.out.lk.alloc (.cells (ndC e2 (.slice C1 e2.ms.length p1) (.slice C2 e2.bys.length p2) (.slice C3 es2.length p3)) 35)
    have hrk := Blk.new w2 (ndC e2 (.slice C1 e2.ms.length p1) (.slice C2 e2.bys.length p2) (.slice C3 es2.length p3)) 35
    have H3 := Box.mk (opS_of (fn := 3) (by omega) HS2.out HT2.out (by omega))
    clear hs hp ho hx HS1 ht2 HL1 hop1 HT2 HS2
    simp only [Tree.d]
    go_upto_region 8 with (fail)
    generalize w2.alloc (.cells (ndC e2 (.slice C1 e2.ms.length p1) (.slice C2 e2.bys.length p2) (.slice C3 es2.length p3)) 35) = W3 at H3 hlk hrk ⊢
    generalize w2.heap.size = rb at *
    obtain ⟨l0, l1, l2, l3, l4, l5, l6, l7, l8, l9, l10⟩ := blk11 hlk
    obtain ⟨r0, r1, r2, r3, r4, r5, r6, r7, r8, r9, r10⟩ := blk11 hrk
    have hlb := hlk.alloc (.cells (kidC e1 (.slice B1 e1.ms.length q1) (.slice B2 e1.bys.length q2) (.slice B3 es1.length q3) e2 (.slice C1 e2.ms.length p1) (.slice C2 e2.bys.length p2) (.slice C3 es2.length p3)) 35)
    obtain ⟨k0, k1, k2, k3, k4, k5, k6, k7, k8, k9, k10⟩ := blk11 hlb
    simp only [Nat.zero_add, Tree.d] at l0 r0 k0 l1 l2 l3 l4 l5 l6 l7 l8 l9 l10 r1 r2 r3 r4 r5 r6 r7 r8 r9 r10 k1 k2 k3 k4 k5 k6 k7 k8 k9 k10
    have kf := hlb.frozen
    clear hlk hrk hlb
    go_wp2_with fail
    have htl9 := H3.out.ps.tlen
    exact ⟨⟨_, _, _, _, vs, n', H3, by omega, by omega, HL2⟩, Nat.lt_of_le_of_lt (Nat.le_of_eq htl9) (by omega)⟩
  ·have hop1 := hop0
   go_wp2_with fail
   refine (pis_any g en 3 (opAt 2) _ rfl us _ HS.out.ps).mono ?_
   rintro e w1 ⟨rfl, rfl⟩
   rw [hop0]
   go_wp2_with fail
   refine (ptry_any g en (opAt 2) _ rfl us _ HS.out.ps).mono ?_
   rintro e w1 ⟨rfl, hp, ho⟩
   rw [hop1, if_pos rfl] at hp
   rw [hop1]
   have HS1 := Box.mk (HS.out.step ho hp)
   have hl1 := isT_len hop1
   have HL1 : Box (operM opd 2 ts = andR (opd us.tail) fun right ts' => opLoop opd 2 n' (binT 2 t right) ts') := ⟨by rw [HL.out]; exact opLoop_go (by unfold opFn; rw [if_pos hop1]) hop1⟩
   clear hp ho o0 o1
   go_wp2_with fail
   refine (HF.out us.tail _ (by omega) HS1.out.ps HS1.out.wp).mono ?_
   intro e w2 hx
   rcases hx.cases with ⟨f, hs, rfl, ho⟩ | ⟨t2, vs, hs, hp, hv, ho⟩
   ·have hm : operM opd 2 ts = .error f := by rw [HL1.out, hs]; rfl
    go_wp2_with fail
    exact ⟨rfl, RetX.err (HR.out.symm.trans hm) (HS1.out.only.trans ho)⟩
   obtain ⟨mv2, bv2, kv2, rfl, ht2⟩ := hv
   obtain ⟨e2, es2⟩ := t2
   obtain ⟨C1, p1, rfl, -⟩ := ht2.nod.ms.form
   obtain ⟨C2, p2, rfl, -⟩ := ht2.nod.bys.form
   obtain ⟨C3, p3, rfl, -⟩ := ht2.nod.kform
   have HL2 : Box (operM opd 2 ts = opLoop opd 2 n' (binT 2 t (.node e2 es2)) vs) := ⟨by rw [HL1.out, hs]; rfl⟩
   have hl2 := hop _ _ _ hs
   have HT2 := Box.mk ht2
   have HS2 := Box.mk (HS1.out.step ho hp)
   have hz2 := ho.size
   have hz1 := HS1.out.lk.lt
   obtain ⟨e1, es1⟩ := t
   obtain ⟨B1, q1, rfl, -⟩ := HS2.out.tr.nod.ms.form
   obtain ⟨B2, q2, rfl, -⟩ := HS2.out.tr.nod.bys.form
   obtain ⟨B3, q3, rfl, -⟩ := HS2.out.tr.nod.kform
   have hlk := HS2.out.lk.alloc (.cells (ndC e2 (.slice C1 e2.ms.length p1) (.slice C2 e2.bys.length p2) (.slice C3 es2.length p3)) 35)
   have hrk := Blk.new w2 (ndC e2 (.slice C1 e2.ms.length p1) (.slice C2 e2.bys.length p2) (.slice C3 es2.length p3)) 35
   have H3 := Box.mk (opS_of (fn := 2) (by omega) HS2.out HT2.out (by omega))
   clear hs hp ho hx HS1 ht2 HL1 hop1 HT2 HS2
   simp only [Tree.d]
   go_upto_region 8 with (fail)
   generalize w2.alloc (.cells (ndC e2 (.slice C1 e2.ms.length p1) (.slice C2 e2.bys.length p2) (.slice C3 es2.length p3)) 35) = W3 at H3 hlk hrk ⊢
   generalize w2.heap.size = rb at *
   obtain ⟨l0, l1, l2, l3, l4, l5, l6, l7, l8, l9, l10⟩ := blk11 hlk
   obtain ⟨r0, r1, r2, r3, r4, r5, r6, r7, r8, r9, r10⟩ := blk11 hrk
   have hlb := hlk.alloc (.cells (kidC e1 (.slice B1 e1.ms.length q1) (.slice B2 e1.bys.length q2) (.slice B3 es1.length q3) e2 (.slice C1 e2.ms.length p1) (.slice C2 e2.bys.length p2) (.slice C3 es2.length p3)) 35)
   obtain ⟨k0, k1, k2, k3, k4, k5, k6, k7, k8, k9, k10⟩ := blk11 hlb
   simp only [Nat.zero_add, Tree.d] at l0 r0 k0 l1 l2 l3 l4 l5 l6 l7 l8 l9 l10 r1 r2 r3 r4 r5 r6 r7 r8 r9 r10 k1 k2 k3 k4 k5 k6 k7 k8 k9 k10
   have kf := hlb.frozen
   clear hlk hrk hlb
   go_wp2_with fail
   have htl9 := H3.out.ps.tlen
   exact ⟨⟨_, _, _, _, vs, n', H3, by omega, by omega, HL2⟩, Nat.lt_of_le_of_lt (Nat.le_of_eq htl9) (by omega)⟩
set_option maxRecDepth 100000 in
set_option maxHeartbeats 4000000 in
theorem poper0_any (g : Nat) (en : Int) (opd : List Tok → Res Tree) (hop : ∀ us, Sho (opd us) us) (ts : List Tok) (w : World) (h : PS w g en ts) (hw : WordsP w g)
  (hF : ∀ us w, us.length ≤ ts.length → PS w g en us → WordsP w g → Calls Tryz.prog 60 #[.pointer (some ⟨g, 0, none⟩)] w (RetX g en w (opd us) (VTree w.heap.size))) :
  Calls Tryz.prog 59 #[.pointer (some ⟨g, 0, none⟩), .int .i64 0, .func (.func 60) #[.pointer (some ⟨g, 0, none⟩)] #[]] w (RetX g en w (operM opd 0 ts) (VTree w.heap.size)) := by
 obtain ⟨R, HR⟩ : ∃ R, Box (operM opd 0 ts = R) := ⟨_, ⟨rfl⟩⟩
 rw [HR.out]
 have HF := Box.mk hF
 have hg := h.lt
 have H0 : Box (PS (w.alloc (.cells zeroC 35)) g en ts ∧ WordsP (w.alloc (.cells zeroC 35)) g ∧ Blk (w.alloc (.cells zeroC 35)) w.heap.size 35 zeroC ∧ Below w.heap.size w (w.alloc (.cells zeroC 35))) := ⟨h.alloc _, hw.below (bel1 _ _), Blk.new _ _ _, bel1 _ _⟩
 have HM : Box (operM opd 0 ts = andR (opd ts) fun left ts' => opLoop opd 0 (ts'.length + 1) left ts') := ⟨rfl⟩
 clear h hw hF
 go_enter Tryz.func59, Tryz.ntmps59
 go_upto_region 1 with (fail)
 have hz0 : (w.alloc (.cells zeroC 35)).heap.size = w.heap.size + 1 := by simp
 show Code.wp _ _ _ _ (w.alloc (.cells zeroC 35))
 generalize w.alloc (.cells zeroC 35) = W0 at H0 hz0 ⊢
 go_wp2_with fail
 refine (HF.out ts _ (Nat.le_refl _) H0.out.1 H0.out.2.1).mono ?_
 intro e w1 hx
 rcases hx.cases with ⟨f, hs, rfl, ho⟩ | ⟨t, us, hs, hp, hv, ho⟩
 ·have hm : operM opd 0 ts = .error f := by rw [HM.out, hs]; rfl
  go_wp2_with fail
  exact ⟨rfl, RetX.err (HR.out.symm.trans hm) ((Only.of_below H0.out.2.2.2).trans ho)⟩
 obtain ⟨mv, bv, kv, rfl, ht⟩ := hv
 obtain ⟨e1, es1⟩ := t
 obtain ⟨B1, q1, rfl, -⟩ := ht.nod.ms.form
 obtain ⟨B2, q2, rfl, -⟩ := ht.nod.bys.form
 obtain ⟨B3, q3, rfl, -⟩ := ht.nod.kform
 have HM1 : Box (operM opd 0 ts = opLoop opd 0 (us.length + 1) (.node e1 es1) us) := ⟨by rw [HM.out, hs]; rfl⟩
 have hul := hop _ _ _ hs
 have hz1 := ho.size
 have H1 : Box (OpS g en w (w1.alloc (.cells (ndC e1 (.slice B1 e1.ms.length q1) (.slice B2 e1.bys.length q2) (.slice B3 es1.length q3)) 35)) us w1.heap.size (.node e1 es1) (.slice B1 e1.ms.length q1) (.slice B2 e1.bys.length q2) (.slice B3 es1.length q3)) :=
  ⟨⟨hp.alloc _, ((Only.of_below H0.out.2.2.2).trans ho).trans (Only.of_below (bel1 _ _)), (ho.blk H0.out.2.2.1 (by omega)).alloc _, by omega, Blk.new _ _ _, (ht.mono' (Q := fun b _ => w.heap.size < b ∧ b ≠ w1.heap.size) fun b e hb hp => ⟨by omega, by omega⟩).belo (bel1 _ _), hg, (H0.out.2.1.only ho H0.out.2.1.far).below (bel1 _ _)⟩⟩
 clear hs hp ho hx ht H0 HM
 simp only [Tree.d]
 go_wp2_with fail
 go_loopw [] (fun wr => ∃ (t : Tree) (mv bv kv : Value) (us : List Tok) (n : Nat), Box (OpS g en w wr us w1.heap.size t mv bv kv) ∧ us.length + 1 ≤ n ∧ us.length < ts.length ∧ Box (operM opd 0 ts = opLoop opd 0 n t us)) (fun wr => tLen g wr)
 case atStart => exact ⟨_, _, _, _, us, _, H1, Nat.le_refl _, hul, HM1⟩
 case round =>
  clear H1 HM1 hul
  generalize w1.heap.size = lb at *
  obtain ⟨t, mv, bv, kv, us, n, HS, hn, hul, HL⟩ := hrel
  have htl := HS.out.ps.tlen
  obtain ⟨n', rfl⟩ : ∃ n', n = n' + 1 := ⟨n - 1, by omega⟩
  have o0 := HS.out.wp.opr.2 0 (opAt 0) rfl
  have o1 := HS.out.wp.opr.2 1 (opAt 1) rfl
  cases hop0 : isT us 3 (opAt 0)
  ·cases hop1 : isT us 3 (opAt 1)
   ·have HL1 : Box (operM opd 0 ts = .ok (t, us)) := ⟨by rw [HL.out, opLoop, if_neg (by unfold opFn; rw [hop0, if_neg Bool.false_ne_true, hop1]; simp)]⟩
    go_wp2_with fail
    refine (pis_any g en 3 (opAt 0) _ rfl us _ HS.out.ps).mono ?_
    rintro e w1 ⟨rfl, rfl⟩
    rw [hop0]
    go_wp2_with fail
    refine (ptry_any g en (opAt 1) _ rfl us _ HS.out.ps).mono ?_
    rintro e w1 ⟨rfl, hp, ho⟩
    rw [hop1, if_neg Bool.false_ne_true] at hp
    rw [hop1]
    have HS1 := Box.mk (HS.out.step ho hp)
    clear hp ho o0 o1 HS HL
    obtain ⟨e1, es1⟩ := t
    obtain ⟨A1, a1, rfl, -⟩ := HS1.out.tr.nod.ms.form
    obtain ⟨A2, a2, rfl, -⟩ := HS1.out.tr.nod.bys.form
    obtain ⟨A3, a3, rfl, -⟩ := HS1.out.tr.nod.kform
    obtain ⟨c0, c1, c2, c3, c4, c5, c6, c7, c8, c9, c10⟩ := blk11 HS1.out.lk
    obtain ⟨z0, z1, z2, z3, z4, z5, z6, z7, z8, z9, z10⟩ := blk11 HS1.out.z
    simp only [Nat.zero_add, Tree.d] at c0 c1 c2 c3 c4 c5 c6 c7 c8 c9 c10 z1 z2 z3 z4 z5 z6 z7 z8 z9 z10
    have zf := HS1.out.z.frozen
    go_wp2_with fail
    have HB : Box (Blk (put11 w1 w.heap.size (.int .i64 e1.kind) (.int .i64 e1.fn) (.int .i64 e1.win) (.int .i64 e1.off) (.int .i64 e1.k) (.int .i64 e1.num) (.int .i64 e1.den) (.string e1.name) (.slice A1 e1.ms.length a1) (.slice A2 e1.bys.length a2) (.slice A3 es1.length a3)) w.heap.size 35 (ndC e1 (.slice A1 e1.ms.length a1) (.slice A2 e1.bys.length a2) (.slice A3 es1.length a3))) := ⟨put11_blk HS1.out.z⟩
    have HOn : Box (Only w.heap.size w1 (put11 w1 w.heap.size (.int .i64 e1.kind) (.int .i64 e1.fn) (.int .i64 e1.win) (.int .i64 e1.off) (.int .i64 e1.k) (.int .i64 e1.num) (.int .i64 e1.den) (.string e1.name) (.slice A1 e1.ms.length a1) (.slice A2 e1.bys.length a2) (.slice A3 es1.length a3))) := ⟨put11_only ..⟩
    show bodyPost _ _ _ _ _ (put11 w1 w.heap.size (.int .i64 e1.kind) (.int .i64 e1.fn) (.int .i64 e1.win) (.int .i64 e1.off) (.int .i64 e1.k) (.int .i64 e1.num) (.int .i64 e1.den) (.string e1.name) (.slice A1 e1.ms.length a1) (.slice A2 e1.bys.length a2) (.slice A3 es1.length a3))
    generalize (put11 w1 w.heap.size (.int .i64 e1.kind) (.int .i64 e1.fn) (.int .i64 e1.win) (.int .i64 e1.off) (.int .i64 e1.k) (.int .i64 e1.num) (.int .i64 e1.den) (.string e1.name) (.slice A1 e1.ms.length a1) (.slice A2 e1.bys.length a2) (.slice A3 es1.length a3)) = WF at HB HOn ⊢
    clear z0 z1 z2 z3 z4 z5 z6 z7 z8 z9 z10 zf c0 c1 c2 c3 c4 c5 c6 c7 c8 c9 c10
    obtain ⟨f0, f1, f2, f3, f4, f5, f6, f7, f8, f9, f10⟩ := blk11 HB.out
    simp only [Nat.zero_add] at f1 f2 f3 f4 f5 f6 f7 f8 f9 f10
    have ef := HB.out.frozen
    refine bodyPost_ret (v := .agg (ndC e1 (.slice A1 e1.ms.length a1) (.slice A2 e1.bys.length a2) (.slice A3 es1.length a3))) (by simp [results, Tryz.results59, go_sem, f0, f1, f2, f3, f4, f5, f6, f7, f8, f9, f10, ef]) rfl ?_
    exact RetX.okk (HR.out.symm.trans HL1.out) (only_new2 HS1.out.only HOn.out (Nat.le_refl _)) (HS1.out.ps.only HOn.out hg) ⟨_, _, _, rfl, (HS1.out.tr.keep (Agree.of_only HOn.out fun b e hb => by omega)).mono' fun b e _ hb => by omega⟩
   ·go_wp2_with fail
    refine (pis_any g en 3 (opAt 0) _ rfl us _ HS.out.ps).mono ?_
    rintro e w1 ⟨rfl, rfl⟩
    rw [hop0]
    go_wp2_with fail
    refine (ptry_any g en (opAt 1) _ rfl us _ HS.out.ps).mono ?_
    rintro e w1 ⟨rfl, hp, ho⟩
    rw [hop1, if_pos rfl] at hp
    rw [hop1]
    have HS1 := Box.mk (HS.out.step ho hp)
    have hl1 := isT_len hop1
    have HL1 : Box (operM opd 0 ts = andR (opd us.tail) fun right ts' => opLoop opd 0 n' (binT 1 t right) ts') := ⟨by rw [HL.out]; exact opLoop_go (by unfold opFn; rw [hop0, if_neg Bool.false_ne_true]) hop1⟩
    clear hp ho o0 o1
    go_wp2_with fail
    refine (HF.out us.tail _ (by omega) HS1.out.ps HS1.out.wp).mono ?_
    intro e w2 hx
    rcases hx.cases with ⟨f, hs, rfl, ho⟩ | ⟨t2, vs, hs, hp, hv, ho⟩
    ·have hm : operM opd 0 ts = .error f := by rw [HL1.out, hs]; rfl
     go_wp2_with fail
     exact ⟨rfl, RetX.err (HR.out.symm.trans hm) (HS1.out.only.trans ho)⟩
    obtain ⟨mv2, bv2, kv2, rfl, ht2⟩ := hv
    obtain ⟨e2, es2⟩ := t2
    obtain ⟨C1, p1, rfl, -⟩ := ht2.nod.ms.form
    obtain ⟨C2, p2, rfl, -⟩ := ht2.nod.bys.form
    obtain ⟨C3, p3, rfl, -⟩ := ht2.nod.kform
    have HL2 : Box (operM opd 0 ts = opLoop opd 0 n' (binT 1 t (.node e2 es2)) vs) := ⟨by rw [HL1.out, hs]; rfl⟩
    have hl2 := hop _ _ _ hs
    have HT2 := Box.mk ht2
    have HS2 := Box.mk (HS1.out.step ho hp)
    have hz2 := ho.size
    have hz1 := HS1.out.lk.lt
    obtain ⟨e1, es1⟩ := t
    obtain ⟨B1, q1, rfl, -⟩ := HS2.out.tr.nod.ms.form
    obtain ⟨B2, q2, rfl, -⟩ := HS2.out.tr.nod.bys.form
    obtain ⟨B3, q3, rfl, -⟩ := HS2.out.tr.nod.kform
    have hlk := HS2.out.lk.alloc (.cells (ndC e2 (.slice C1 e2.ms.length p1) (.slice C2 e2.bys.length p2) (.slice C3 es2.length p3)) 35)
    have hrk := Blk.new w2 (ndC e2 (.slice C1 e2.ms.length p1) (.slice C2 e2.bys.length p2) (.slice C3 es2.length p3)) 35
    have H3 := Box.mk (opS_of (fn := 1) (by omega) HS2.out HT2.out (by omega))
    clear hs hp ho hx HS1 ht2 HL1 hop1 HT2 HS2
    simp only [Tree.d]
    go_upto_region 8 with (fail)
    generalize w2.alloc (.cells (ndC e2 (.slice C1 e2.ms.length p1) (.slice C2 e2.bys.length p2) (.slice C3 es2.length p3)) 35) = W3 at H3 hlk hrk ⊢
    generalize w2.heap.size = rb at *
    obtain ⟨l0, l1, l2, l3, l4, l5, l6, l7, l8, l9, l10⟩ := blk11 hlk
    obtain ⟨r0, r1, r2, r3, r4, r5, r6, r7, r8, r9, r10⟩ := blk11 hrk
    have hlb := hlk.alloc (.cells (kidC e1 (.slice B1 e1.ms.length q1) (.slice B2 e1.bys.length q2) (.slice B3 es1.length q3) e2 (.slice C1 e2.ms.length p1) (.slice C2 e2.bys.length p2) (.slice C3 es2.length p3)) 35)
    obtain ⟨k0, k1, k2, k3, k4, k5, k6, k7, k8, k9, k10⟩ := blk11 hlb
    simp only [Nat.zero_add, Tree.d] at l0 r0 k0 l1 l2 l3 l4 l5 l6 l7 l8 l9 l10 r1 r2 r3 r4 r5 r6 r7 r8 r9 r10 k1 k2 k3 k4 k5 k6 k7 k8 k9 k10
    have kf := hlb.frozen
    clear hlk hrk hlb
    go_wp2_with fail
    have htl9 := H3.out.ps.tlen
    exact ⟨⟨_, _, _, _, vs, n', H3, by omega, by omega, HL2⟩, Nat.lt_of_le_of_lt (Nat.le_of_eq htl9) (by omega)⟩
  ·have hop1 := hop0
   go_wp2_with fail
   refine (pis_any g en 3 (opAt 0) _ rfl us _ HS.out.ps).mono ?_
   rintro e w1 ⟨rfl, rfl⟩
   rw [hop0]
   go_wp2_with fail
   refine (ptry_any g en (opAt 0) _ rfl us _ HS.out.ps).mono ?_
   rintro e w1 ⟨rfl, hp, ho⟩
   rw [hop1, if_pos rfl] at hp
   rw [hop1]
   have HS1 := Box.mk (HS.out.step ho hp)
   have hl1 := isT_len hop1
   have HL1 : Box (operM opd 0 ts = andR (opd us.tail) fun right ts' => opLoop opd 0 n' (binT 0 t right) ts') := ⟨by rw [HL.out]; exact opLoop_go (by unfold opFn; rw [if_pos hop1]) hop1⟩
   clear hp ho o0 o1
   go_wp2_with fail
   refine (HF.out us.tail _ (by omega) HS1.out.ps HS1.out.wp).mono ?_
   intro e w2 hx
   rcases hx.cases with ⟨f, hs, rfl, ho⟩ | ⟨t2, vs, hs, hp, hv, ho⟩
   ·have hm : operM opd 0 ts = .error f := by rw [HL1.out, hs]; rfl
    go_wp2_with fail
    exact ⟨rfl, RetX.err (HR.out.symm.trans hm) (HS1.out.only.trans ho)⟩
   obtain ⟨mv2, bv2, kv2, rfl, ht2⟩ := hv
   obtain ⟨e2, es2⟩ := t2
   obtain ⟨C1, p1, rfl, -⟩ := ht2.nod.ms.form
   obtain ⟨C2, p2, rfl, -⟩ := ht2.nod.bys.form
   obtain ⟨C3, p3, rfl, -⟩ := ht2.nod.kform
   have HL2 : Box (operM opd 0 ts = opLoop opd 0 n' (binT 0 t (.node e2 es2)) vs) := ⟨by rw [HL1.out, hs]; rfl⟩
   have hl2 := hop _ _ _ hs
   have HT2 := Box.mk ht2
   have HS2 := Box.mk (HS1.out.step ho hp)
   have hz2 := ho.size
   have hz1 := HS1.out.lk.lt
   obtain ⟨e1, es1⟩ := t
   obtain ⟨B1, q1, rfl, -⟩ := HS2.out.tr.nod.ms.form
   obtain ⟨B2, q2, rfl, -⟩ := HS2.out.tr.nod.bys.form
   obtain ⟨B3, q3, rfl, -⟩ := HS2.out.tr.nod.kform
   have hlk := HS2.out.lk.alloc (.cells (ndC e2 (.slice C1 e2.ms.length p1) (.slice C2 e2.bys.length p2) (.slice C3 es2.length p3)) 35)
   have hrk := Blk.new w2 (ndC e2 (.slice C1 e2.ms.length p1) (.slice C2 e2.bys.length p2) (.slice C3 es2.length p3)) 35
   have H3 := Box.mk (opS_of (fn := 0) (by omega) HS2.out HT2.out (by omega))
   clear hs hp ho hx HS1 ht2 HL1 hop1 HT2 HS2
   simp only [Tree.d]
   go_upto_region 8 with (fail)
   generalize w2.alloc (.cells (ndC e2 (.slice C1 e2.ms.length p1) (.slice C2 e2.bys.length p2) (.slice C3 es2.length p3)) 35) = W3 at H3 hlk hrk ⊢
   generalize w2.heap.size = rb at *
   obtain ⟨l0, l1, l2, l3, l4, l5, l6, l7, l8, l9, l10⟩ := blk11 hlk
   obtain ⟨r0, r1, r2, r3, r4, r5, r6, r7, r8, r9, r10⟩ := blk11 hrk
   have hlb := hlk.alloc (.cells (kidC e1 (.slice B1 e1.ms.length q1) (.slice B2 e1.bys.length q2) (.slice B3 es1.length q3) e2 (.slice C1 e2.ms.length p1) (.slice C2 e2.bys.length p2) (.slice C3 es2.length p3)) 35)
   obtain ⟨k0, k1, k2, k3, k4, k5, k6, k7, k8, k9, k10⟩ := blk11 hlb
   simp only [Nat.zero_add, Tree.d] at l0 r0 k0 l1 l2 l3 l4 l5 l6 l7 l8 l9 l10 r1 r2 r3 r4 r5 r6 r7 r8 r9 r10 k1 k2 k3 k4 k5 k6 k7 k8 k9 k10
   have kf := hlb.frozen
   clear hlk hrk hlb
   go_wp2_with fail
   have htl9 := H3.out.ps.tlen
   exact ⟨⟨_, _, _, _, vs, n', H3, by omega, by omega, HL2⟩, Nat.lt_of_le_of_lt (Nat.le_of_eq htl9) (by omega)⟩
end
end Go.Proofs.YtpgdijbfkahepaaGreatDoor
