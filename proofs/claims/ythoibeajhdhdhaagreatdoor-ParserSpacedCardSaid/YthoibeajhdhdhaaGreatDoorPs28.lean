/- Contracts, packed: Qy Kr Mt. -/
import Derived.Test.YthoibeajhdhdhaaGreatDoorPs18
import Derived.Test.YthoibeajhdhdhaaGreatDoorPs19
import Derived.Test.YthoibeajhdhdhaaGreatDoorPs26
import Derived.Deep.CutBlock
import Derived.Laws.Concat
set_option linter.unusedVariables false
set_option linter.unusedSimpArgs false
namespace Go.Proofs.YthoibeajhdhdhaaGreatDoor
section
section
open Go.RowKit FracM
/-- a tree is returned -/
def RetT2 (ns : List ByteArray) (most : Int) (w : World) (e : Ending) (w' : World) : Prop :=
 ∃ (t : Tree) (s : Sl), e = .returned (.agg (ndC t.d s.1 s.2.1 s.2.2)) ∧ TreeF w' w.heap.size t s ∧ GoodT ns most t ∧ dep t ≤ 4 ∧ nds t ≤ 15 ∧ Below w.heap.size w w'
theorem gen_ok (g : Nat) (lv nv : Value) (l : List Int) (ns : List ByteArray) (most : Int) (hok : NamesOk ns) (hns : 1 ≤ ns.length) (hns2 : ns.length ≤ 1000) (hm : 1 ≤ most) (hm2 : most ≤ 4096) : ExprOk g lv nv l ns most 4 15 :=
 expr_any g lv nv l ns most 4 7 (fun _ => expr_any g lv nv l ns most 3 3 (fun _ => expr_any g lv nv l ns most 2 1 (fun _ => expr_any g lv nv l ns most 1 0 (fun h => by omega) (by omega) (by omega) hok hns hns2 hm hm2) (by omega) (by omega) hok hns hns2 hm hm2) (by omega) (by omega) hok hns hns2 hm hm2) (by omega) (by omega) hok hns hns2 hm hm2
def IntsP (w : World) (v : Value) (l : List Int) : Prop := SeqP w (fun b _ => b < w.heap.size) 1 v l.length (l.map (Value.int .i64)) ∧ ∀ x ∈ l, I64 x
def StrsL (w : World) (v : Value) (l : List ByteArray) : Prop := SeqP w (fun b _ => b < w.heap.size) 1 v l.length (l.map Value.string)
set_option maxHeartbeats 2000000 in
set_option maxRecDepth 100000 in
theorem make_any (lv nv : Value) (l : List Int) (ns : List ByteArray) (most : Int) (w : World) (h1 : IntsP w lv l) (h2 : StrsL w nv ns) (hok : NamesOk ns) (hns : 1 ≤ ns.length) (hns2 : ns.length ≤ 1000) (hm0 : 1 < most) (hm2 : most ≤ 4096) :
  Calls Tryz.prog 39 #[lv, nv, .int .i64 most] w (RetT2 ns most w) := by
 have hm : 1 ≤ most := by omega
 have hm3 : ¬ most ≤ 1 := by omega
 have hm4 : ¬ most < 1 := by omega
 have HE := gen_ok (w.heap.size + 1) lv nv l ns most hok hns hns2 hm hm2
 unfold ExprOk at HE
 have HE := Box.mk HE
 have HG : Box (GenAt ((w.alloc (.cells zeroC 29)).alloc (.cells #[lv, .int .i64 0, nv, .int .i64 most] 100)) (w.heap.size + 1) 0 lv nv l ns most) := ⟨⟨Blk.newAt _ _ (by simp), (h1.1.mono fun b e hb hp => by show b < w.heap.size + 1; omega).keep (Agree.of_below (bel2 _ _ _)), h1.2, (h2.mono fun b e hb hp => by show b < w.heap.size + 1; omega).keep (Agree.of_below (bel2 _ _ _))⟩⟩
 have HP : Box (Blk ((w.alloc (.cells zeroC 29)).alloc (.cells #[lv, .int .i64 0, nv, .int .i64 most] 100)) w.heap.size 29 zeroC ∧ Below w.heap.size w ((w.alloc (.cells zeroC 29)).alloc (.cells #[lv, .int .i64 0, nv, .int .i64 most] 100))) := ⟨(Blk.new _ _ _).alloc _, bel2 _ _ _⟩
 obtain ⟨A1, c1, rfl, -⟩ := h1.1.form
 obtain ⟨A2, c2, rfl, -⟩ := h2.form
 have hz : ((w.alloc (.cells zeroC 29)).alloc (.cells #[.slice A1 l.length c1, .int .i64 0, .slice A2 ns.length c2, .int .i64 most] 100)).heap.size = w.heap.size + 2 := by simp
 clear h1 h2
 go_enter Tryz.func39, Tryz.ntmps39
 have hmx : max 1 most = most := by omega
 go_wp2_with fail
 generalize ((w.alloc (.cells zeroC 29)).alloc (.cells #[.slice A1 l.length c1, .int .i64 0, .slice A2 ns.length c2, .int .i64 most] 100)) = W at *
 have HZ := Box.mk hz
 clear hz hmx
 (with_reducible refine (HE.out 0 W HG.out (by omega) (by omega)).mono ?_)
 rintro e w2 ⟨t, s, i8, rfl, ht8, hgd8, hd8, hn8, hi8, hi9, hg8, ho8⟩
 obtain ⟨d, ks⟩ := t
 obtain ⟨mv, bv, kv⟩ := s
 obtain ⟨A1, n1, rfl, -⟩ := ht8.form.1
 obtain ⟨A2, n2, rfl, -⟩ := ht8.form.2.1
 obtain ⟨A3, n3, rfl, -⟩ := ht8.form.2.2
 simp only [Tree.d]
 have hR := ho8.blk HP.out.1 (by omega)
 have HR := Box.mk hR
 have HT := Box.mk (ht8.lower (B' := w.heap.size + 1) (by have := HZ.out; omega))
 have HO : Box (Below w.heap.size w w2) := ⟨HP.out.2.trans (ho8.below (by omega) HP.out.2.size)⟩
 have HD := Box.mk (And.intro hgd8 (And.intro hd8 hn8))
 clear ht8 hgd8 hd8 hn8 hi8 hi9 hg8 ho8 HG HP hR
 obtain ⟨z0, z1, z2, z3, z4, z5, z6, z7, z8, z9, z10⟩ := blk11 HR.out
 simp only [Nat.zero_add] at z1 z2 z3 z4 z5 z6 z7 z8 z9 z10
 have zf := HR.out.frozen
 go_wp2_with fail
 have HF : Box (Blk (put11 w2 w.heap.size (.int .i64 d.kind) (.int .i64 d.fn) (.int .i64 d.win) (.int .i64 d.off) (.int .i64 d.k) (.int .i64 d.num) (.int .i64 d.den) (.string d.name) (.slice A1 d.ms.length n1) (.slice A2 d.bys.length n2) (.slice A3 ks.length n3)) w.heap.size 29 (ndC d (.slice A1 d.ms.length n1) (.slice A2 d.bys.length n2) (.slice A3 ks.length n3))) := ⟨put11_blk HR.out⟩
 have HA : Box (Below w.heap.size w (put11 w2 w.heap.size (.int .i64 d.kind) (.int .i64 d.fn) (.int .i64 d.win) (.int .i64 d.off) (.int .i64 d.k) (.int .i64 d.num) (.int .i64 d.den) (.string d.name) (.slice A1 d.ms.length n1) (.slice A2 d.bys.length n2) (.slice A3 ks.length n3)) ∧ TreeF (put11 w2 w.heap.size (.int .i64 d.kind) (.int .i64 d.fn) (.int .i64 d.win) (.int .i64 d.off) (.int .i64 d.k) (.int .i64 d.num) (.int .i64 d.den) (.string d.name) (.slice A1 d.ms.length n1) (.slice A2 d.bys.length n2) (.slice A3 ks.length n3)) (w.heap.size + 1) (.node d ks) (.slice A1 d.ms.length n1, .slice A2 d.bys.length n2, .slice A3 ks.length n3)) := ⟨HO.out.trans (put11_below (Nat.le_refl _) ..), HT.out.far (put11_only ..) (by omega)⟩
 show bodyPost _ _ _ _ _ (put11 w2 w.heap.size (.int .i64 d.kind) (.int .i64 d.fn) (.int .i64 d.win) (.int .i64 d.off) (.int .i64 d.k) (.int .i64 d.num) (.int .i64 d.den) (.string d.name) (.slice A1 d.ms.length n1) (.slice A2 d.bys.length n2) (.slice A3 ks.length n3))
 generalize (put11 w2 w.heap.size (.int .i64 d.kind) (.int .i64 d.fn) (.int .i64 d.win) (.int .i64 d.off) (.int .i64 d.k) (.int .i64 d.num) (.int .i64 d.den) (.string d.name) (.slice A1 d.ms.length n1) (.slice A2 d.bys.length n2) (.slice A3 ks.length n3)) = WF at HF HA ⊢
 clear HR HT HO z0 z1 z2 z3 z4 z5 z6 z7 z8 z9 z10 zf
 obtain ⟨e0, e1, e2, e3, e4, e5, e6, e7, e8, e9, e10⟩ := blk11 HF.out
 simp only [Nat.zero_add] at e1 e2 e3 e4 e5 e6 e7 e8 e9 e10
 have ef := HF.out.frozen
 refine bodyPost_ret (v := .agg (ndC d (.slice A1 d.ms.length n1) (.slice A2 d.bys.length n2) (.slice A3 ks.length n3))) (by simp [results, Tryz.results39, go_sem, e0, e1, e2, e3, e4, e5, e6, e7, e8, e9, e10, ef]) rfl ?_
 obtain ⟨y1, y2, y3⟩ := HD.out
 exact ⟨.node d ks, (.slice A1 d.ms.length n1, .slice A2 d.bys.length n2, .slice A3 ks.length n3), rfl, HA.out.2.lower (by omega), y1, by omega, y3, HA.out.1⟩
end
section
open Go.RowKit FracM
theorem IntsP.belo {w w' : World} {v : Value} {l : List Int} (h : IntsP w v l) (f : Below w.heap.size w w') : IntsP w' v l := ⟨(h.1.mono fun b e hb hp => by have := f.size; omega).keep (Agree.of_below f), h.2⟩
end
end
section
open Go.RowKit FracM
theorem RetX.okk {α : Type} {g : Nat} {en : Int} {w w' : World} {R : Res α} {V : α → Ending → World → Prop} {e : Ending} {a : α} {ts : List Tok} (hR : R = .ok (a, ts)) (ho : Only g w w') (hp : PS w' g en ts) (hv : V a e w') : RetX g en w R V e w' := by
 subst hR; exact ⟨ho, hp, hv⟩
theorem RetX.err {α : Type} {g : Nat} {en : Int} {w w' : World} {R : Res α} {V : α → Ending → World → Prop} {f : Int × Int} (hR : R = .error f) (ho : Only g w w') : RetX g en w R V (failE f) w' := by
 subst hR; exact ⟨ho, rfl⟩
/-- a function of the parser under way: its state, and two variables of its own -/
structure F2 (g : Nat) (en : Int) (w W : World) (ts : List Tok) (b1 : Nat) (t1 : TypeId) (c1 : Array Value) (b2 : Nat) (t2 : TypeId) (c2 : Array Value) : Prop where
 ps : PS W g en ts
 only : Only g w W
 n1 : w.heap.size ≤ b1
 n2 : w.heap.size ≤ b2
 ne : b1 ≠ b2
 k1 : Blk W b1 t1 c1
 k2 : Blk W b2 t2 c2
 g0 : g < w.heap.size
section
variable {g : Nat} {en : Int} {w W W' : World} {ts us : List Tok} {b1 b2 : Nat} {t1 t2 : TypeId} {c1 c2 : Array Value}
theorem F2.step (h : F2 g en w W ts b1 t1 c1 b2 t2 c2) (ho : Only g W W') (hp : PS W' g en us) : F2 g en w W' us b1 t1 c1 b2 t2 c2 :=
 ⟨hp, h.only.trans ho, h.n1, h.n2, h.ne, ho.blk h.k1 (by have := h.n1; have := h.g0; omega), ho.blk h.k2 (by have := h.n2; have := h.g0; omega), h.g0⟩
theorem F2.below (h : F2 g en w W ts b1 t1 c1 b2 t2 c2) (hb : Below W.heap.size W W') : F2 g en w W' ts b1 t1 c1 b2 t2 c2 := h.step (Only.of_below hb) (h.ps.below hb)
theorem F2.drew (h : F2 g en w W ts b1 t1 c1 b2 t2 c2) : F2 g en w W.drew ts b1 t1 c1 b2 t2 c2 := h.below (below_drewN _ 1)
theorem only_new {k : Nat} (ho : Only g w W) (hk : w.heap.size ≤ k) (o : Nat) (u : Value) : Only g w (W.setCell ⟨k, o, none⟩ u) :=
 ⟨ho.os, ho.tape, ho.output, by simpa [World.setCell] using ho.size, fun i hi hn => (Below.heap_setCell W ⟨k, o, none⟩ u i (by simp only; omega)).trans (ho.block i hi hn)⟩
theorem F2.set2 (h : F2 g en w W ts b1 t1 c1 b2 t2 c2) (i : Nat) (u : Value) : F2 g en w (W.setCell ⟨b2, i, none⟩ u) ts b1 t1 c1 b2 t2 (c2.setIfInBounds i u) := by
 have h2 := h.n2
 have hg := h.g0
 have hs := h.only.size
 refine ⟨h.ps.only (h := b2) (Only.setCell i u) (by omega), only_new h.only h2 i u, h.n1, h2, h.ne, h.k1.far (p := ⟨b2, i, none⟩) h.ne u, h.k2.set i u, hg⟩
theorem F2.set1 (h : F2 g en w W ts b1 t1 c1 b2 t2 c2) (i : Nat) (u : Value) : F2 g en w (W.setCell ⟨b1, i, none⟩ u) ts b1 t1 (c1.setIfInBounds i u) b2 t2 c2 := by
 have h2 := h.n1
 have hg := h.g0
 have hs := h.only.size
 exact ⟨h.ps.only (h := b1) (Only.setCell i u) (by omega), only_new h.only h2 i u, h2, h.n2, h.ne, h.k1.set i u, h.k2.far (p := ⟨b1, i, none⟩) h.ne.symm u, hg⟩
end
abbrev VMat (m : Mat) (e : Ending) (_ : World) : Prop := e = .returned (.agg #[.string m.1, .int .i64 m.2.1, .string m.2.2])
theorem mat_word {W : World} {g : Nat} (hw : WordsP W g) (x : List UInt8) : Calls Tryz.prog 131 #[.slice (some ⟨2, 0, none⟩) 3 3, .string (bsL x)] W fun e w' => e = .returned (.int .i64 (idxT matchT x)) ∧ W = w' := pindex_any _ 3 matchT rfl (by omega) x W hw.mat
set_option maxRecDepth 100000 in
set_option maxHeartbeats 4000000 in
theorem pmatcher_any (g : Nat) (en : Int) (before : Nat) (ts : List Tok) (w : World) (h : PS w g en ts) (hw : WordsP w g) (hbf : before ≤ 100) :
  Calls Tryz.prog 155 #[.pointer (some ⟨g, 0, none⟩), .int .i64 (before : Nat)] w (RetX g en w (matchM en before ts) VMat) := by
 obtain ⟨R, HR⟩ : ∃ R, Box (matchM en before ts = R) := ⟨_, ⟨rfl⟩⟩
 rw [HR.out]
 have hg := h.lt
 have HWd := Box.mk hw
 go_enter Tryz.func155, Tryz.ntmps155
 have H1 : Box (PS (w.alloc (.cells #[.string ⟨#[]⟩, .int .i64 0, .string ⟨#[]⟩] 91)) g en ts ∧ Below w.heap.size w (w.alloc (.cells #[.string ⟨#[]⟩, .int .i64 0, .string ⟨#[]⟩] 91)) ∧ Blk (w.alloc (.cells #[.string ⟨#[]⟩, .int .i64 0, .string ⟨#[]⟩] 91)) w.heap.size 91 #[.string ⟨#[]⟩, .int .i64 0, .string ⟨#[]⟩]) := ⟨h.alloc _, bel1 _ _, Blk.new _ _ _⟩
 clear h hw
 go_upto_region 1 with (fail)
 generalize (w.alloc (.cells #[.string ⟨#[]⟩, .int .i64 0, .string ⟨#[]⟩] 91)) = W1 at H1 ⊢
 by_cases ht : kindT ts 0 = true
 ·obtain ⟨t, r, rfl⟩ := kindT_cons ht
  by_cases h8 : 8 ≤ before
  ·have hm : matchM en before (t :: r) = bad en (t :: r) 4 := by unfold matchM; rw [if_pos ht, if_pos h8]
   have h8' : (8 : Int) ≤ (before : Int) := by omega
   go_wp2_with fail
   refine (pkind_any g en 0 _ W1 H1.out.1).mono ?_
   rintro e w1 ⟨rfl, rfl⟩
   rw [ht]
   go_wp2_with fail
   refine (pfail_any g en 4 _ _ H1.out.1).mono ?_
   rintro e w1 ⟨rfl, rfl⟩
   go_wp2_with fail
   exact ⟨rfl, RetX.err (HR.out.symm.trans hm) (Only.of_below H1.out.2.1)⟩
  ·have h8' : ¬ (8 : Int) ≤ (before : Int) := by omega
   have HM : Box (matchM en before (t :: r) = if kindT r 3 ∧ 0 ≤ idxT matchT (headT r).text then (if kindT r.tail 2 then .ok ((bsL t.text, idxT matchT (headT r).text, bsL (headT r.tail).text), r.tail.tail) else bad en r.tail 2) else bad en r 2) := ⟨by unfold matchM; rw [if_pos ht, if_neg h8]; rfl⟩
   have hfd := tok_f1 (.int .i64 t.kind) (.string (bsL t.text)) (.int .i64 t.n) (.int .i64 (t.off : Int))
   go_wp2_with fail
   refine (pkind_any g en 0 _ W1 H1.out.1).mono ?_
   rintro e w1 ⟨rfl, rfl⟩
   rw [ht]
   go_wp2_with fail
   refine (ptake_any g en t r _ H1.out.1).mono ?_
   rintro e W2 ⟨rfl, hp, ho⟩
   have hz1 := ho.size
   have hz0 := H1.out.2.2.lt
   have H5 : Box (F2 g en w (W2.alloc (.cells #[.string (bsL t.text), .int .i64 0, .string ⟨#[]⟩] 91)) r w.heap.size 91 #[.string ⟨#[]⟩, .int .i64 0, .string ⟨#[]⟩] W2.heap.size 91 #[.string (bsL t.text), .int .i64 0, .string ⟨#[]⟩]) :=
    ⟨⟨hp.alloc _, ((Only.of_below H1.out.2.1).trans ho).trans (Only.of_below (bel1 _ _)), Nat.le_refl _, by omega, by omega, (ho.blk H1.out.2.2 (by omega)).alloc _, Blk.new _ _ _, hg⟩⟩
   clear hp ho H1
   go_upto_region 6 with (fail)
   clear hfd
   generalize W2.heap.size = mb at *
   generalize W2.alloc (.cells #[.string (bsL t.text), .int .i64 0, .string ⟨#[]⟩] 91) = W5 at *
   obtain ⟨m0, m1, m2⟩ := H5.out.k2.c3
   have mf := H5.out.k2.frozen
   by_cases hk : kindT r 3 = true
   ·obtain ⟨t2, r2, rfl⟩ := kindT_cons hk
    obtain ⟨b, off, c, hb, hlt, hne, h1, h2, t0, t1, t2', t3, hr⟩ := H5.out.ps.cons
    obtain ⟨c0, c1⟩ := hb.c2
    have hz : (0 : Int) < ((r2.length + 1 : Nat) : Int) := by omega
    obtain ⟨ix, HX⟩ : ∃ ix, Box (idxT matchT t2.text = ix) := ⟨_, ⟨rfl⟩⟩
    have HWd5 : Box (WordsP W5 g) := ⟨HWd.out.only H5.out.only (Far.le HWd.out.far (Nat.le_refl _))⟩
    have CI : Box (∀ W, WordsP W g → Calls Tryz.prog 131 #[.slice (some ⟨2, 0, none⟩) 3 3, .string (bsL t2.text)] W fun e w' => e = .returned (.int .i64 ix) ∧ W = w') := ⟨fun W h => by have := mat_word h t2.text; rw [HX.out] at this; exact this⟩
    clear hb hr h1 h2 hlt hne
    go_upto_region 7 with (go_at_call 139; refine (pkind_any g en 3 _ _ H5.out.ps).mono ?_; rintro e w1 ⟨rfl, rfl⟩; rw [hk])
    go_region_with (go_at_call 131; refine (CI.out _ (by first | exact HWd5.out | exact HWd5.out.below (below_drewN _ 1))).mono ?_; rintro e w7 ⟨rfl, rfl⟩)
    have H7 := Box.mk (H5.out.set2 1 (.int .i64 ix)).drew
    clear H5 m0 m1 m2 mf c0 c1 t0 t1 t2' t3 CI HWd5
    generalize (W5.setCell ⟨mb, 1, none⟩ (.int .i64 ix)).drew = W7 at H7 ⊢
    obtain ⟨m0, m1, m2⟩ : W7.cell? ⟨mb, 0, none⟩ = some (.string (bsL t.text)) ∧ W7.cell? ⟨mb, 1, none⟩ = some (.int .i64 ix) ∧ W7.cell? ⟨mb, 2, none⟩ = some (.string ⟨#[]⟩) := (by simpa using H7.out.k2 : Blk W7 mb 91 #[.string (bsL t.text), .int .i64 ix, .string ⟨#[]⟩]).c3
    by_cases hix : ix < 0
    ·have hm : matchM en before (t :: t2 :: r2) = bad en (t2 :: r2) 2 := by rw [HM.out, if_neg (by rw [show headT (t2 :: r2) = t2 from rfl, HX.out]; omega)]
     go_wp2_with fail
     refine (pkind_any g en 3 _ _ H7.out.ps).mono ?_
     rintro e w1 ⟨rfl, rfl⟩
     rw [hk]
     go_wp2_with fail
     refine (pfail_any g en 2 _ _ H7.out.ps).mono ?_
     rintro e w1 ⟨rfl, rfl⟩
     go_wp2_with fail
     exact ⟨rfl, RetX.err (HR.out.symm.trans hm) H7.out.only⟩
    ·have HM2 : Box (matchM en before (t :: t2 :: r2) = if kindT r2 2 then .ok ((bsL t.text, ix, bsL (headT r2).text), r2.tail) else bad en r2 2) := ⟨by rw [HM.out, if_pos (by rw [show headT (t2 :: r2) = t2 from rfl, HX.out]; exact ⟨hk, by omega⟩), show headT (t2 :: r2) = t2 from rfl, HX.out]; rfl⟩
     clear HM HX
     go_wp2_with fail
     refine (pkind_any g en 3 _ _ H7.out.ps).mono ?_
     rintro e w1 ⟨rfl, rfl⟩
     rw [hk]
     go_wp2_with fail
     refine (ptake_any g en t2 r2 _ H7.out.ps).mono ?_
     rintro e W8 ⟨rfl, hp, ho⟩
     have H8 := Box.mk (H7.out.step ho hp)
     clear H7 hp ho m0 m1 m2
     by_cases hk3 : kindT r2 2 = true
     ·obtain ⟨t3, r3, rfl⟩ := kindT_cons hk3
      have hm : matchM en before (t :: t2 :: t3 :: r3) = .ok ((bsL t.text, ix, bsL t3.text), r3) := by rw [HM2.out, if_pos hk3]; rfl
      have hfd := tok_f1 (.int .i64 t3.kind) (.string (bsL t3.text)) (.int .i64 t3.n) (.int .i64 (t3.off : Int))
      go_wp2_with fail
      refine (pkind_any g en 2 _ _ H8.out.ps).mono ?_
      rintro e w1 ⟨rfl, rfl⟩
      rw [hk3]
      go_wp2_with fail
      refine (ptake_any g en t3 r3 _ H8.out.ps).mono ?_
      rintro e W9 ⟨rfl, hp, ho⟩
      have H9 := Box.mk (H8.out.step ho hp)
      clear H8 hp ho
      have hb9 : Blk W9 mb 91 #[.string (bsL t.text), .int .i64 ix, .string ⟨#[]⟩] := by simpa using H9.out.k2
      obtain ⟨m0, m1, m2⟩ := hb9.c3
      have mf := hb9.frozen
      have kf := H9.out.k1.frozen
      obtain ⟨z0, z1, z2⟩ := H9.out.k1.c3
      have hne1 : ¬ w.heap.size = mb := H9.out.ne
      have hne2 : ¬ mb = w.heap.size := fun h => H9.out.ne h.symm
      clear hb9
      go_wp2_with fail
      have HF := Box.mk ((((H9.out.set2 2 (.string (bsL t3.text))).set1 0 (.string (bsL t.text))).set1 1 (.int .i64 ix)).set1 2 (.string (bsL t3.text)))
      clear H9 m0 m1 m2 mf kf z0 z1 z2
      generalize ((((W9.setCell ⟨mb, 2, none⟩ (.string (bsL t3.text))).setCell ⟨w.heap.size, 0, none⟩ (.string (bsL t.text))).setCell ⟨w.heap.size, 1, none⟩ (.int .i64 ix)).setCell ⟨w.heap.size, 2, none⟩ (.string (bsL t3.text))) = WF at HF ⊢
      have hbF : Blk WF w.heap.size 91 #[.string (bsL t.text), .int .i64 ix, .string (bsL t3.text)] := by simpa using HF.out.k1
      obtain ⟨z0, z1, z2⟩ := hbF.c3
      have kf := hbF.frozen
      exact bodyPost_ret (v := .agg #[.string (bsL t.text), .int .i64 ix, .string (bsL t3.text)]) (by simp [results, Tryz.results155, go_sem, z0, z1, z2, kf]) rfl (RetX.okk (HR.out.symm.trans hm) HF.out.only HF.out.ps rfl)
     ·have hk4 : kindT r2 2 = false := by simpa using hk3
      have hm : matchM en before (t :: t2 :: r2) = bad en r2 2 := by rw [HM2.out, if_neg hk3]
      go_wp2_with fail
      refine (pkind_any g en 2 _ _ H8.out.ps).mono ?_
      rintro e w1 ⟨rfl, rfl⟩
      rw [hk4]
      go_wp2_with fail
      refine (pfail_any g en 2 _ _ H8.out.ps).mono ?_
      rintro e w1 ⟨rfl, rfl⟩
      go_wp2_with fail
      exact ⟨rfl, RetX.err (HR.out.symm.trans hm) H8.out.only⟩
   ·have hk2 : kindT r 3 = false := by simpa using hk
    have hm : matchM en before (t :: r) = bad en r 2 := by rw [HM.out, if_neg (by rw [hk2]; simp)]
    go_wp2_with fail
    refine (pkind_any g en 3 _ _ H5.out.ps).mono ?_
    rintro e w1 ⟨rfl, rfl⟩
    rw [hk2]
    go_wp2_with fail
    refine (pkind_any g en 3 _ _ H5.out.ps).mono ?_
    rintro e w1 ⟨rfl, rfl⟩
    rw [hk2]
    go_wp2_with fail
    refine (pfail_any g en 2 r _ H5.out.ps).mono ?_
    rintro e w1 ⟨rfl, rfl⟩
    go_wp2_with fail
    exact ⟨rfl, RetX.err (HR.out.symm.trans hm) H5.out.only⟩
 ·have hm : matchM en before ts = bad en ts 2 := by unfold matchM; rw [if_neg ht]
  have ht2 : kindT ts 0 = false := by simpa using ht
  go_wp2_with fail
  refine (pkind_any g en 0 _ W1 H1.out.1).mono ?_
  rintro e w1 ⟨rfl, rfl⟩
  rw [ht2]
  go_wp2_with fail
  refine (pfail_any g en 2 ts _ H1.out.1).mono ?_
  rintro e w1 ⟨rfl, rfl⟩
  go_wp2_with fail
  exact ⟨rfl, RetX.err (HR.out.symm.trans hm) (Only.of_below H1.out.2.1)⟩
end
section
open Go.RowKit FracM
def itoaQ (n : Int) : ByteArray := ⟨(Lib.itoa n).toArray⟩
theorem bszQ (l : List UInt8) : (⟨l.toArray⟩ : ByteArray).size = l.length := by show l.toArray.size = _; simp
/-- the digits of u, none for 0 -/
def preQ (u : Nat) : List UInt8 := if u = 0 then [] else Lib.decDigits u
theorem preQ_step {u : Nat} (h : ¬ u = 0) : preQ u = preQ (u / 10) ++ [UInt8.ofNat (48 + u % 10)] := by
 unfold preQ
 rw [if_neg h]
 by_cases h10 : u < 10
 ·rw [if_pos (by omega), Lib.decDigits, dif_pos h10, Nat.mod_eq_of_lt h10]; rfl
 ·rw [if_neg (by omega)]
  conv => lhs; rw [Lib.decDigits]
  rw [dif_neg h10]
theorem preQ_pos {u : Nat} (h : ¬ u = 0) : preQ u = Lib.decDigits u := if_neg h
def bsQ (l : List UInt8) : ByteArray := ⟨l.toArray⟩
theorem bsQ_size (l : List UInt8) : (bsQ l).size = l.length := bszQ l
theorem bsQ_app (a b : List UInt8) : bsQ a ++ bsQ b = bsQ (a ++ b) := by
 unfold bsQ; apply ByteArray.ext; simp
abbrev tenQ : ByteArray := ⟨#[48, 49, 50, 51, 52, 53, 54, 55, 56, 57]⟩
theorem tenQ_at {d : Nat} (h : d < 10) : tenQ.extract d (d + 1) = bsQ [UInt8.ofNat (48 + d)] := by
 have : d = 0 ∨ d = 1 ∨ d = 2 ∨ d = 3 ∨ d = 4 ∨ d = 5 ∨ d = 6 ∨ d = 7 ∨ d = 8 ∨ d = 9 := by omega
 rcases this with rfl | rfl | rfl | rfl | rfl | rfl | rfl | rfl | rfl | rfl <;> decide
def DecRelQ (n : Int) (u v : Value) : Prop :=
 ∃ (l : List UInt8) (k : Int), u = .string (bsQ l) ∧ v = .int .i64 k ∧ -9223372036854775808 ≤ k ∧ k ≤ 9223372036854775807 ∧ preQ n.natAbs = preQ k.natAbs ++ l
theorem decQ_len (u : Nat) (h : u ≤ 9223372036854775808) : (preQ u).length ≤ 21 := by
 by_cases h0 : u = 0
 ·subst h0; simp [preQ]
 ·rw [preQ_pos h0]
  have h1 := Lib.itoa_length_le (-(u : Int)) (by omega) (by omega)
  rw [Lib.itoa_neg u (by omega)] at h1
  simp at h1; omega
set_option maxHeartbeats 400000 in
theorem decimalQ_any (n : Int) (w : World) (h1 : -9223372036854775808 ≤ n) (h2 : n ≤ 9223372036854775807) : Calls Tryz.prog 19 #[.int .i64 n] w fun e w' => e = .returned (.string (itoaQ n)) ∧ w' = w := by
 by_cases h0 : n = 0
 ·subst h0
  go_enter Tryz.func19, Tryz.ntmps19
  go_wp2
  go_ret
  exact ⟨ret_str (by decide +kernel), rfl⟩
 ·have h0b : (n == 0) = false := by simp [h0]
  have HD : Box (∀ l, preQ n.natAbs = preQ (0 : Int).natAbs ++ l → (if n < 0 then bsQ (45 :: l) else bsQ l) = itoaQ n) := ⟨fun l hl => by
   have e : preQ n.natAbs = Lib.decDigits n.natAbs := preQ_pos (by omega)
   rw [e] at hl
   simp [preQ] at hl
   unfold itoaQ Lib.itoa
   split
   ·rw [← hl]; rfl
   ·rw [show n.toNat = n.natAbs by omega, hl]; rfl⟩
  have HLen := Box.mk (decQ_len n.natAbs (by omega))
  go_enter Tryz.func19, Tryz.ntmps19
  go_wp2
  go_loop [4, 5] (fun u v => DecRelQ n u v) (fun _ v => (intOf v).natAbs)
  case atStart => exact ⟨[], n, rfl, rfl, h1, h2, by simp⟩
  case round =>
   obtain ⟨l, k, rfl, rfl, hk1, hk2, hp⟩ := hrel
   have HP := Box.mk hp; clear hp
   have hl : l.length ≤ 21 := by have := HLen.out; rw [HP.out] at this; simp at this; omega
   by_cases hk0 : k = 0
   ·subst hk0
    have HE := Box.mk (HD.out l HP.out)
    by_cases hn : n < 0
    ·rw [if_pos hn] at HE
     have a1 := fun W => run_string_add_sum (P := Tryz.prog) (w := W) ⟨#[45]⟩ (bsQ l) (by rw [bsQ_size]; show 1 + _ ≤ _; omega)
     go_wp2
     go_ret
     exact ⟨ret_str (by rw [← HE.out]; exact bsQ_app [45] l), rfl⟩
    ·rw [if_neg hn] at HE
     go_wp2
     go_ret
     exact ⟨ret_str HE.out, rfl⟩
   ·have HD2 : Box (preQ n.natAbs = preQ (k.tdiv 10).natAbs ++ (UInt8.ofNat (48 + k.natAbs % 10) :: l)) := ⟨by
     rw [HP.out, preQ_step (by omega), show (k.tdiv 10).natAbs = k.natAbs / 10 by rw [Int.natAbs_tdiv]; rfl]; simp⟩
    have hm : (k.tdiv 10).natAbs < k.natAbs := by rw [Int.natAbs_tdiv]; show k.natAbs / 10 < _; omega
    have hq1 : -9223372036854775808 ≤ k.tdiv 10 := by omega
    have hq2 : k.tdiv 10 ≤ 9223372036854775807 := by omega
    obtain ⟨q, hq⟩ : ∃ q, k.tdiv 10 = q := ⟨_, rfl⟩
    rw [hq] at HD2 hm hq1 hq2
    have hd : k.natAbs % 10 < 10 := by omega
    have hT := tenQ_at hd
    have hsg : k.tmod 10 = if k < 0 then -((k.natAbs % 10 : Nat) : Int) else ((k.natAbs % 10 : Nat) : Int) := by
     split
     ·rename_i h
      rw [show k = -((k.natAbs : Nat) : Int) by omega, Int.neg_tmod]; simp [Int.tmod_eq_emod_of_nonneg]
     ·rename_i h
      rw [Int.tmod_eq_emod_of_nonneg (by omega)]; omega
    generalize k.natAbs % 10 = d at *
    have hd2 : (d : Int) < 10 := by omega
    have hkb : (k == 0) = false := by simp [hk0]
    have hTT := Box.mk hT; have HM := Box.mk hm; have HQ := Box.mk hq
    clear hT hm
    have a1 := fun W => run_string_add_sum (P := Tryz.prog) (w := W) (tenQ.extract d (d + 1)) (bsQ l) (by rw [hTT.out, bsQ_size, bsQ_size]; show 1 + _ ≤ _; omega)
    by_cases hs : k < 0
    ·rw [if_pos hs] at hsg
     by_cases hd0 : d = 0
     ·subst hd0
      have a0 := fun W => run_string_add_sum (P := Tryz.prog) (w := W) (tenQ.extract 0 1) (bsQ l) (by rw [hTT.out, bsQ_size, bsQ_size]; show 1 + _ ≤ _; omega)
      go_wp2
      go_round
      case rel => exact ⟨UInt8.ofNat (48 + 0) :: l, q, by rw [show tenQ.extract 0 1 = _ from hTT.out, bsQ_app]; rfl, rfl, hq1, hq2, HD2.out⟩
      case measure => simpa [intOf] using HM.out
     ·have hd3 : 0 < d := by omega
      go_wp2
      go_round
      case rel => exact ⟨UInt8.ofNat (48 + d) :: l, q, by rw [hTT.out, bsQ_app]; rfl, rfl, hq1, hq2, HD2.out⟩
      case measure => simpa [intOf] using HM.out
    ·rw [if_neg hs] at hsg
     go_wp2
     go_round
     case rel => exact ⟨UInt8.ofNat (48 + d) :: l, q, by rw [hTT.out, bsQ_app]; rfl, rfl, hq1, hq2, HD2.out⟩
     case measure => simpa [intOf] using HM.out
end
end Go.Proofs.YthoibeajhdhdhaaGreatDoor
