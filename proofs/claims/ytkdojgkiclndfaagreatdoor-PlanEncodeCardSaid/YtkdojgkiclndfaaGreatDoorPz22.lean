/- Contracts, packed: Kr. -/
import Derived.Test.YtkdojgkiclndfaaGreatDoorPz21
import Derived.Deep.CutBlock
set_option linter.unusedVariables false
set_option linter.unusedSimpArgs false
namespace Go.Proofs.YtkdojgkiclndfaaGreatDoor
section
open Go.RowKit FracM
theorem RetX.okk {α : Type} {g : Nat} {en : Int} {w w' : World} {R : Res α} {V : α → Ending → World → Prop} {e : Ending} {a : α} {ts : List Tok} (hR : R = .ok (a, ts)) (ho : Only g w w') (hp : PS w' g en ts) (hv : V a e w') : RetX g en w R V e w' := by
 subst hR; exact ⟨ho, hp, hv⟩
theorem RetX.err {α : Type} {g : Nat} {en : Int} {w w' : World} {R : Res α} {V : α → Ending → World → Prop} {f : Int × Int} (hR : R = .error f) (ho : Only g w w') : RetX g en w R V (failE f) w' := by
 subst hR; exact ⟨ho, rfl⟩
/-- a function of the parser under way: its state, and two variables of its own -/
structure F2 (g : Nat) (en : Int) (w W : World) (ts : List Tok) (b1 : Nat) (t1 : TypeId) (c1 : Array Value) (b2 : Nat) (t2 : TypeId) (c2 : Array Value) : Prop where
 ps : PS W g en ts
 only : Only g w W
 n1 : w.heap.size ≤ b1
 n2 : w.heap.size ≤ b2
 ne : b1 ≠ b2
 k1 : Blk W b1 t1 c1
 k2 : Blk W b2 t2 c2
 g0 : g < w.heap.size
section
variable {g : Nat} {en : Int} {w W W' : World} {ts us : List Tok} {b1 b2 : Nat} {t1 t2 : TypeId} {c1 c2 : Array Value}
theorem F2.step (h : F2 g en w W ts b1 t1 c1 b2 t2 c2) (ho : Only g W W') (hp : PS W' g en us) : F2 g en w W' us b1 t1 c1 b2 t2 c2 :=
 ⟨hp, h.only.trans ho, h.n1, h.n2, h.ne, ho.blk h.k1 (by have := h.n1; have := h.g0; omega), ho.blk h.k2 (by have := h.n2; have := h.g0; omega), h.g0⟩
theorem F2.below (h : F2 g en w W ts b1 t1 c1 b2 t2 c2) (hb : Below W.heap.size W W') : F2 g en w W' ts b1 t1 c1 b2 t2 c2 := h.step (Only.of_below hb) (h.ps.below hb)
theorem F2.drew (h : F2 g en w W ts b1 t1 c1 b2 t2 c2) : F2 g en w W.drew ts b1 t1 c1 b2 t2 c2 := h.below (below_drewN _ 1)
theorem only_new {k : Nat} (ho : Only g w W) (hk : w.heap.size ≤ k) (o : Nat) (u : Value) : Only g w (W.setCell ⟨k, o, none⟩ u) :=
 ⟨ho.os, ho.tape, ho.output, by simpa [World.setCell] using ho.size, fun i hi hn => (Below.heap_setCell W ⟨k, o, none⟩ u i (by simp only; omega)).trans (ho.block i hi hn)⟩
theorem F2.set2 (h : F2 g en w W ts b1 t1 c1 b2 t2 c2) (i : Nat) (u : Value) : F2 g en w (W.setCell ⟨b2, i, none⟩ u) ts b1 t1 c1 b2 t2 (c2.setIfInBounds i u) := by
 have h2 := h.n2
 have hg := h.g0
 have hs := h.only.size
 refine ⟨h.ps.only (h := b2) (Only.setCell i u) (by omega), only_new h.only h2 i u, h.n1, h2, h.ne, h.k1.far (p := ⟨b2, i, none⟩) h.ne u, h.k2.set i u, hg⟩
theorem F2.set1 (h : F2 g en w W ts b1 t1 c1 b2 t2 c2) (i : Nat) (u : Value) : F2 g en w (W.setCell ⟨b1, i, none⟩ u) ts b1 t1 (c1.setIfInBounds i u) b2 t2 c2 := by
 have h2 := h.n1
 have hg := h.g0
 have hs := h.only.size
 exact ⟨h.ps.only (h := b1) (Only.setCell i u) (by omega), only_new h.only h2 i u, h2, h.n2, h.ne, h.k1.set i u, h.k2.far (p := ⟨b1, i, none⟩) h.ne.symm u, hg⟩
end
abbrev VMat (m : Mat) (e : Ending) (_ : World) : Prop := e = .returned (.agg #[.string m.1, .int .i64 m.2.1, .string m.2.2])
theorem mat_word {W : World} {g : Nat} (hw : WordsP W g) (x : List UInt8) : Calls Tryz.prog 139 #[.slice (some ⟨1, 0, none⟩) 3 3, .string (bsL x)] W fun e w' => e = .returned (.int .i64 (idxT matchT x)) ∧ W = w' := pindex_any _ 3 matchT rfl (by omega) x W hw.mat
set_option maxRecDepth 100000 in
set_option maxHeartbeats 4000000 in
theorem pmatcher_any (g : Nat) (en : Int) (before : Nat) (ts : List Tok) (w : World) (h : PS w g en ts) (hw : WordsP w g) (hbf : before ≤ 100) :
  Calls Tryz.prog 154 #[.pointer (some ⟨g, 0, none⟩), .int .i64 (before : Nat)] w (RetX g en w (matchM en before ts) VMat) := by
 obtain ⟨R, HR⟩ : ∃ R, Box (matchM en before ts = R) := ⟨_, ⟨rfl⟩⟩
 rw [HR.out]
 have hg := h.lt
 have HWd := Box.mk hw
 go_enter Tryz.func154, Tryz.ntmps154
 have H1 : Box (PS (w.alloc (.cells #[.string ⟨#[]⟩, .int .i64 0, .string ⟨#[]⟩] 86)) g en ts ∧ Below w.heap.size w (w.alloc (.cells #[.string ⟨#[]⟩, .int .i64 0, .string ⟨#[]⟩] 86)) ∧ Blk (w.alloc (.cells #[.string ⟨#[]⟩, .int .i64 0, .string ⟨#[]⟩] 86)) w.heap.size 86 #[.string ⟨#[]⟩, .int .i64 0, .string ⟨#[]⟩]) := ⟨h.alloc _, bel1 _ _, Blk.new _ _ _⟩
 clear h hw
 go_upto_region 1 with (fail)
 generalize (w.alloc (.cells #[.string ⟨#[]⟩, .int .i64 0, .string ⟨#[]⟩] 86)) = W1 at H1 ⊢
 by_cases ht : kindT ts 0 = true
 ·obtain ⟨t, r, rfl⟩ := kindT_cons ht
  by_cases h8 : 8 ≤ before
  ·have hm : matchM en before (t :: r) = bad en (t :: r) 4 := by unfold matchM; rw [if_pos ht, if_pos h8]
   have h8' : (8 : Int) ≤ (before : Int) := by omega
   go_wp2_with fail
   refine (pkind_any g en 0 _ W1 H1.out.1).mono ?_
   rintro e w1 ⟨rfl, rfl⟩
   rw [ht]
   go_wp2_with fail
   refine (pfail_any g en 4 _ _ H1.out.1).mono ?_
   rintro e w1 ⟨rfl, rfl⟩
   go_wp2_with fail
   exact ⟨rfl, RetX.err (HR.out.symm.trans hm) (Only.of_below H1.out.2.1)⟩
  ·have h8' : ¬ (8 : Int) ≤ (before : Int) := by omega
   have HM : Box (matchM en before (t :: r) = if kindT r 3 ∧ 0 ≤ idxT matchT (headT r).text then (if kindT r.tail 2 then .ok ((bsL t.text, idxT matchT (headT r).text, bsL (headT r.tail).text), r.tail.tail) else bad en r.tail 2) else bad en r 2) := ⟨by unfold matchM; rw [if_pos ht, if_neg h8]; rfl⟩
   have hfd := tok_f1 (.int .i64 t.kind) (.string (bsL t.text)) (.int .i64 t.n) (.int .i64 (t.off : Int))
   go_wp2_with fail
   refine (pkind_any g en 0 _ W1 H1.out.1).mono ?_
   rintro e w1 ⟨rfl, rfl⟩
   rw [ht]
   go_wp2_with fail
   refine (ptake_any g en t r _ H1.out.1).mono ?_
   rintro e W2 ⟨rfl, hp, ho⟩
   have hz1 := ho.size
   have hz0 := H1.out.2.2.lt
   have H5 : Box (F2 g en w (W2.alloc (.cells #[.string (bsL t.text), .int .i64 0, .string ⟨#[]⟩] 86)) r w.heap.size 86 #[.string ⟨#[]⟩, .int .i64 0, .string ⟨#[]⟩] W2.heap.size 86 #[.string (bsL t.text), .int .i64 0, .string ⟨#[]⟩]) :=
    ⟨⟨hp.alloc _, ((Only.of_below H1.out.2.1).trans ho).trans (Only.of_below (bel1 _ _)), Nat.le_refl _, by omega, by omega, (ho.blk H1.out.2.2 (by omega)).alloc _, Blk.new _ _ _, hg⟩⟩
   clear hp ho H1
   go_upto_region 6 with (fail)
   clear hfd
   generalize W2.heap.size = mb at *
   generalize W2.alloc (.cells #[.string (bsL t.text), .int .i64 0, .string ⟨#[]⟩] 86) = W5 at *
   obtain ⟨m0, m1, m2⟩ := H5.out.k2.c3
   have mf := H5.out.k2.frozen
   by_cases hk : kindT r 3 = true
   ·obtain ⟨t2, r2, rfl⟩ := kindT_cons hk
    obtain ⟨b, off, c, hb, hlt, hne, h1, h2, t0, t1, t2', t3, hr⟩ := H5.out.ps.cons
    obtain ⟨c0, c1⟩ := hb.c2
    have hz : (0 : Int) < ((r2.length + 1 : Nat) : Int) := by omega
    obtain ⟨ix, HX⟩ : ∃ ix, Box (idxT matchT t2.text = ix) := ⟨_, ⟨rfl⟩⟩
    have HWd5 : Box (WordsP W5 g) := ⟨HWd.out.only H5.out.only (Far.le HWd.out.far (Nat.le_refl _))⟩
    have CI : Box (∀ W, WordsP W g → Calls Tryz.prog 139 #[.slice (some ⟨1, 0, none⟩) 3 3, .string (bsL t2.text)] W fun e w' => e = .returned (.int .i64 ix) ∧ W = w') := ⟨fun W h => by have := mat_word h t2.text; rw [HX.out] at this; exact this⟩
    clear hb hr h1 h2 hlt hne
    go_upto_region 7 with (go_at_call 137; refine (pkind_any g en 3 _ _ H5.out.ps).mono ?_; rintro e w1 ⟨rfl, rfl⟩; rw [hk])
    go_region_with (go_at_call 139; refine (CI.out _ (by first | exact HWd5.out | exact HWd5.out.below (below_drewN _ 1))).mono ?_; rintro e w7 ⟨rfl, rfl⟩)
    have H7 := Box.mk (H5.out.set2 1 (.int .i64 ix)).drew
    clear H5 m0 m1 m2 mf c0 c1 t0 t1 t2' t3 CI HWd5
    generalize (W5.setCell ⟨mb, 1, none⟩ (.int .i64 ix)).drew = W7 at H7 ⊢
    obtain ⟨m0, m1, m2⟩ : W7.cell? ⟨mb, 0, none⟩ = some (.string (bsL t.text)) ∧ W7.cell? ⟨mb, 1, none⟩ = some (.int .i64 ix) ∧ W7.cell? ⟨mb, 2, none⟩ = some (.string ⟨#[]⟩) := (by simpa using H7.out.k2 : Blk W7 mb 86 #[.string (bsL t.text), .int .i64 ix, .string ⟨#[]⟩]).c3
    by_cases hix : ix < 0
    ·have hm : matchM en before (t :: t2 :: r2) = bad en (t2 :: r2) 2 := by rw [HM.out, if_neg (by rw [show headT (t2 :: r2) = t2 from rfl, HX.out]; omega)]
     go_wp2_with fail
     refine (pkind_any g en 3 _ _ H7.out.ps).mono ?_
     rintro e w1 ⟨rfl, rfl⟩
     rw [hk]
     go_wp2_with fail
     refine (pfail_any g en 2 _ _ H7.out.ps).mono ?_
     rintro e w1 ⟨rfl, rfl⟩
     go_wp2_with fail
     exact ⟨rfl, RetX.err (HR.out.symm.trans hm) H7.out.only⟩
    ·have HM2 : Box (matchM en before (t :: t2 :: r2) = if kindT r2 2 then .ok ((bsL t.text, ix, bsL (headT r2).text), r2.tail) else bad en r2 2) := ⟨by rw [HM.out, if_pos (by rw [show headT (t2 :: r2) = t2 from rfl, HX.out]; exact ⟨hk, by omega⟩), show headT (t2 :: r2) = t2 from rfl, HX.out]; rfl⟩
     clear HM HX
     go_wp2_with fail
     refine (pkind_any g en 3 _ _ H7.out.ps).mono ?_
     rintro e w1 ⟨rfl, rfl⟩
     rw [hk]
     go_wp2_with fail
     refine (ptake_any g en t2 r2 _ H7.out.ps).mono ?_
     rintro e W8 ⟨rfl, hp, ho⟩
     have H8 := Box.mk (H7.out.step ho hp)
     clear H7 hp ho m0 m1 m2
     by_cases hk3 : kindT r2 2 = true
     ·obtain ⟨t3, r3, rfl⟩ := kindT_cons hk3
      have hm : matchM en before (t :: t2 :: t3 :: r3) = .ok ((bsL t.text, ix, bsL t3.text), r3) := by rw [HM2.out, if_pos hk3]; rfl
      have hfd := tok_f1 (.int .i64 t3.kind) (.string (bsL t3.text)) (.int .i64 t3.n) (.int .i64 (t3.off : Int))
      go_wp2_with fail
      refine (pkind_any g en 2 _ _ H8.out.ps).mono ?_
      rintro e w1 ⟨rfl, rfl⟩
      rw [hk3]
      go_wp2_with fail
      refine (ptake_any g en t3 r3 _ H8.out.ps).mono ?_
      rintro e W9 ⟨rfl, hp, ho⟩
      have H9 := Box.mk (H8.out.step ho hp)
      clear H8 hp ho
      have hb9 : Blk W9 mb 86 #[.string (bsL t.text), .int .i64 ix, .string ⟨#[]⟩] := by simpa using H9.out.k2
      obtain ⟨m0, m1, m2⟩ := hb9.c3
      have mf := hb9.frozen
      have kf := H9.out.k1.frozen
      obtain ⟨z0, z1, z2⟩ := H9.out.k1.c3
      have hne1 : ¬ w.heap.size = mb := H9.out.ne
      have hne2 : ¬ mb = w.heap.size := fun h => H9.out.ne h.symm
      clear hb9
      go_wp2_with fail
      have HF := Box.mk ((((H9.out.set2 2 (.string (bsL t3.text))).set1 0 (.string (bsL t.text))).set1 1 (.int .i64 ix)).set1 2 (.string (bsL t3.text)))
      clear H9 m0 m1 m2 mf kf z0 z1 z2
      generalize ((((W9.setCell ⟨mb, 2, none⟩ (.string (bsL t3.text))).setCell ⟨w.heap.size, 0, none⟩ (.string (bsL t.text))).setCell ⟨w.heap.size, 1, none⟩ (.int .i64 ix)).setCell ⟨w.heap.size, 2, none⟩ (.string (bsL t3.text))) = WF at HF ⊢
      have hbF : Blk WF w.heap.size 86 #[.string (bsL t.text), .int .i64 ix, .string (bsL t3.text)] := by simpa using HF.out.k1
      obtain ⟨z0, z1, z2⟩ := hbF.c3
      have kf := hbF.frozen
      exact bodyPost_ret (v := .agg #[.string (bsL t.text), .int .i64 ix, .string (bsL t3.text)]) (by simp [results, Tryz.results154, go_sem, z0, z1, z2, kf]) rfl (RetX.okk (HR.out.symm.trans hm) HF.out.only HF.out.ps rfl)
     ·have hk4 : kindT r2 2 = false := by simpa using hk3
      have hm : matchM en before (t :: t2 :: r2) = bad en r2 2 := by rw [HM2.out, if_neg hk3]
      go_wp2_with fail
      refine (pkind_any g en 2 _ _ H8.out.ps).mono ?_
      rintro e w1 ⟨rfl, rfl⟩
      rw [hk4]
      go_wp2_with fail
      refine (pfail_any g en 2 _ _ H8.out.ps).mono ?_
      rintro e w1 ⟨rfl, rfl⟩
      go_wp2_with fail
      exact ⟨rfl, RetX.err (HR.out.symm.trans hm) H8.out.only⟩
   ·have hk2 : kindT r 3 = false := by simpa using hk
    have hm : matchM en before (t :: r) = bad en r 2 := by rw [HM.out, if_neg (by rw [hk2]; simp)]
    go_wp2_with fail
    refine (pkind_any g en 3 _ _ H5.out.ps).mono ?_
    rintro e w1 ⟨rfl, rfl⟩
    rw [hk2]
    go_wp2_with fail
    refine (pkind_any g en 3 _ _ H5.out.ps).mono ?_
    rintro e w1 ⟨rfl, rfl⟩
    rw [hk2]
    go_wp2_with fail
    refine (pfail_any g en 2 r _ H5.out.ps).mono ?_
    rintro e w1 ⟨rfl, rfl⟩
    go_wp2_with fail
    exact ⟨rfl, RetX.err (HR.out.symm.trans hm) H5.out.only⟩
 ·have hm : matchM en before ts = bad en ts 2 := by unfold matchM; rw [if_neg ht]
  have ht2 : kindT ts 0 = false := by simpa using ht
  go_wp2_with fail
  refine (pkind_any g en 0 _ W1 H1.out.1).mono ?_
  rintro e w1 ⟨rfl, rfl⟩
  rw [ht2]
  go_wp2_with fail
  refine (pfail_any g en 2 ts _ H1.out.1).mono ?_
  rintro e w1 ⟨rfl, rfl⟩
  go_wp2_with fail
  exact ⟨rfl, RetX.err (HR.out.symm.trans hm) (Only.of_below H1.out.2.1)⟩
end
end Go.Proofs.YtkdojgkiclndfaaGreatDoor
