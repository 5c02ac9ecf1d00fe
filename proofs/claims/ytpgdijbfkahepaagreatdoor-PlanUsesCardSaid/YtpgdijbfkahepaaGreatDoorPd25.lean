/- Contracts, packed: Kq Kr Ql Qm Ul. -/
import Derived.Test.YtpgdijbfkahepaaGreatDoorPd23
import Derived.Test.YtpgdijbfkahepaaGreatDoorPd24
import Derived.Deep.CutBlock
set_option linter.unusedVariables false
set_option linter.unusedSimpArgs false
namespace Go.Proofs.YtpgdijbfkahepaaGreatDoor
section
open Go.RowKit FracM
abbrev VStr (x : ByteArray) (e : Ending) (_ : World) : Prop := e = .returned (.string x)
def lastLe (l : List ByteArray) (x : ByteArray) : Bool := match l.getLast? with | none => false | some p => leS x p
set_option maxRecDepth 100000 in
set_option maxHeartbeats 2000000 in
theorem pby_any (g : Nat) (en : Int) (ts : List Tok) (w : World) (h : PS w g en ts) (bv : Value) (l : List ByteArray) (P : Nat → Nat → Prop) (hl : SeqP w P 1 bv l.length (l.map Value.string)) :
  Calls Tryz.prog 103 #[.pointer (some ⟨g, 0, none⟩), bv] w (RetX g en w (byM en l ts) VStr) := by
 obtain ⟨A, n, rfl, hn⟩ := hl.form
 by_cases ht : kindT ts 0 = true
 ·obtain ⟨t, r, rfl⟩ := kindT_cons ht
  by_cases h8 : 8 ≤ l.length
  ·have hm : byM en l (t :: r) = bad en (t :: r) 4 := by unfold byM; rw [if_pos ht, if_pos h8]
   have h8' : (8 : Int) ≤ (l.length : Int) := by omega
   rw [hm]
   clear hm
   go_enter Tryz.func103, Tryz.ntmps103
   go_wp2_with fail
   refine (pkind_any g en 0 _ w h).mono ?_
   rintro e w1 ⟨rfl, rfl⟩
   rw [ht]
   go_wp2_with fail
   refine (pfail_any g en 4 _ _ h).mono ?_
   rintro e w1 ⟨rfl, rfl⟩
   go_wp2_with fail
   exact ⟨rfl, Only.of_below (Below.refl _ _), rfl⟩
  ·have h8' : ¬ (8 : Int) ≤ (l.length : Int) := by omega
   obtain ⟨b, off, c, hb, hlt, hne, h1, h2, t0, t1, t2, t3, hr⟩ := h.cons
   obtain ⟨c0, c1⟩ := hb.c2
   have hz : (0 : Int) < ((r.length + 1 : Nat) : Int) := by omega
   have hm : byM en l (t :: r) = if lastLe l (bsL t.text) then bad en (t :: r) 8 else .ok (bsL t.text, r) := by unfold byM lastLe; rw [if_pos ht, if_neg h8]; rfl
   have hfd := tok_f1 (.int .i64 t.kind) (.string (bsL t.text)) (.int .i64 t.n) (.int .i64 (t.off : Int))
   rw [hm]
   clear hm hb hr
   rcases Nat.eq_zero_or_pos l.length with h0 | h0
   ·obtain rfl : l = [] := List.eq_nil_of_length_eq_zero h0
    rw [if_neg (by simp [lastLe])]
    go_enter Tryz.func103, Tryz.ntmps103
    go_upto_region 5 with (go_at_call 90; refine (pkind_any g en 0 _ w h).mono ?_; rintro e w1 ⟨rfl, rfl⟩; rw [ht])
    go_quiet (fail)
    go_wp2_with fail
    refine (ptake_any g en t r _ (h.drewN nq)).mono ?_
    rintro e w1 ⟨rfl, hp, ho⟩
    have HP := Box.mk (And.intro hp ho)
    clear hp ho c0 c1 t0 t1 t2 t3 hz ht h h1 h2 hlt hne
    go_wp2_with fail
    go_ret
    exact ⟨(Only.of_below (below_drewN w nq)).trans HP.out.2, HP.out.1, rfl⟩
   ·obtain ⟨k, hk⟩ : ∃ k, l.length = k + 1 := ⟨l.length - 1, by omega⟩
    obtain ⟨y, hy⟩ : ∃ y, l[k]? = some y := ⟨l[k]'(by omega), List.getElem?_eq_getElem _⟩
    obtain ⟨b', off', rfl, hb', m1⟩ := hl.at1 k (.string y) (by simp [hy])
    have HL : Box (lastLe l (bsL t.text) = leS (bsL t.text) y) := ⟨by unfold lastLe; rw [List.getLast?_eq_getElem?, hk, Nat.add_sub_cancel, hy]⟩
    rw [HL.out]
    rw [hk] at h8' ⊢
    have hj : 0 < ((k + 1 : Nat) : Int) := by omega
    have hj1 : IntKind.i64.wrap (((k + 1 : Nat) : Int) - 1) = (k : Int) := by rw [show ((k + 1 : Nat) : Int) - 1 = (k : Int) by omega]; exact W64_in (by omega) (by omega)
    have hj2 : (k : Int) < ((k + 1 : Nat) : Int) := by omega
    clear hl hy h0 hk h8 HL
    cases hq : leS (bsL t.text) y
    ·have q : (Op.bytesLess (bsL t.text).toList y.toList || (bsL t.text).toList == y.toList) = false := hq
     rw [if_neg Bool.false_ne_true]
     clear hq
     go_enter Tryz.func103, Tryz.ntmps103
     go_upto_region 5 with (go_at_call 90; refine (pkind_any g en 0 _ w h).mono ?_; rintro e w1 ⟨rfl, rfl⟩; rw [ht])
     go_quiet (fail)
     have hps := h.drewN nq
     have hon : Only g w (w.drewN nq) := Only.of_below (below_drewN w nq)
     clear h c0 c1 t0 t1 t2 t3 m1
     generalize w.drewN nq = W at *
     go_wp2_with fail
     refine (ptake_any g en t r _ hps).mono ?_
     rintro e w1 ⟨rfl, hp, ho⟩
     have HP := Box.mk (And.intro hp (hon.trans ho))
     clear hp ho hz ht hps hon h1 h2 hlt hne
     go_wp2_with fail
     go_ret
     exact ⟨HP.out.2, HP.out.1, rfl⟩
    ·have q : (Op.bytesLess (bsL t.text).toList y.toList || (bsL t.text).toList == y.toList) = true := hq
     rw [if_pos rfl]
     clear hq
     go_enter Tryz.func103, Tryz.ntmps103
     go_upto_region 5 with (go_at_call 90; refine (pkind_any g en 0 _ w h).mono ?_; rintro e w1 ⟨rfl, rfl⟩; rw [ht])
     go_quiet (fail)
     have hps := h.drewN nq
     have hon : Only g w (w.drewN nq) := Only.of_below (below_drewN w nq)
     clear h c0 c1 t0 t1 t2 t3 m1
     generalize w.drewN nq = W at *
     go_wp2_with fail
     refine (pfail_any g en 8 _ _ hps).mono ?_
     rintro e w1 ⟨rfl, rfl⟩
     go_wp2_with fail
     exact ⟨rfl, hon, rfl⟩
 ·have hm : byM en l ts = bad en ts 2 := by unfold byM; rw [if_neg ht]
  rw [hm]
  have ht2 : kindT ts 0 = false := by simpa using ht
  clear hm
  go_enter Tryz.func103, Tryz.ntmps103
  go_wp2_with fail
  refine (pkind_any g en 0 _ w h).mono ?_
  rintro e w1 ⟨rfl, rfl⟩
  rw [ht2]
  go_wp2_with fail
  refine (pfail_any g en 2 ts _ h).mono ?_
  rintro e w1 ⟨rfl, rfl⟩
  go_wp2_with fail
  exact ⟨rfl, Only.of_below (Below.refl _ _), rfl⟩
end
section
open Go.RowKit FracM
theorem RetX.okk {α : Type} {g : Nat} {en : Int} {w w' : World} {R : Res α} {V : α → Ending → World → Prop} {e : Ending} {a : α} {ts : List Tok} (hR : R = .ok (a, ts)) (ho : Only g w w') (hp : PS w' g en ts) (hv : V a e w') : RetX g en w R V e w' := by
 subst hR; exact ⟨ho, hp, hv⟩
theorem RetX.err {α : Type} {g : Nat} {en : Int} {w w' : World} {R : Res α} {V : α → Ending → World → Prop} {f : Int × Int} (hR : R = .error f) (ho : Only g w w') : RetX g en w R V (failE f) w' := by
 subst hR; exact ⟨ho, rfl⟩
/-- a function of the parser under way: its state, and two variables of its own -/
structure F2 (g : Nat) (en : Int) (w W : World) (ts : List Tok) (b1 : Nat) (t1 : TypeId) (c1 : Array Value) (b2 : Nat) (t2 : TypeId) (c2 : Array Value) : Prop where
 ps : PS W g en ts
 only : Only g w W
 n1 : w.heap.size ≤ b1
 n2 : w.heap.size ≤ b2
 ne : b1 ≠ b2
 k1 : Blk W b1 t1 c1
 k2 : Blk W b2 t2 c2
 g0 : g < w.heap.size
section
variable {g : Nat} {en : Int} {w W W' : World} {ts us : List Tok} {b1 b2 : Nat} {t1 t2 : TypeId} {c1 c2 : Array Value}
theorem F2.step (h : F2 g en w W ts b1 t1 c1 b2 t2 c2) (ho : Only g W W') (hp : PS W' g en us) : F2 g en w W' us b1 t1 c1 b2 t2 c2 :=
 ⟨hp, h.only.trans ho, h.n1, h.n2, h.ne, ho.blk h.k1 (by have := h.n1; have := h.g0; omega), ho.blk h.k2 (by have := h.n2; have := h.g0; omega), h.g0⟩
theorem F2.below (h : F2 g en w W ts b1 t1 c1 b2 t2 c2) (hb : Below W.heap.size W W') : F2 g en w W' ts b1 t1 c1 b2 t2 c2 := h.step (Only.of_below hb) (h.ps.below hb)
theorem F2.drew (h : F2 g en w W ts b1 t1 c1 b2 t2 c2) : F2 g en w W.drew ts b1 t1 c1 b2 t2 c2 := h.below (below_drewN _ 1)
theorem only_new {k : Nat} (ho : Only g w W) (hk : w.heap.size ≤ k) (o : Nat) (u : Value) : Only g w (W.setCell ⟨k, o, none⟩ u) :=
 ⟨ho.os, ho.tape, ho.output, by simpa [World.setCell] using ho.size, fun i hi hn => (Below.heap_setCell W ⟨k, o, none⟩ u i (by simp only; omega)).trans (ho.block i hi hn)⟩
theorem F2.set2 (h : F2 g en w W ts b1 t1 c1 b2 t2 c2) (i : Nat) (u : Value) : F2 g en w (W.setCell ⟨b2, i, none⟩ u) ts b1 t1 c1 b2 t2 (c2.setIfInBounds i u) := by
 have h2 := h.n2
 have hg := h.g0
 have hs := h.only.size
 refine ⟨h.ps.only (h := b2) (Only.setCell i u) (by omega), only_new h.only h2 i u, h.n1, h2, h.ne, h.k1.far (p := ⟨b2, i, none⟩) h.ne u, h.k2.set i u, hg⟩
theorem F2.set1 (h : F2 g en w W ts b1 t1 c1 b2 t2 c2) (i : Nat) (u : Value) : F2 g en w (W.setCell ⟨b1, i, none⟩ u) ts b1 t1 (c1.setIfInBounds i u) b2 t2 c2 := by
 have h2 := h.n1
 have hg := h.g0
 have hs := h.only.size
 exact ⟨h.ps.only (h := b1) (Only.setCell i u) (by omega), only_new h.only h2 i u, h2, h.n2, h.ne, h.k1.set i u, h.k2.far (p := ⟨b1, i, none⟩) h.ne.symm u, hg⟩
end
abbrev VMat (m : Mat) (e : Ending) (_ : World) : Prop := e = .returned (.agg #[.string m.1, .int .i64 m.2.1, .string m.2.2])
theorem mat_word {W : World} {g : Nat} (hw : WordsP W g) (x : List UInt8) : Calls Tryz.prog 92 #[.slice (some ⟨2, 0, none⟩) 3 3, .string (bsL x)] W fun e w' => e = .returned (.int .i64 (idxT matchT x)) ∧ W = w' := pindex_any _ 3 matchT rfl (by omega) x W hw.mat
set_option maxRecDepth 100000 in
set_option maxHeartbeats 4000000 in
theorem pmatcher_any (g : Nat) (en : Int) (before : Nat) (ts : List Tok) (w : World) (h : PS w g en ts) (hw : WordsP w g) (hbf : before ≤ 100) :
  Calls Tryz.prog 104 #[.pointer (some ⟨g, 0, none⟩), .int .i64 (before : Nat)] w (RetX g en w (matchM en before ts) VMat) := by
 obtain ⟨R, HR⟩ : ∃ R, Box (matchM en before ts = R) := ⟨_, ⟨rfl⟩⟩
 rw [HR.out]
 have hg := h.lt
 have HWd := Box.mk hw
 go_enter Tryz.func104, Tryz.ntmps104
 have H1 : Box (PS (w.alloc (.cells #[.string ⟨#[]⟩, .int .i64 0, .string ⟨#[]⟩] 75)) g en ts ∧ Below w.heap.size w (w.alloc (.cells #[.string ⟨#[]⟩, .int .i64 0, .string ⟨#[]⟩] 75)) ∧ Blk (w.alloc (.cells #[.string ⟨#[]⟩, .int .i64 0, .string ⟨#[]⟩] 75)) w.heap.size 75 #[.string ⟨#[]⟩, .int .i64 0, .string ⟨#[]⟩]) := ⟨h.alloc _, bel1 _ _, Blk.new _ _ _⟩
 clear h hw
 go_upto_region 1 with (fail)
 generalize (w.alloc (.cells #[.string ⟨#[]⟩, .int .i64 0, .string ⟨#[]⟩] 75)) = W1 at H1 ⊢
 by_cases ht : kindT ts 0 = true
 ·obtain ⟨t, r, rfl⟩ := kindT_cons ht
  by_cases h8 : 8 ≤ before
  ·have hm : matchM en before (t :: r) = bad en (t :: r) 4 := by unfold matchM; rw [if_pos ht, if_pos h8]
   have h8' : (8 : Int) ≤ (before : Int) := by omega
   go_wp2_with fail
   refine (pkind_any g en 0 _ W1 H1.out.1).mono ?_
   rintro e w1 ⟨rfl, rfl⟩
   rw [ht]
   go_wp2_with fail
   refine (pfail_any g en 4 _ _ H1.out.1).mono ?_
   rintro e w1 ⟨rfl, rfl⟩
   go_wp2_with fail
   exact ⟨rfl, RetX.err (HR.out.symm.trans hm) (Only.of_below H1.out.2.1)⟩
  ·have h8' : ¬ (8 : Int) ≤ (before : Int) := by omega
   have HM : Box (matchM en before (t :: r) = if kindT r 3 ∧ 0 ≤ idxT matchT (headT r).text then (if kindT r.tail 2 then .ok ((bsL t.text, idxT matchT (headT r).text, bsL (headT r.tail).text), r.tail.tail) else bad en r.tail 2) else bad en r 2) := ⟨by unfold matchM; rw [if_pos ht, if_neg h8]; rfl⟩
   have hfd := tok_f1 (.int .i64 t.kind) (.string (bsL t.text)) (.int .i64 t.n) (.int .i64 (t.off : Int))
   go_wp2_with fail
   refine (pkind_any g en 0 _ W1 H1.out.1).mono ?_
   rintro e w1 ⟨rfl, rfl⟩
   rw [ht]
   go_wp2_with fail
   refine (ptake_any g en t r _ H1.out.1).mono ?_
   rintro e W2 ⟨rfl, hp, ho⟩
   have hz1 := ho.size
   have hz0 := H1.out.2.2.lt
   have H5 : Box (F2 g en w (W2.alloc (.cells #[.string (bsL t.text), .int .i64 0, .string ⟨#[]⟩] 75)) r w.heap.size 75 #[.string ⟨#[]⟩, .int .i64 0, .string ⟨#[]⟩] W2.heap.size 75 #[.string (bsL t.text), .int .i64 0, .string ⟨#[]⟩]) :=
    ⟨⟨hp.alloc _, ((Only.of_below H1.out.2.1).trans ho).trans (Only.of_below (bel1 _ _)), Nat.le_refl _, by omega, by omega, (ho.blk H1.out.2.2 (by omega)).alloc _, Blk.new _ _ _, hg⟩⟩
   clear hp ho H1
   go_upto_region 6 with (fail)
   clear hfd
   generalize W2.heap.size = mb at *
   generalize W2.alloc (.cells #[.string (bsL t.text), .int .i64 0, .string ⟨#[]⟩] 75) = W5 at *
   obtain ⟨m0, m1, m2⟩ := H5.out.k2.c3
   have mf := H5.out.k2.frozen
   by_cases hk : kindT r 3 = true
   ·obtain ⟨t2, r2, rfl⟩ := kindT_cons hk
    obtain ⟨b, off, c, hb, hlt, hne, h1, h2, t0, t1, t2', t3, hr⟩ := H5.out.ps.cons
    obtain ⟨c0, c1⟩ := hb.c2
    have hz : (0 : Int) < ((r2.length + 1 : Nat) : Int) := by omega
    obtain ⟨ix, HX⟩ : ∃ ix, Box (idxT matchT t2.text = ix) := ⟨_, ⟨rfl⟩⟩
    have HWd5 : Box (WordsP W5 g) := ⟨HWd.out.only H5.out.only (Far.le HWd.out.far (Nat.le_refl _))⟩
    have CI : Box (∀ W, WordsP W g → Calls Tryz.prog 92 #[.slice (some ⟨2, 0, none⟩) 3 3, .string (bsL t2.text)] W fun e w' => e = .returned (.int .i64 ix) ∧ W = w') := ⟨fun W h => by have := mat_word h t2.text; rw [HX.out] at this; exact this⟩
    clear hb hr h1 h2 hlt hne
    go_upto_region 7 with (go_at_call 90; refine (pkind_any g en 3 _ _ H5.out.ps).mono ?_; rintro e w1 ⟨rfl, rfl⟩; rw [hk])
    go_region_with (go_at_call 92; refine (CI.out _ (by first | exact HWd5.out | exact HWd5.out.below (below_drewN _ 1))).mono ?_; rintro e w7 ⟨rfl, rfl⟩)
    have H7 := Box.mk (H5.out.set2 1 (.int .i64 ix)).drew
    clear H5 m0 m1 m2 mf c0 c1 t0 t1 t2' t3 CI HWd5
    generalize (W5.setCell ⟨mb, 1, none⟩ (.int .i64 ix)).drew = W7 at H7 ⊢
    obtain ⟨m0, m1, m2⟩ : W7.cell? ⟨mb, 0, none⟩ = some (.string (bsL t.text)) ∧ W7.cell? ⟨mb, 1, none⟩ = some (.int .i64 ix) ∧ W7.cell? ⟨mb, 2, none⟩ = some (.string ⟨#[]⟩) := (by simpa using H7.out.k2 : Blk W7 mb 75 #[.string (bsL t.text), .int .i64 ix, .string ⟨#[]⟩]).c3
    by_cases hix : ix < 0
    ·have hm : matchM en before (t :: t2 :: r2) = bad en (t2 :: r2) 2 := by rw [HM.out, if_neg (by rw [show headT (t2 :: r2) = t2 from rfl, HX.out]; omega)]
     go_wp2_with fail
     refine (pkind_any g en 3 _ _ H7.out.ps).mono ?_
     rintro e w1 ⟨rfl, rfl⟩
     rw [hk]
     go_wp2_with fail
     refine (pfail_any g en 2 _ _ H7.out.ps).mono ?_
     rintro e w1 ⟨rfl, rfl⟩
     go_wp2_with fail
     exact ⟨rfl, RetX.err (HR.out.symm.trans hm) H7.out.only⟩
    ·have HM2 : Box (matchM en before (t :: t2 :: r2) = if kindT r2 2 then .ok ((bsL t.text, ix, bsL (headT r2).text), r2.tail) else bad en r2 2) := ⟨by rw [HM.out, if_pos (by rw [show headT (t2 :: r2) = t2 from rfl, HX.out]; exact ⟨hk, by omega⟩), show headT (t2 :: r2) = t2 from rfl, HX.out]; rfl⟩
     clear HM HX
     go_wp2_with fail
     refine (pkind_any g en 3 _ _ H7.out.ps).mono ?_
     rintro e w1 ⟨rfl, rfl⟩
     rw [hk]
     go_wp2_with fail
     refine (ptake_any g en t2 r2 _ H7.out.ps).mono ?_
     rintro e W8 ⟨rfl, hp, ho⟩
     have H8 := Box.mk (H7.out.step ho hp)
     clear H7 hp ho m0 m1 m2
     by_cases hk3 : kindT r2 2 = true
     ·obtain ⟨t3, r3, rfl⟩ := kindT_cons hk3
      have hm : matchM en before (t :: t2 :: t3 :: r3) = .ok ((bsL t.text, ix, bsL t3.text), r3) := by rw [HM2.out, if_pos hk3]; rfl
      have hfd := tok_f1 (.int .i64 t3.kind) (.string (bsL t3.text)) (.int .i64 t3.n) (.int .i64 (t3.off : Int))
      go_wp2_with fail
      refine (pkind_any g en 2 _ _ H8.out.ps).mono ?_
      rintro e w1 ⟨rfl, rfl⟩
      rw [hk3]
      go_wp2_with fail
      refine (ptake_any g en t3 r3 _ H8.out.ps).mono ?_
      rintro e W9 ⟨rfl, hp, ho⟩
      have H9 := Box.mk (H8.out.step ho hp)
      clear H8 hp ho
      have hb9 : Blk W9 mb 75 #[.string (bsL t.text), .int .i64 ix, .string ⟨#[]⟩] := by simpa using H9.out.k2
      obtain ⟨m0, m1, m2⟩ := hb9.c3
      have mf := hb9.frozen
      have kf := H9.out.k1.frozen
      obtain ⟨z0, z1, z2⟩ := H9.out.k1.c3
      have hne1 : ¬ w.heap.size = mb := H9.out.ne
      have hne2 : ¬ mb = w.heap.size := fun h => H9.out.ne h.symm
      clear hb9
      go_wp2_with fail
      have HF := Box.mk ((((H9.out.set2 2 (.string (bsL t3.text))).set1 0 (.string (bsL t.text))).set1 1 (.int .i64 ix)).set1 2 (.string (bsL t3.text)))
      clear H9 m0 m1 m2 mf kf z0 z1 z2
      generalize ((((W9.setCell ⟨mb, 2, none⟩ (.string (bsL t3.text))).setCell ⟨w.heap.size, 0, none⟩ (.string (bsL t.text))).setCell ⟨w.heap.size, 1, none⟩ (.int .i64 ix)).setCell ⟨w.heap.size, 2, none⟩ (.string (bsL t3.text))) = WF at HF ⊢
      have hbF : Blk WF w.heap.size 75 #[.string (bsL t.text), .int .i64 ix, .string (bsL t3.text)] := by simpa using HF.out.k1
      obtain ⟨z0, z1, z2⟩ := hbF.c3
      have kf := hbF.frozen
      exact bodyPost_ret (v := .agg #[.string (bsL t.text), .int .i64 ix, .string (bsL t3.text)]) (by simp [results, Tryz.results104, go_sem, z0, z1, z2, kf]) rfl (RetX.okk (HR.out.symm.trans hm) HF.out.only HF.out.ps rfl)
     ·have hk4 : kindT r2 2 = false := by simpa using hk3
      have hm : matchM en before (t :: t2 :: r2) = bad en r2 2 := by rw [HM2.out, if_neg hk3]
      go_wp2_with fail
      refine (pkind_any g en 2 _ _ H8.out.ps).mono ?_
      rintro e w1 ⟨rfl, rfl⟩
      rw [hk4]
      go_wp2_with fail
      refine (pfail_any g en 2 _ _ H8.out.ps).mono ?_
      rintro e w1 ⟨rfl, rfl⟩
      go_wp2_with fail
      exact ⟨rfl, RetX.err (HR.out.symm.trans hm) H8.out.only⟩
   ·have hk2 : kindT r 3 = false := by simpa using hk
    have hm : matchM en before (t :: r) = bad en r 2 := by rw [HM.out, if_neg (by rw [hk2]; simp)]
    go_wp2_with fail
    refine (pkind_any g en 3 _ _ H5.out.ps).mono ?_
    rintro e w1 ⟨rfl, rfl⟩
    rw [hk2]
    go_wp2_with fail
    refine (pkind_any g en 3 _ _ H5.out.ps).mono ?_
    rintro e w1 ⟨rfl, rfl⟩
    rw [hk2]
    go_wp2_with fail
    refine (pfail_any g en 2 r _ H5.out.ps).mono ?_
    rintro e w1 ⟨rfl, rfl⟩
    go_wp2_with fail
    exact ⟨rfl, RetX.err (HR.out.symm.trans hm) H5.out.only⟩
 ·have hm : matchM en before ts = bad en ts 2 := by unfold matchM; rw [if_neg ht]
  have ht2 : kindT ts 0 = false := by simpa using ht
  go_wp2_with fail
  refine (pkind_any g en 0 _ W1 H1.out.1).mono ?_
  rintro e w1 ⟨rfl, rfl⟩
  rw [ht2]
  go_wp2_with fail
  refine (pfail_any g en 2 ts _ H1.out.1).mono ?_
  rintro e w1 ⟨rfl, rfl⟩
  go_wp2_with fail
  exact ⟨rfl, RetX.err (HR.out.symm.trans hm) (Only.of_below H1.out.2.1)⟩
end
section
open Go.RowKit FracM
end
section
open Go.RowKit FracM
def DxOk (w : World) (P : Nat → Nat → Prop) (x : Dx) : Prop := SeqP w P 2 x.lv x.dc.2.1.length (x.dc.2.1.flatMap labCells) ∧ x.dc.1.size ≤ maxLen ∧ I64 x.dc.2.2.1 ∧ I64 x.dc.2.2.2.1 ∧ I64 x.dc.2.2.2.2
def DecsAt (w : World) (P : Nat → Nat → Prop) (v : Value) (l : List Dx) : Prop := SeqP w P 12 v l.length (l.flatMap dcL) ∧ ∀ x ∈ l, DxOk w P x
theorem DecsAt.keep {w w' : World} {P : Nat → Nat → Prop} {v : Value} {l : List Dx} (h : DecsAt w P v l) (f : Agree P w w') : DecsAt w' P v l := ⟨h.1.keep f, fun x hx => ⟨(h.2 x hx).1.keep f, (h.2 x hx).2⟩⟩
theorem DecsAt.mono {w : World} {P Q : Nat → Nat → Prop} {v : Value} {l : List Dx} (h : DecsAt w P v l) (hq : ∀ b e, b < w.heap.size → P b e → Q b e) : DecsAt w Q v l := ⟨h.1.mono hq, fun x hx => ⟨(h.2 x hx).1.mono hq, (h.2 x hx).2⟩⟩
abbrev At12 (w : World) (b o : Nat) (x : Dx) : Prop := w.cell? ⟨b, o, none⟩ = some (.string x.dc.1) ∧ w.cell? ⟨b, o + 1, none⟩ = some x.lv ∧ w.cell? ⟨b, o + 2, none⟩ = some (.int .i64 x.dc.2.2.1) ∧ w.cell? ⟨b, o + 3, none⟩ = some (.int .i64 x.dc.2.2.2.1) ∧ w.cell? ⟨b, o + 4, none⟩ = some (.int .i64 x.dc.2.2.2.2) ∧ w.cell? ⟨b, o + 5, none⟩ = some (.int .i64 (x.o 0)) ∧ w.cell? ⟨b, o + 6, none⟩ = some (.int .i64 (x.o 1)) ∧ w.cell? ⟨b, o + 7, none⟩ = some (.int .i64 (x.o 2)) ∧ w.cell? ⟨b, o + 8, none⟩ = some (.int .i64 (x.o 3)) ∧ w.cell? ⟨b, o + 9, none⟩ = some (.int .i64 (x.o 4)) ∧ w.cell? ⟨b, o + 10, none⟩ = some (.int .i64 (x.o 5)) ∧ w.cell? ⟨b, o + 11, none⟩ = some (.int .i64 (x.o 6))
theorem DecsAt.at_ {w : World} {P : Nat → Nat → Prop} {A : Option Addr} {n c : Nat} {l : List Dx} (h : DecsAt w P (.slice A n c) l) (i : Nat) (x : Dx) (hi : l[i]? = some x) :
  ∃ b off, A = some ⟨b, off, none⟩ ∧ b < w.heap.size ∧ (∃ z, P b z) ∧ At12 w b (off + i * 12) x := by
 have hlt : i < l.length := (List.getElem?_eq_some_iff.1 hi).1
 obtain ⟨⟨_, A', c', hv, _, _, h2⟩, _⟩ := h
 cases hv
 obtain ⟨b, off, rfl, hb, hp, hx⟩ := h2 (by omega)
 refine ⟨b, off, rfl, hb, ⟨_, hp⟩, ?_⟩
 have g := fun j (hj : j < 12) => flat_get dcL 12 (fun _ => rfl) l i j _ hi hj
 refine ⟨?_, ?_, ?_, ?_, ?_, ?_, ?_, ?_, ?_, ?_, ?_, ?_⟩
 ·exact hx _ _ ((g 0 (by omega)).trans rfl)
 ·rw [Nat.add_assoc]; exact hx _ _ ((g 1 (by omega)).trans rfl)
 ·rw [Nat.add_assoc]; exact hx _ _ ((g 2 (by omega)).trans rfl)
 ·rw [Nat.add_assoc]; exact hx _ _ ((g 3 (by omega)).trans rfl)
 ·rw [Nat.add_assoc]; exact hx _ _ ((g 4 (by omega)).trans rfl)
 ·rw [Nat.add_assoc]; exact hx _ _ ((g 5 (by omega)).trans rfl)
 ·rw [Nat.add_assoc]; exact hx _ _ ((g 6 (by omega)).trans rfl)
 ·rw [Nat.add_assoc]; exact hx _ _ ((g 7 (by omega)).trans rfl)
 ·rw [Nat.add_assoc]; exact hx _ _ ((g 8 (by omega)).trans rfl)
 ·rw [Nat.add_assoc]; exact hx _ _ ((g 9 (by omega)).trans rfl)
 ·rw [Nat.add_assoc]; exact hx _ _ ((g 10 (by omega)).trans rfl)
 ·rw [Nat.add_assoc]; exact hx _ _ ((g 11 (by omega)).trans rfl)
theorem blk12 {W : World} {g : Nat} {t : TypeId} {x : Dx} (h : Blk W g t (dcC x)) : At12 W g 0 x := by
 unfold Blk at h
 refine ⟨?_, ?_, ?_, ?_, ?_, ?_, ?_, ?_, ?_, ?_, ?_, ?_⟩ <;> simp [World.cell?, h]
end
section
open Go.Shelf Go.RowKit Go.Lib
theorem mats_one (l : List Mat) : ∀ u ∈ l.flatMap matCells, u.oneCell' = true := by
 intro u hu
 obtain ⟨m, -, hm⟩ := List.mem_flatMap.1 hu
 simp only [matCells, List.mem_cons, List.not_mem_nil, or_false] at hm
 rcases hm with rfl | rfl | rfl <;> rfl
theorem strs_one (l : List ByteArray) : ∀ u ∈ l.map Value.string, u.oneCell' = true := by
 intro u hu
 obtain ⟨m, -, rfl⟩ := List.mem_map.1 hu
 rfl
def cloneM_ren : Ren := ⟨fun | 41 => 45 | n => n, fun | 22 => 31 | 23 => 75 | 4 => 4 | n => n, fun | n => n⟩
theorem cloneM_lays : SlLaysE0.n41 Tryz.prog cloneM_ren := {
 mixed := by kernel_rfl
 f41 := ⟨Tryz.f45.name, by decide, Tryz.func45.trans (congrArg some (by kernel_rfl))⟩
 t4 := Tryz.underlying4
 a4 := Tryz.isAgg4
 z4 := Tryz.sizeOf4
 v4 := Tryz.zeroValue4
 t22 := Tryz.underlying31
 a22 := Tryz.isAgg31
 z22 := Tryz.sizeOf31
 v22 := Tryz.zeroValue31 }
def cloneS_ren : Ren := ⟨fun | 41 => 46 | n => n, fun | 22 => 32 | 23 => 9 | 4 => 4 | n => n, fun | n => n⟩
theorem cloneS_lays : SlLaysE0.n41 Tryz.prog cloneS_ren := {
 mixed := by kernel_rfl
 f41 := ⟨Tryz.f46.name, by decide, Tryz.func46.trans (congrArg some (by kernel_rfl))⟩
 t4 := Tryz.underlying4
 a4 := Tryz.isAgg4
 z4 := Tryz.sizeOf4
 v4 := Tryz.zeroValue4
 t22 := Tryz.underlying32
 a22 := Tryz.isAgg32
 z22 := Tryz.sizeOf32
 v22 := Tryz.zeroValue32 }
def cloneE_ren : Ren := ⟨fun | 41 => 54 | n => n, fun | 22 => 33 | 23 => 35 | 4 => 4 | n => n, fun | n => n⟩
theorem cloneE_lays : SlLaysE0.n41 Tryz.prog cloneE_ren := {
 mixed := by kernel_rfl
 f41 := ⟨Tryz.f54.name, by decide, Tryz.func54.trans (congrArg some (by kernel_rfl))⟩
 t4 := Tryz.underlying4
 a4 := Tryz.isAgg4
 z4 := Tryz.sizeOf4
 v4 := Tryz.zeroValue4
 t22 := Tryz.underlying33
 a22 := Tryz.isAgg33
 z22 := Tryz.sizeOf33
 v22 := Tryz.zeroValue33 }
end
end Go.Proofs.YtpgdijbfkahepaaGreatDoor
