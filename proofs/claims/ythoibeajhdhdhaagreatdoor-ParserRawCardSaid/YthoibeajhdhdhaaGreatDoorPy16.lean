/- Contracts, packed: Kp Kq Qr Qk Ql Zb Zc Ra. -/
import Derived.Test.YthoibeajhdhdhaaGreatDoorPy1
import Derived.Test.YthoibeajhdhdhaaGreatDoorPy10
import Derived.Test.YthoibeajhdhdhaaGreatDoorPy11
import Derived.Test.YthoibeajhdhdhaaGreatDoorPy12
import Derived.Test.YthoibeajhdhdhaaGreatDoorPy13
import Derived.Test.YthoibeajhdhdhaaGreatDoorPy15
import Derived.Deep.RegionLaw
import Derived.Laws.Concat
import Derived.Deep.DeepCutAuto
set_option linter.unusedVariables false
set_option linter.unusedSimpArgs false
namespace Go.Proofs.YthoibeajhdhdhaaGreatDoor
section
open Go.RowKit FracM
/-- the words of a variable, in its cells -/
def WordsAt (w : World) (g : Nat) (l : List (List UInt8)) : Prop := g < w.heap.size ∧ ∀ (k : Nat) (x : List UInt8), l[k]? = some x → w.cell? ⟨g, k, none⟩ = some (.string (bsL x))
theorem WordsAt.below {w w' : World} {g : Nat} {l : List (List UInt8)} (h : WordsAt w g l) (hb : Below w.heap.size w w') : WordsAt w' g l := ⟨Nat.lt_of_lt_of_le h.1 hb.size, fun k x hx => (hb.cell h.1).trans (h.2 k x hx)⟩
theorem WordsAt.only {w w' : World} {g q : Nat} {l : List (List UInt8)} (h : WordsAt w g l) (hb : Only q w w') (hq : g ≠ q) : WordsAt w' g l := ⟨Nat.lt_of_lt_of_le h.1 hb.size, fun k x hx => (World.cell?_of_block (a := ⟨g, k, none⟩) (hb.block g h.1 hq)).trans (h.2 k x hx)⟩
/-- a block behind the variables -/
def Far (p : Nat) : Prop := 1 < p ∧ 3 < p ∧ 2 < p ∧ 0 < p
theorem Far.le {p q : Nat} (h : Far p) (k : p ≤ q) : Far q := ⟨Nat.lt_of_lt_of_le h.1 k, Nat.lt_of_lt_of_le h.2.1 k, Nat.lt_of_lt_of_le h.2.2.1 k, Nat.lt_of_lt_of_le h.2.2.2 k⟩
/-- all variables of the parser; q: the block of the parser's state -/
structure WordsP (w : World) (q : Nat) : Prop where
 grp : WordsAt w 1 groupsT
 fn : WordsAt w 3 funcsT
 mat : WordsAt w 2 matchT
 opr : WordsAt w 0 opersT
 far : Far q
theorem WordsP.below {w w' : World} {q : Nat} (h : WordsP w q) (hb : Below w.heap.size w w') : WordsP w' q := ⟨h.grp.below hb, h.fn.below hb, h.mat.below hb, h.opr.below hb, h.far⟩
theorem WordsP.only {w w' : World} {q p : Nat} (h : WordsP w q) (hb : Only p w w') (hp : Far p) : WordsP w' q :=
 ⟨h.grp.only hb (Nat.ne_of_lt hp.1), h.fn.only hb (Nat.ne_of_lt hp.2.1), h.mat.only hb (Nat.ne_of_lt hp.2.2.1), h.opr.only hb (Nat.ne_of_lt hp.2.2.2), h.far⟩
theorem getD_map (l : List (List UInt8)) (k : Nat) : (l.map bsL).getD k ByteArray.empty = bsL (l.getD k []) := by
 rw [List.getD_eq_getElem?_getD, List.getD_eq_getElem?_getD, List.getElem?_map]
 cases l[k]? <;> rfl
theorem idx_eq (l : List (List UInt8)) (x : List UInt8) : Lib.idxOfS (l.map bsL) (bsL x) = idxT l x := by
 have ht : l.map bsL = (l.map bsL).take l.length := by rw [List.take_of_length_le (by simp)]
 rw [ht]
 unfold idxT
 cases h : l.findIdx? (fun y => y == x) with
 | none =>
  rw [List.findIdx?_eq_none_iff] at h
  refine Lib.idxOfS_miss _ _ _ fun j hj e => ?_
  rw [getD_map, bsL_inj] at e
  have := h (l[j]) (List.getElem_mem hj)
  rw [List.getD_eq_getElem?_getD, List.getElem?_eq_getElem hj] at e
  simp at e this
  exact this e
 | some i =>
  rw [List.findIdx?_eq_some_iff_getElem] at h
  obtain ⟨hi, h1, h2⟩ := h
  refine Lib.idxOfS_hit _ _ i _ hi (by simp) ?_ fun j hj e => ?_
  ·rw [getD_map, bsL_inj, List.getD_eq_getElem?_getD, List.getElem?_eq_getElem hi]
   simpa using h1
  ·rw [getD_map, bsL_inj, List.getD_eq_getElem?_getD, List.getElem?_eq_getElem (by omega)] at e
   have := h2 j hj
   simp at e this
   exact this e
theorem pindex_any (g n : Nat) (l : List (List UInt8)) (hn : n = l.length) (hl : n ≤ 100) (x : List UInt8) (w : World) (h : WordsAt w g l) :
  Calls Tryz.prog 131 #[.slice (some ⟨g, 0, none⟩) n n, .string (bsL x)] w fun e w' => e = .returned (.int .i64 (idxT l x)) ∧ w = w' := by
 subst hn
 refine (Tryz.slices_Index_string g 0 l.length l.length (l.map bsL) (bsL x) w (by simp) (by omega) (fun j hj => ?_)).mono ?_
 ·rw [getD_map, Nat.zero_add]
  simp only [List.length_map] at hj
  exact h.2 j _ (by rw [List.getD_eq_getElem?_getD, List.getElem?_eq_getElem hj]; rfl)
 ·rintro e w' ⟨rfl, rfl⟩
  refine ⟨?_, rfl⟩
  rw [List.take_of_length_le (by simp), idx_eq]
end
section
open Go.RowKit FracM
abbrev VStr (x : ByteArray) (e : Ending) (_ : World) : Prop := e = .returned (.string x)
def lastLe (l : List ByteArray) (x : ByteArray) : Bool := match l.getLast? with | none => false | some p => leS x p
set_option maxRecDepth 100000 in
set_option maxHeartbeats 2000000 in
theorem pby_any (g : Nat) (en : Int) (ts : List Tok) (w : World) (h : PS w g en ts) (bv : Value) (l : List ByteArray) (P : Nat → Nat → Prop) (hl : SeqP w P 1 bv l.length (l.map Value.string)) :
  Calls Tryz.prog 154 #[.pointer (some ⟨g, 0, none⟩), bv] w (RetX g en w (byM en l ts) VStr) := by
 obtain ⟨A, n, rfl, hn⟩ := hl.form
 by_cases ht : kindT ts 0 = true
 ·obtain ⟨t, r, rfl⟩ := kindT_cons ht
  by_cases h8 : 8 ≤ l.length
  ·have hm : byM en l (t :: r) = bad en (t :: r) 4 := by unfold byM; rw [if_pos ht, if_pos h8]
   have h8' : (8 : Int) ≤ (l.length : Int) := by omega
   rw [hm]
   clear hm
   go_enter Tryz.func154, Tryz.ntmps154
   go_wp2_with fail
   refine (pkind_any g en 0 _ w h).mono ?_
   rintro e w1 ⟨rfl, rfl⟩
   rw [ht]
   go_wp2_with fail
   refine (pfail_any g en 4 _ _ h).mono ?_
   rintro e w1 ⟨rfl, rfl⟩
   go_wp2_with fail
   exact ⟨rfl, Only.of_below (Below.refl _ _), rfl⟩
  ·have h8' : ¬ (8 : Int) ≤ (l.length : Int) := by omega
   obtain ⟨b, off, c, hb, hlt, hne, h1, h2, t0, t1, t2, t3, hr⟩ := h.cons
   obtain ⟨c0, c1⟩ := hb.c2
   have hz : (0 : Int) < ((r.length + 1 : Nat) : Int) := by omega
   have hm : byM en l (t :: r) = if lastLe l (bsL t.text) then bad en (t :: r) 8 else .ok (bsL t.text, r) := by unfold byM lastLe; rw [if_pos ht, if_neg h8]; rfl
   have hfd := tok_f1 (.int .i64 t.kind) (.string (bsL t.text)) (.int .i64 t.n) (.int .i64 (t.off : Int))
   rw [hm]
   clear hm hb hr
   rcases Nat.eq_zero_or_pos l.length with h0 | h0
   ·obtain rfl : l = [] := List.eq_nil_of_length_eq_zero h0
    rw [if_neg (by simp [lastLe])]
    go_enter Tryz.func154, Tryz.ntmps154
    go_upto_region 5 with (go_at_call 139; refine (pkind_any g en 0 _ w h).mono ?_; rintro e w1 ⟨rfl, rfl⟩; rw [ht])
    go_quiet (fail)
    go_wp2_with fail
    refine (ptake_any g en t r _ (h.drewN nq)).mono ?_
    rintro e w1 ⟨rfl, hp, ho⟩
    have HP := Box.mk (And.intro hp ho)
    clear hp ho c0 c1 t0 t1 t2 t3 hz ht h h1 h2 hlt hne
    go_wp2_with fail
    go_ret
    exact ⟨(Only.of_below (below_drewN w nq)).trans HP.out.2, HP.out.1, rfl⟩
   ·obtain ⟨k, hk⟩ : ∃ k, l.length = k + 1 := ⟨l.length - 1, by omega⟩
    obtain ⟨y, hy⟩ : ∃ y, l[k]? = some y := ⟨l[k]'(by omega), List.getElem?_eq_getElem _⟩
    obtain ⟨b', off', rfl, hb', m1⟩ := hl.at1 k (.string y) (by simp [hy])
    have HL : Box (lastLe l (bsL t.text) = leS (bsL t.text) y) := ⟨by unfold lastLe; rw [List.getLast?_eq_getElem?, hk, Nat.add_sub_cancel, hy]⟩
    rw [HL.out]
    rw [hk] at h8' ⊢
    have hj : 0 < ((k + 1 : Nat) : Int) := by omega
    have hj1 : IntKind.i64.wrap (((k + 1 : Nat) : Int) - 1) = (k : Int) := by rw [show ((k + 1 : Nat) : Int) - 1 = (k : Int) by omega]; exact W64_in (by omega) (by omega)
    have hj2 : (k : Int) < ((k + 1 : Nat) : Int) := by omega
    clear hl hy h0 hk h8 HL
    cases hq : leS (bsL t.text) y
    ·have q : (Op.bytesLess (bsL t.text).toList y.toList || (bsL t.text).toList == y.toList) = false := hq
     rw [if_neg Bool.false_ne_true]
     clear hq
     go_enter Tryz.func154, Tryz.ntmps154
     go_upto_region 5 with (go_at_call 139; refine (pkind_any g en 0 _ w h).mono ?_; rintro e w1 ⟨rfl, rfl⟩; rw [ht])
     go_quiet (fail)
     have hps := h.drewN nq
     have hon : Only g w (w.drewN nq) := Only.of_below (below_drewN w nq)
     clear h c0 c1 t0 t1 t2 t3 m1
     generalize w.drewN nq = W at *
     go_wp2_with fail
     refine (ptake_any g en t r _ hps).mono ?_
     rintro e w1 ⟨rfl, hp, ho⟩
     have HP := Box.mk (And.intro hp (hon.trans ho))
     clear hp ho hz ht hps hon h1 h2 hlt hne
     go_wp2_with fail
     go_ret
     exact ⟨HP.out.2, HP.out.1, rfl⟩
    ·have q : (Op.bytesLess (bsL t.text).toList y.toList || (bsL t.text).toList == y.toList) = true := hq
     rw [if_pos rfl]
     clear hq
     go_enter Tryz.func154, Tryz.ntmps154
     go_upto_region 5 with (go_at_call 139; refine (pkind_any g en 0 _ w h).mono ?_; rintro e w1 ⟨rfl, rfl⟩; rw [ht])
     go_quiet (fail)
     have hps := h.drewN nq
     have hon : Only g w (w.drewN nq) := Only.of_below (below_drewN w nq)
     clear h c0 c1 t0 t1 t2 t3 m1
     generalize w.drewN nq = W at *
     go_wp2_with fail
     refine (pfail_any g en 8 _ _ hps).mono ?_
     rintro e w1 ⟨rfl, rfl⟩
     go_wp2_with fail
     exact ⟨rfl, hon, rfl⟩
 ·have hm : byM en l ts = bad en ts 2 := by unfold byM; rw [if_neg ht]
  rw [hm]
  have ht2 : kindT ts 0 = false := by simpa using ht
  clear hm
  go_enter Tryz.func154, Tryz.ntmps154
  go_wp2_with fail
  refine (pkind_any g en 0 _ w h).mono ?_
  rintro e w1 ⟨rfl, rfl⟩
  rw [ht2]
  go_wp2_with fail
  refine (pfail_any g en 2 ts _ h).mono ?_
  rintro e w1 ⟨rfl, rfl⟩
  go_wp2_with fail
  exact ⟨rfl, Only.of_below (Below.refl _ _), rfl⟩
end
section
open Go.RowKit FracM
theorem frozen_alloc' {w : World} {b k : Nat} {v : Value} (o : Obj) (h : w.cell? ⟨b, k, none⟩ = some v) (hf : w.frozen? ⟨b, k, none⟩ = false) : (w.alloc o).frozen? ⟨b, k, none⟩ = false := ((bel1 w o).frozen (p := ⟨b, k, none⟩) (cell_lt h)).trans hf
/-- 'expr' keeps its word at a depth -/
def ExprOk (g : Nat) (lv nv : Value) (l : List Int) (ns : List ByteArray) (most : Int) (dp : Int) (m : Nat) : Prop := ∀ (i : Int) (w : World), GenAt w g i lv nv l ns most → 0 ≤ i → i + 50 * m ≤ 800000 →
 Calls Tryz.prog 64 #[.pointer (some ⟨g, 0, none⟩), .int .i64 dp] w (RetTree g lv nv l ns most i dp m (50 * m) w)
def KOk2 (fn k : Int) : Prop := (fn ≠ 4 ∧ k = 0) ∨ (fn = 4 ∧ 1 ≤ k ∧ k ≤ 3)
def NmOk (o B nb : Nat) (W : World) : Prop := SeqP W (fun b _ => o < b ∧ b < B) 1 (.slice (some ⟨nb, 0, none⟩) 6 6) 6 (namesL.map Value.string) ∧ B ≤ W.heap.size
theorem NmOk.below {o B nb : Nat} {w w' : World} (h : NmOk o B nb w) (f : Below B w w') : NmOk o B nb w' := ⟨h.1.keep (Agree.of_lt f fun b e hp => hp.2), Nat.le_trans h.2 f.size⟩
theorem NmOk.set {o B nb : Nat} {w : World} (h : NmOk o B nb w) (k : Nat) (v : Value) : NmOk o B nb (w.setCell ⟨o, k, none⟩ v) := ⟨h.1.keep (Agree.of_only (Only.setCell k v) fun b e hp => by have := hp.1; omega), by simpa [World.setCell] using h.2⟩
/-- the names that have been taken -/
def ByRel (w W : World) (B : Nat) (k : Nat) (bys : List ByteArray) (bv : Value) : Prop := bys.Sublist (namesL.take k) ∧ W.ownsRow B 9 1 bv bys.length (bys.map Value.string)
theorem by_skip {w W : World} {B k : Nat} {bys : List ByteArray} {bv : Value} (h : ByRel w W B k bys bv) : ByRel w W B (k + 1) bys bv := ⟨h.1.trans (List.take_sublist_take_left (by omega)), h.2⟩
theorem by_take {w W W' : World} {B k : Nat} {bys : List ByteArray} {bv bv' : Value} {x : ByteArray} (h : ByRel w W B k bys bv) (hx : namesL[k]? = some x) (ho : W'.ownsRow B 9 1 bv' (bys.length + 1) (bys.map Value.string ++ [.string x])) : ByRel w W' B (k + 1) (bys ++ [x]) bv' := by
 refine ⟨?_, by simpa using ho⟩
 rw [List.take_add_one, hx]
 exact h.1.append (List.Sublist.refl _)
set_option maxHeartbeats 4000000 in
set_option maxRecDepth 100000 in
theorem group_any (g : Nat) (lv nv : Value) (l : List Int) (ns : List ByteArray) (most i dp : Int) (m : Nat) (w : World) (hE : ExprOk g lv nv l ns most (dp - 1) m) (h : GenAt w g i lv nv l ns most) (hi : 0 ≤ i) (hi2 : i + 50 * m ≤ 799960) (hd1 : 1 ≤ dp) (hd2 : dp ≤ 100) (hok : NamesOk ns) (hm : 1 ≤ most) (hm2 : most ≤ 4096) :
  Calls Tryz.prog 101 #[.pointer (some ⟨g, 0, none⟩), .int .i64 dp] w (RetTree g lv nv l ns most i dp (m + 1) (50 * m + 10) w) := by
 have hgs := h.blk.lt
 unfold ExprOk at hE
 have HIH := Box.mk hE
 have HP : Box (Pre g w (w.alloc (.cells zeroC 29))) := ⟨⟨Only.of_below (bel1 _ _), Blk.new _ _ _⟩⟩
 have HG := Box.mk (h.below (bel1 w (.cells zeroC 29)))
 have h51 : (1 : Int) ≤ 5 := by omega
 have h52 : (5 : Int) ≤ 9223372036854775807 := by omega
 have h31 : (1 : Int) ≤ 3 := by omega
 have h32 : (3 : Int) ≤ 9223372036854775807 := by omega
 have h61 : (1 : Int) ≤ 64 := by omega
 have h62 : (64 : Int) ≤ 9223372036854775807 := by omega
 clear h hE
 go_enter Tryz.func101, Tryz.ntmps101
 go_upto_region 1 with (fail)
 generalize w.alloc (.cells zeroC 29) = W at *
 go_cut [5] (fun p wx => ∃ o fn, p = .pointer (some ⟨o, 0, none⟩) ∧ 0 ≤ fn ∧ fn < 5 ∧ Sel g o w wx (i + 1) lv nv l ns most ⟨2, fn, 0, 0, 0, 0, 0, ⟨#[]⟩, [], []⟩ nilV nilV nilV)
 case first =>
  go_wp2_with fail
  (with_reducible refine (next_any g lv nv l ns most i 5 _ HG.out hi (by omega) h51 h52).mono ?_)
  rintro e w1 ⟨rfl, hg9, hs9⟩
  have HG1 := Box.mk hg9
  have HP1 := Box.mk (HP.out.next hgs hs9.only)
  obtain ⟨p1, p2⟩ := pick_bd l i 5 h51
  clear hg9 hs9
  go_wp2_with fail
  go_meet
  exact ⟨w1.heap.size, pickZ l i 5, rfl, p1, p2, (HP1.out.alloc _).sel (Blk.new _ _ _) HP1.out.R.lt (HG1.out.alloc _)⟩
 case rest =>
  clear HG HP
  obtain ⟨o, fn, rfl, hf1, hf2, hS⟩ := hcut
  rename World => wd
  have HS := Box.mk hS
  clear hS
  obtain ⟨c0, c1, c2, c3, c4, c5, c6, c7, c8, c9, c10⟩ := HS.out.c
  simp only [Nat.zero_add] at c1 c2 c3 c4 c5 c6 c7 c8 c9 c10
  have cf := HS.out.blk.frozen
  go_upto_if 14 with (fail)
  go_cut [] (fun wx => ∃ (k i' : Int), KOk2 fn k ∧ i ≤ i' ∧ i' ≤ i + 3 ∧ Sel g o w wx i' lv nv l ns most ⟨2, fn, 0, 0, k, 0, 0, ⟨#[]⟩, [], []⟩ nilV nilV nilV)
  case first =>
   by_cases h0 : fn = 4
   ·subst h0
    go_wp2_with fail
    (with_reducible refine (next_any g lv nv l ns most (i + 1) 3 _ HS.out.gen (by omega) (by omega) h31 h32).mono ?_)
    rintro e w3 ⟨rfl, hg9, hs9⟩
    have HS3 := Box.mk (HS.out.next hgs hs9.only hg9)
    clear hg9 hs9
    clear c0 c1 c2 c3 c4 c5 c6 c7 c8 c9 c10 cf
    obtain ⟨r1_w3, r2_w3⟩ := pick_bd l (i + 1) 3 h31
    obtain ⟨c0, c1, c2, c3, c4, c5, c6, c7, c8, c9, c10⟩ := HS3.out.c
    simp only [Nat.zero_add] at c1 c2 c3 c4 c5 c6 c7 c8 c9 c10
    have cf := HS3.out.blk.frozen
    go_wp2_with fail
    go_meet
    exact ⟨1 + pickZ l (i + 1) 3, i + 1 + 1, .inr ⟨rfl, by omega, by omega⟩, by omega, by omega, HS3.out.set hgs 4 _ rfl⟩
   ·have h1 : (fn != 4) = true := by simpa using h0
    have h2 : (fn == 4) = false := by simpa using h0
    go_wp2_with fail
    go_meet
    exact ⟨0, i + 1, .inl ⟨h0, rfl⟩, by omega, by omega, HS.out⟩
  case rest =>
   clear HS
   clear c0 c1 c2 c3 c4 c5 c6 c7 c8 c9 c10 cf
   obtain ⟨k, i1, hk, hi1, hi2', hS⟩ := hcut
   rename World => wd
   have HS := Box.mk hS
   have HK := Box.mk hk
   clear hS hk
   go_wp2_with fail
   refine (names_any _).mono ?_
   rintro e wn ⟨rfl, hwn⟩
   have HSn : Box (Sel g o w wn i1 lv nv l ns most ⟨2, fn, 0, 0, k, 0, 0, ⟨#[]⟩, [], []⟩ nilV nilV nilV) := ⟨hwn ▸ HS.out.below hgs (bel1 _ _)⟩
   have HN : Box (SeqP wn (fun b _ => o < b ∧ b < wn.heap.size) 1 (.slice (some ⟨wd.heap.size, 0, none⟩) 6 6) 6 (namesL.map Value.string)) := ⟨by
    have := SeqP.of_blk (P := fun b _ => o < b ∧ b < wn.heap.size) (size := 1) (n := 6) (Blk.new wd #[.string ⟨#[97]⟩, .string ⟨#[97, 98]⟩, .string ⟨#[98]⟩, .string ⟨#[106, 111, 98]⟩, .string ⟨#[120, 95, 49]⟩, .string ⟨#[122, 111, 110, 101]⟩] 9) rfl (by omega) (by have h1 := HS.out.new; have h2 := HS.out.blk.lt; rw [hwn]; simp; omega)
    rw [← hwn] at this
    exact this⟩
   clear hwn HS
   generalize wd.heap.size = nb at HN ⊢
   obtain ⟨c0, c1, c2, c3, c4, c5, c6, c7, c8, c9, c10⟩ := HSn.out.c
   simp only [Nat.zero_add] at c1 c2 c3 c4 c5 c6 c7 c8 c9 c10
   have cf := HSn.out.blk.frozen
   go_wp2_with fail
   (with_reducible refine (next_any g lv nv l ns most i1 64 _ HSn.out.gen (by omega) (by omega) h61 h62).mono ?_)
   rintro e w3 ⟨rfl, hg9, hs9⟩
   have HS3 := Box.mk (HSn.out.next hgs hs9.only hg9)
   have HN3 : Box (NmOk o w3.heap.size nb w3) := ⟨((HN.out.keep (Agree.of_only hs9.only fun b e hp => by have := hp.1; have := HSn.out.new; omega)).mono fun b e _ hp => by have := hs9.size; omega), Nat.le_refl _⟩
   clear hg9 hs9
   clear c0 c1 c2 c3 c4 c5 c6 c7 c8 c9 c10 cf
   obtain ⟨r1_w3, r2_w3⟩ := pick_bd l i1 64 h61
   obtain ⟨c0, c1, c2, c3, c4, c5, c6, c7, c8, c9, c10⟩ := HS3.out.c
   simp only [Nat.zero_add] at c1 c2 c3 c4 c5 c6 c7 c8 c9 c10
   have cf := HS3.out.blk.frozen
   go_wp2_with fail
   have hoz := HS3.out.blk.lt
   have hnw := HS3.out.new
   clear c0 c1 c2 c3 c4 c5 c6 c7 c8 c9 c10 cf
   clear HSn HN
   go_loopw [7, 8] (fun q z wr => ∃ (n : Nat) (wh : Int) (bys : List ByteArray) (bv : Value), n ≤ 6 ∧ z = .int .i64 n ∧ q = .int .i64 wh ∧ 0 ≤ wh ∧ wh < 64 ∧ ByRel w wr w3.heap.size n bys bv ∧ NmOk o w3.heap.size nb wr ∧ Sel g o w wr (i1 + 1) lv nv l ns most ⟨2, fn, 0, 0, k, 0, 0, ⟨#[]⟩, [], bys⟩ nilV bv nilV) (fun _ z _ => (6 - intOf z).toNat)
   case atStart => exact ⟨0, _, [], nilV, by omega, rfl, rfl, r1_w3, r2_w3, ⟨List.nil_sublist _, World.ownsRow_nil _ _ _ _⟩, HN3.out, HS3.out⟩
   case round =>
    obtain ⟨n, wh, bys, bv, hn, rfl, rfl, hw1, hw2, hby, hbl, hS⟩ := hrel
    clear HS3
    have HS4 := Box.mk hS
    have HB4 := Box.mk hby
    have HL4 := Box.mk hbl
    have hsz := hbl.2
    clear hS hby hbl
    by_cases hlt : n < 6
    ·have hlt2 : (n : Int) < 6 := by omega
     obtain ⟨x, hx⟩ : ∃ x, namesL[n]? = some x := ⟨namesL[n]'(by simp [namesL]; omega), List.getElem?_eq_getElem _⟩
     have hxc : wr.cell? ⟨nb, n, none⟩ = some (.string x) := by
      obtain ⟨b, off, hA, hbs, ⟨_, hp⟩, hc⟩ := HL4.out.1.at1b n (.string x) (by rw [List.getElem?_map, hx]; rfl)
      cases hA
      rw [Nat.zero_add] at hc
      exact hc
     have HX := Box.mk hx
     clear hx
     obtain ⟨c0, c1, c2, c3, c4, c5, c6, c7, c8, c9, c10⟩ := HS4.out.c
     simp only [Nat.zero_add] at c1 c2 c3 c4 c5 c6 c7 c8 c9 c10
     have cf := HS4.out.blk.frozen
     have hwq : IntKind.i64.wrap (wh / 2) = wh / 2 := W64_in (by omega) (by omega)
     go_upto_if 30 with (fail)
     go_cut [] (fun wx => ∃ (bys' : List ByteArray) (bv' : Value), ByRel w wx w3.heap.size (n + 1) bys' bv' ∧ NmOk o w3.heap.size nb wx ∧ Sel g o w wx (i1 + 1) lv nv l ns most ⟨2, fn, 0, 0, k, 0, 0, ⟨#[]⟩, [], bys'⟩ nilV bv' nilV)
     case first =>
      by_cases hq : wh % 4 = 1
      ·obtain ⟨j0, hj, hy0, hy1, hy2⟩ := info_parts strInfo
       have HJ := Box.mk (And.intro hj (And.intro hy0 (And.intro hy1 hy2)))
       clear hj hy0 hy1 hy2
       have hne1 := cell_alloc' (.cells #[.string x] 9) c9
       have hne2 := cell_alloc' (.cells #[.string x] 9) hxc
       go_wp2_with fail
       go_region_law (first | (refine step_append_lies _ rfl _ _ 26 rfl w3.heap.size 9 j0 _ 1 16 Tryz.underlying26 HJ.out.1 HJ.out.2.1 HJ.out.2.2.1 HJ.out.2.2.2 rfl (by decide) bv bys.length (bys.map Value.string) rfl (by exact HB4.out.2.alloc _) ⟨wr.heap.size, 0, none⟩ 1 1 [.string x] rfl rfl (by exact cells1 _ _ _) (by intro u hu; simp at hu; subst hu; rfl) (by decide) (by unfold maxLen; have := HB4.out.1.length_le; simp at this; omega) (by have := HB4.out.1.length_le; simp at this; omega) (by simp; omega) _ rfl ?_; intro g9 cap9 w9 hown9 hg9 hat9 hlt9; have HB9 : Box (Below w3.heap.size wr w9) := Box.mk (((by first | exact bel1 _ _ | exact (bel1 _ _).drew : Below wr.heap.size wr _).mono hsz).trans (grow_lt (by exact HB4.out.2.alloc _) hg9 (by simp; omega))); have e9 := (HB9.out.cell (p := ⟨o, 9, none⟩) hoz).trans c9; have ef9 := (HB9.out.frozen (p := ⟨o, 9, none⟩) hoz).trans (cf 9)))
       all_goals
        have HT9 := Box.mk (by_take HB4.out HX.out hown9)
        have HS9 := Box.mk ((HS4.out.from_ hgs hoz HB9.out).set hgs 9 (.slice (some ⟨g9, 0, none⟩) (bys.length + 1) cap9) (d' := ⟨2, fn, 0, 0, k, 0, 0, ⟨#[]⟩, [], bys ++ [x]⟩) (mv' := nilV) (bv' := .slice (some ⟨g9, 0, none⟩) (bys.length + 1) cap9) (kv' := nilV) rfl)
        clear hown9 hg9 hat9 hlt9 e9 ef9 hne1 hne2
        go_wp2_with fail
        go_meet
        refine ⟨bys ++ [x], _, ⟨HT9.out.1, ?_⟩, ?_, HS9.out⟩
        ·exact own_only HT9.out.2 (Only.setCell 9 _) hoz
        ·exact (HL4.out.below HB9.out).set 9 _
      ·go_wp2_with fail
       go_meet
       exact ⟨bys, bv, by_skip HB4.out, HL4.out, HS4.out⟩
     case rest =>
      clear HS4 HB4 HL4 hxc hsz
      clear c0 c1 c2 c3 c4 c5 c6 c7 c8 c9 c10 cf
      obtain ⟨bys', bv', hby, hbl, hS⟩ := hcut
      rename World => wd
      have HS5 := Box.mk hS
      have HB5 := Box.mk hby
      have HL5 := Box.mk hbl
      clear hS hby hbl
      go_wp2_with fail
      go_roundw
      case rel => exact ⟨n + 1, wh / 2, bys', bv', by omega, by go_num, rfl, by omega, by omega, HB5.out, HL5.out, HS5.out⟩
      case measure => simp [intOf]; omega
    ·obtain rfl : n = 6 := by omega
     obtain ⟨A2, c2', hv2⟩ := own_form HB4.out.2
     subst hv2
     go_wp2_with fail
     (with_reducible refine (HIH.out _ _ HS4.out.gen (by omega) (by omega)).mono ?_)
     rintro e w8 ⟨t, s, i8, rfl, ht8, hgd8, hd8, hn8, hi8, hi9, hg8, ho8⟩
     have HS8 := Box.mk (HS4.out.next hgs ho8 hg8)
     have HB8 : Box (w8.ownsRow w3.heap.size 9 1 (.slice A2 bys.length c2') bys.length (bys.map Value.string)) := ⟨own_only HB4.out.2 ho8 (by omega)⟩
     have hgood : GoodN ns most ⟨2, fn, 0, 0, k, 0, 0, ⟨#[]⟩, [], bys⟩ 1 := .grp fn k bys hf1 hf2 HK.out (HB4.out.1.trans (List.take_sublist _ _))
     have HGD := Box.mk hgood
     have HOK := Box.mk (selN_ok hgood hok hm2)
     have HBS : Box (OwnP w8 (fun b e => w3.heap.size ≤ b ∧ b < wr.heap.size ∧ e = 0 + bys.length * 1) 9 1 (.slice A2 bys.length c2') bys.length (bys.map Value.string)) := ⟨by
      have h1 : OwnP wr (fun b e => w3.heap.size ≤ b ∧ e = 0 + bys.length * 1) 9 1 (.slice A2 bys.length c2') bys.length (bys.map Value.string) := OwnP.of_own HB4.out.2 fun b c hb _ => ⟨hb, rfl⟩
      have h2 := h1.mono (Q := fun b e => w3.heap.size ≤ b ∧ b < wr.heap.size ∧ e = 0 + bys.length * 1) fun b e hb hp => ⟨hp.1, hb, hp.2⟩
      exact h2.keep (AgreeB.of_only ho8 fun b e hp => by have := hp.1; omega)⟩
     clear hgood
     have HT8 := Box.mk (And.intro ht8 (And.intro hgd8 (And.intro hd8 hn8)))
     have HI8 := Box.mk (And.intro hi8 hi9)
     have hw8 := ho8.size
     clear ht8 hgd8 hd8 hn8 hg8 ho8 hi8 hi9 HS4
     obtain ⟨c0, c1, c2, c3, c4, c5, c6, c7, c8, c9, c10⟩ := HS8.out.c
     simp only [Nat.zero_add] at c1 c2 c3 c4 c5 c6 c7 c8 c9 c10
     have cf := HS8.out.blk.frozen
     have e10 := cell_alloc' (.cells (ndC t.d s.1 s.2.1 s.2.2) 29) c10
     have ef10 := frozen_alloc' (.cells (ndC t.d s.1 s.2.1 s.2.2) 29) c10 (cf 10)
     go_upto_region 13 with (fail)
     have HT : Box (TreeF (w8.alloc (.cells (ndC t.d s.1 s.2.1 s.2.2) 29)) w3.heap.size (.node ⟨2, fn, 0, 0, k, 0, 0, ⟨#[]⟩, [], bys⟩ [t]) (nilV, .slice A2 bys.length c2', .slice (some ⟨w8.heap.size, 0, none⟩) 1 1)) := ⟨tree_one (B1 := wr.heap.size) (L0 := fun _ => 0 + bys.length * 1) HOK.out hsz (OwnP.nil _ _ _ _) HBS.out HT8.out.1 hw8⟩
     have HS9 := Box.mk ((HS8.out.below hgs (bel1 w8 (.cells (ndC t.d s.1 s.2.1 s.2.2) 29))).set hgs 10 (.slice (some ⟨w8.heap.size, 0, none⟩) 1 1) (d' := ⟨2, fn, 0, 0, k, 0, 0, ⟨#[]⟩, [], bys⟩) (mv' := nilV) (bv' := .slice A2 bys.length c2') (kv' := (.slice (some ⟨w8.heap.size, 0, none⟩) 1 1)) rfl)
     have HT9 := Box.mk (HT.out.far (Only.setCell (g := o) 10 (.slice (some ⟨w8.heap.size, 0, none⟩) 1 1)) hoz)
     clear HT HS8 HB8 HBS e10 ef10
     clear c0 c1 c2 c3 c4 c5 c6 c7 c8 c9 c10 cf
     generalize ((w8.alloc (.cells (ndC t.d s.1 s.2.1 s.2.2) 29)).setCell ⟨o, 10, none⟩ (.slice (some ⟨w8.heap.size, 0, none⟩) 1 1)) = WB at HS9 HT9 ⊢
     generalize w8.heap.size = kb at HS9 HT9 ⊢
     obtain ⟨c0, c1, c2, c3, c4, c5, c6, c7, c8, c9, c10⟩ := HS9.out.c
     simp only [Nat.zero_add] at c1 c2 c3 c4 c5 c6 c7 c8 c9 c10
     have cf := HS9.out.blk.frozen
     obtain ⟨z0, z1, z2, z3, z4, z5, z6, z7, z8, z9, z10⟩ := blk11 HS9.out.R
     simp only [Nat.zero_add] at z1 z2 z3 z4 z5 z6 z7 z8 z9 z10
     have zf := HS9.out.R.frozen
     go_wp2_with fail
     have HF : Box (Blk (put11 WB w.heap.size (.int .i64 2) (.int .i64 fn) (.int .i64 0) (.int .i64 0) (.int .i64 k) (.int .i64 0) (.int .i64 0) (.string ⟨#[]⟩) nilV (.slice A2 bys.length c2') (.slice (some ⟨kb, 0, none⟩) 1 1)) w.heap.size 29 (ndC ⟨2, fn, 0, 0, k, 0, 0, ⟨#[]⟩, [], bys⟩ nilV (.slice A2 bys.length c2') (.slice (some ⟨kb, 0, none⟩) 1 1))) := ⟨put11_blk HS9.out.R⟩
     have HA : Box (Only g w (put11 WB w.heap.size (.int .i64 2) (.int .i64 fn) (.int .i64 0) (.int .i64 0) (.int .i64 k) (.int .i64 0) (.int .i64 0) (.string ⟨#[]⟩) nilV (.slice A2 bys.length c2') (.slice (some ⟨kb, 0, none⟩) 1 1)) ∧ GenAt (put11 WB w.heap.size (.int .i64 2) (.int .i64 fn) (.int .i64 0) (.int .i64 0) (.int .i64 k) (.int .i64 0) (.int .i64 0) (.string ⟨#[]⟩) nilV (.slice A2 bys.length c2') (.slice (some ⟨kb, 0, none⟩) 1 1)) g i8 lv nv l ns most ∧ TreeF (put11 WB w.heap.size (.int .i64 2) (.int .i64 fn) (.int .i64 0) (.int .i64 0) (.int .i64 k) (.int .i64 0) (.int .i64 0) (.string ⟨#[]⟩) nilV (.slice A2 bys.length c2') (.slice (some ⟨kb, 0, none⟩) 1 1)) w3.heap.size (.node ⟨2, fn, 0, 0, k, 0, 0, ⟨#[]⟩, [], bys⟩ [t]) (nilV, .slice A2 bys.length c2', (.slice (some ⟨kb, 0, none⟩) 1 1))) := ⟨HS9.out.only.low_then (put11_below (Nat.le_refl _) ..), HS9.out.gen.above (put11_below (by omega) ..), HT9.out.far (put11_only ..) (by omega)⟩
     show bodyPost _ _ _ _ _ (put11 WB w.heap.size (.int .i64 2) (.int .i64 fn) (.int .i64 0) (.int .i64 0) (.int .i64 k) (.int .i64 0) (.int .i64 0) (.string ⟨#[]⟩) nilV (.slice A2 bys.length c2') (.slice (some ⟨kb, 0, none⟩) 1 1))
     generalize (put11 WB w.heap.size (.int .i64 2) (.int .i64 fn) (.int .i64 0) (.int .i64 0) (.int .i64 k) (.int .i64 0) (.int .i64 0) (.string ⟨#[]⟩) nilV (.slice A2 bys.length c2') (.slice (some ⟨kb, 0, none⟩) 1 1)) = WF at HF HA ⊢
     clear HS9 HT9 z0 z1 z2 z3 z4 z5 z6 z7 z8 z9 z10 zf
     clear c0 c1 c2 c3 c4 c5 c6 c7 c8 c9 c10 cf
     obtain ⟨e0, e1, e2, e3, e4, e5, e6, e7, e8, e9, e10⟩ := blk11 HF.out
     simp only [Nat.zero_add] at e1 e2 e3 e4 e5 e6 e7 e8 e9 e10
     have ef := HF.out.frozen
     refine bodyPost_ret (v := .agg (ndC ⟨2, fn, 0, 0, k, 0, 0, ⟨#[]⟩, [], bys⟩ nilV (.slice A2 bys.length c2') (.slice (some ⟨kb, 0, none⟩) 1 1))) (by simp [results, Tryz.results101, go_sem, e0, e1, e2, e3, e4, e5, e6, e7, e8, e9, e10, ef]) rfl ?_
     obtain ⟨k1, k2⟩ := HI8.out
     refine ⟨.node ⟨2, fn, 0, 0, k, 0, 0, ⟨#[]⟩, [], bys⟩ [t], (nilV, .slice A2 bys.length c2', (.slice (some ⟨kb, 0, none⟩) 1 1)), i8, rfl, HA.out.2.2.lower (by omega), .mk _ _ HGD.out (fun u hu => by simp at hu; subst hu; exact HT8.out.2.1), ?_, ?_, by omega, by omega, HA.out.2.1, HA.out.1⟩
     ·have := HT8.out.2.2.1; simp only [dep, depL]; omega
     ·have := HT8.out.2.2.2; simp only [nds, ndsL]; omega
end
section
open Go.RowKit FracM
theorem str_beq (a b : ByteArray) : (a.toList == b.toList) = decide (a = b) := by
 rw [Bool.eq_iff_iff, beq_iff_eq, decide_eq_true_iff, ByteArray.toList_eq, ByteArray.toList_eq]
 exact ⟨fun h => ByteArray.ext (Array.toList_inj.mp h), fun h => by rw [h]⟩
def AnyP : Nat → Nat → Prop := fun _ _ => True
def StrsP (w : World) (v : Value) (l : List ByteArray) : Prop := SeqP w AnyP 1 v l.length (l.map Value.string)
theorem StrsP.below {w w' : World} {v : Value} {l : List ByteArray} (h : StrsP w v l) (hb : Below w.heap.size w w') : StrsP w' v l := h.keep (Agree.of_below hb)
theorem kid2 {w : World} {P : Nat → Nat → Prop} {d : Nd} {ks : List Tree} {mv bv : Value} {A : Option Addr} {n c : Nat} (h : Nod w P d ks mv bv (.slice A n c)) (i : Nat) (hi : i < ks.length) :
  ∃ e es b off B1 m1 B2 m2 B3 m3, ks[i]? = some (.node e es) ∧ A = some ⟨b, off, none⟩ ∧ b < w.heap.size ∧ (∃ z, P b z) ∧ At11 w b (off + i * 11) e (.slice B1 e.ms.length m1) (.slice B2 e.bys.length m2) (.slice B3 es.length m3) ∧ TreeAt w P (.node e es) (.slice B1 e.ms.length m1, .slice B2 e.bys.length m2, .slice B3 es.length m3) := by
 obtain ⟨x, hx⟩ : ∃ x, ks[i]? = some x := ⟨ks[i], List.getElem?_eq_getElem _⟩
 obtain ⟨e, es⟩ := x
 obtain ⟨b, off, mv', bv', kv', rfl, hb, hp, h11, hT⟩ := h.kid i e es hx
 obtain ⟨B1, m1, rfl, -⟩ := hT.nod.ms.form
 obtain ⟨B2, m2, rfl, -⟩ := hT.nod.bys.form
 obtain ⟨B3, m3, rfl, -⟩ := hT.nod.kform
 exact ⟨e, es, b, off, B1, m1, B2, m2, B3, m3, hx, rfl, hb, hp, h11, hT⟩
theorem two_of {ks : List Tree} {a b : Tree} (hl : ks.length = 2) (h0 : ks[0]? = some a) (h1 : ks[1]? = some b) : ks = [a, b] := by
 match ks, hl with
 | [x, y], _ => simp at h0 h1; rw [h0, h1]
theorem one_of {ks : List Tree} {a : Tree} (hl : ks.length = 1) (h0 : ks[0]? = some a) : ks = [a] := by
 match ks, hl with
 | [x], _ => simp at h0; rw [h0]
end
section
open Go.RowKit FracM
def sameB : List ByteArray → List ByteArray → Bool
 | [], [] => true
 | x :: xs, y :: ys => (x.toList == y.toList) && sameB xs ys
 | _, _ => false
theorem same_eq (a b : List ByteArray) : sameB a b = decide (a = b) := by
 induction a generalizing b with
 | nil => cases b <;> simp [sameB]
 | cons x xs ih =>
  cases b with
  | nil => simp [sameB]
  | cons y ys =>
   rw [sameB, ih, str_beq, Bool.eq_iff_iff]
   simp
theorem StrsP.len {w : World} {A : Option Addr} {n c : Nat} {l : List ByteArray} (h : StrsP w (.slice A n c) l) : n = l.length ∧ n ≤ 9223372036854775807 := by
 obtain ⟨_, _, _, hv, h1, h2, _⟩ := h
 cases hv
 unfold maxLen at h2
 exact ⟨rfl, by omega⟩
theorem StrsP.at_ {w : World} {A : Option Addr} {n c : Nat} {l : List ByteArray} (h : StrsP w (.slice A n c) l) (k : Nat) (hk : k < l.length) : ∃ x b off, l[k]? = some x ∧ A = some ⟨b, off, none⟩ ∧ b < w.heap.size ∧ w.cell? ⟨b, off + k, none⟩ = some (.string x) := by
 obtain ⟨x, hx⟩ : ∃ x, l[k]? = some x := ⟨l[k], List.getElem?_eq_getElem _⟩
 obtain ⟨b, off, h1, h2, h3⟩ := SeqP.at1 h k (.string x) (by simp [hx])
 exact ⟨x, b, off, hx, h1, h2, h3⟩
theorem drop_at {α : Type} {l : List α} {k : Nat} {x : α} (hx : l[k]? = some x) : l.drop k = x :: l.drop (k + 1) := by
 obtain ⟨h1, h2⟩ := List.getElem?_eq_some_iff.1 hx
 rw [List.drop_eq_getElem_cons h1, h2]
end
section
open Go.RowKit
def bs (l : List UInt8) : ByteArray := ⟨l.toArray⟩
end
section
open Go.RowKit
end
section
open Go.RowKit FracM
end
end Go.Proofs.YthoibeajhdhdhaaGreatDoor
