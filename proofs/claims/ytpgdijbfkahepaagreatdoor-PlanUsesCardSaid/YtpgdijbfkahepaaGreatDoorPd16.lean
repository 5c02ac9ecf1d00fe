/- Contracts, packed: Qr. -/
import Derived.Test.YtpgdijbfkahepaaGreatDoorPd15
import Derived.Deep.RegionLaw
set_option linter.unusedVariables false
set_option linter.unusedSimpArgs false
namespace Go.Proofs.YtpgdijbfkahepaaGreatDoor
section
open Go.RowKit FracM
theorem frozen_alloc' {w : World} {b k : Nat} {v : Value} (o : Obj) (h : w.cell? ⟨b, k, none⟩ = some v) (hf : w.frozen? ⟨b, k, none⟩ = false) : (w.alloc o).frozen? ⟨b, k, none⟩ = false := ((bel1 w o).frozen (p := ⟨b, k, none⟩) (cell_lt h)).trans hf
/-- 'expr' keeps its word at a depth -/
def ExprOk (g : Nat) (lv nv : Value) (l : List Int) (ns : List ByteArray) (most : Int) (dp : Int) (m : Nat) : Prop := ∀ (i : Int) (w : World), GenAt w g i lv nv l ns most → 0 ≤ i → i + 50 * m ≤ 800000 →
 Calls Tryz.prog 32 #[.pointer (some ⟨g, 0, none⟩), .int .i64 dp] w (RetTree g lv nv l ns most i dp m (50 * m) w)
def KOk2 (fn k : Int) : Prop := (fn ≠ 4 ∧ k = 0) ∨ (fn = 4 ∧ 1 ≤ k ∧ k ≤ 3)
def NmOk (o B nb : Nat) (W : World) : Prop := SeqP W (fun b _ => o < b ∧ b < B) 1 (.slice (some ⟨nb, 0, none⟩) 6 6) 6 (namesL.map Value.string) ∧ B ≤ W.heap.size
theorem NmOk.below {o B nb : Nat} {w w' : World} (h : NmOk o B nb w) (f : Below B w w') : NmOk o B nb w' := ⟨h.1.keep (Agree.of_lt f fun b e hp => hp.2), Nat.le_trans h.2 f.size⟩
theorem NmOk.set {o B nb : Nat} {w : World} (h : NmOk o B nb w) (k : Nat) (v : Value) : NmOk o B nb (w.setCell ⟨o, k, none⟩ v) := ⟨h.1.keep (Agree.of_only (Only.setCell k v) fun b e hp => by have := hp.1; omega), by simpa [World.setCell] using h.2⟩
/-- the names that have been taken -/
def ByRel (w W : World) (B : Nat) (k : Nat) (bys : List ByteArray) (bv : Value) : Prop := bys.Sublist (namesL.take k) ∧ W.ownsRow B 9 1 bv bys.length (bys.map Value.string)
theorem by_skip {w W : World} {B k : Nat} {bys : List ByteArray} {bv : Value} (h : ByRel w W B k bys bv) : ByRel w W B (k + 1) bys bv := ⟨h.1.trans (List.take_sublist_take_left (by omega)), h.2⟩
theorem by_take {w W W' : World} {B k : Nat} {bys : List ByteArray} {bv bv' : Value} {x : ByteArray} (h : ByRel w W B k bys bv) (hx : namesL[k]? = some x) (ho : W'.ownsRow B 9 1 bv' (bys.length + 1) (bys.map Value.string ++ [.string x])) : ByRel w W' B (k + 1) (bys ++ [x]) bv' := by
 refine ⟨?_, by simpa using ho⟩
 rw [List.take_add_one, hx]
 exact h.1.append (List.Sublist.refl _)
set_option maxHeartbeats 4000000 in
set_option maxRecDepth 100000 in
theorem group_any (g : Nat) (lv nv : Value) (l : List Int) (ns : List ByteArray) (most i dp : Int) (m : Nat) (w : World) (hE : ExprOk g lv nv l ns most (dp - 1) m) (h : GenAt w g i lv nv l ns most) (hi : 0 ≤ i) (hi2 : i + 50 * m ≤ 799960) (hd1 : 1 ≤ dp) (hd2 : dp ≤ 100) (hok : NamesOk ns) (hm : 1 ≤ most) (hm2 : most ≤ 4096) :
  Calls Tryz.prog 52 #[.pointer (some ⟨g, 0, none⟩), .int .i64 dp] w (RetTree g lv nv l ns most i dp (m + 1) (50 * m + 10) w) := by
 have hgs := h.blk.lt
 unfold ExprOk at hE
 have HIH := Box.mk hE
 have HP : Box (Pre g w (w.alloc (.cells zeroC 35))) := ⟨⟨Only.of_below (bel1 _ _), Blk.new _ _ _⟩⟩
 have HG := Box.mk (h.below (bel1 w (.cells zeroC 35)))
 have h51 : (1 : Int) ≤ 5 := by omega
 have h52 : (5 : Int) ≤ 9223372036854775807 := by omega
 have h31 : (1 : Int) ≤ 3 := by omega
 have h32 : (3 : Int) ≤ 9223372036854775807 := by omega
 have h61 : (1 : Int) ≤ 64 := by omega
 have h62 : (64 : Int) ≤ 9223372036854775807 := by omega
 clear h hE
 go_enter Tryz.func52, Tryz.ntmps52
 go_upto_region 1 with (fail)
 generalize w.alloc (.cells zeroC 35) = W at *
 go_cut [5] (fun p wx => ∃ o fn, p = .pointer (some ⟨o, 0, none⟩) ∧ 0 ≤ fn ∧ fn < 5 ∧ Sel g o w wx (i + 1) lv nv l ns most ⟨2, fn, 0, 0, 0, 0, 0, ⟨#[]⟩, [], []⟩ nilV nilV nilV)
 case first =>
  go_wp2_with fail
  (with_reducible refine (next_any g lv nv l ns most i 5 _ HG.out hi (by omega) h51 h52).mono ?_)
  rintro e w1 ⟨rfl, hg9, hs9⟩
  have HG1 := Box.mk hg9
  have HP1 := Box.mk (HP.out.next hgs hs9.only)
  obtain ⟨p1, p2⟩ := pick_bd l i 5 h51
  clear hg9 hs9
  go_wp2_with fail
  go_meet
  exact ⟨w1.heap.size, pickZ l i 5, rfl, p1, p2, (HP1.out.alloc _).sel (Blk.new _ _ _) HP1.out.R.lt (HG1.out.alloc _)⟩
 case rest =>
  clear HG HP
  obtain ⟨o, fn, rfl, hf1, hf2, hS⟩ := hcut
  rename World => wd
  have HS := Box.mk hS
  clear hS
  obtain ⟨c0, c1, c2, c3, c4, c5, c6, c7, c8, c9, c10⟩ := HS.out.c
  simp only [Nat.zero_add] at c1 c2 c3 c4 c5 c6 c7 c8 c9 c10
  have cf := HS.out.blk.frozen
  go_upto_if 14 with (fail)
  go_cut [] (fun wx => ∃ (k i' : Int), KOk2 fn k ∧ i ≤ i' ∧ i' ≤ i + 3 ∧ Sel g o w wx i' lv nv l ns most ⟨2, fn, 0, 0, k, 0, 0, ⟨#[]⟩, [], []⟩ nilV nilV nilV)
  case first =>
   by_cases h0 : fn = 4
   ·subst h0
    go_wp2_with fail
    (with_reducible refine (next_any g lv nv l ns most (i + 1) 3 _ HS.out.gen (by omega) (by omega) h31 h32).mono ?_)
    rintro e w3 ⟨rfl, hg9, hs9⟩
    have HS3 := Box.mk (HS.out.next hgs hs9.only hg9)
    clear hg9 hs9
    clear c0 c1 c2 c3 c4 c5 c6 c7 c8 c9 c10 cf
    obtain ⟨r1_w3, r2_w3⟩ := pick_bd l (i + 1) 3 h31
    obtain ⟨c0, c1, c2, c3, c4, c5, c6, c7, c8, c9, c10⟩ := HS3.out.c
    simp only [Nat.zero_add] at c1 c2 c3 c4 c5 c6 c7 c8 c9 c10
    have cf := HS3.out.blk.frozen
    go_wp2_with fail
    go_meet
    exact ⟨1 + pickZ l (i + 1) 3, i + 1 + 1, .inr ⟨rfl, by omega, by omega⟩, by omega, by omega, HS3.out.set hgs 4 _ rfl⟩
   ·have h1 : (fn != 4) = true := by simpa using h0
    have h2 : (fn == 4) = false := by simpa using h0
    go_wp2_with fail
    go_meet
    exact ⟨0, i + 1, .inl ⟨h0, rfl⟩, by omega, by omega, HS.out⟩
  case rest =>
   clear HS
   clear c0 c1 c2 c3 c4 c5 c6 c7 c8 c9 c10 cf
   obtain ⟨k, i1, hk, hi1, hi2', hS⟩ := hcut
   rename World => wd
   have HS := Box.mk hS
   have HK := Box.mk hk
   clear hS hk
   go_wp2_with fail
   refine (names_any _).mono ?_
   rintro e wn ⟨rfl, hwn⟩
   have HSn : Box (Sel g o w wn i1 lv nv l ns most ⟨2, fn, 0, 0, k, 0, 0, ⟨#[]⟩, [], []⟩ nilV nilV nilV) := ⟨hwn ▸ HS.out.below hgs (bel1 _ _)⟩
   have HN : Box (SeqP wn (fun b _ => o < b ∧ b < wn.heap.size) 1 (.slice (some ⟨wd.heap.size, 0, none⟩) 6 6) 6 (namesL.map Value.string)) := ⟨by
    have := SeqP.of_blk (P := fun b _ => o < b ∧ b < wn.heap.size) (size := 1) (n := 6) (Blk.new wd #[.string ⟨#[97]⟩, .string ⟨#[97, 98]⟩, .string ⟨#[98]⟩, .string ⟨#[106, 111, 98]⟩, .string ⟨#[120, 95, 49]⟩, .string ⟨#[122, 111, 110, 101]⟩] 9) rfl (by omega) (by have h1 := HS.out.new; have h2 := HS.out.blk.lt; rw [hwn]; simp; omega)
    rw [← hwn] at this
    exact this⟩
   clear hwn HS
   generalize wd.heap.size = nb at HN ⊢
   obtain ⟨c0, c1, c2, c3, c4, c5, c6, c7, c8, c9, c10⟩ := HSn.out.c
   simp only [Nat.zero_add] at c1 c2 c3 c4 c5 c6 c7 c8 c9 c10
   have cf := HSn.out.blk.frozen
   go_wp2_with fail
   (with_reducible refine (next_any g lv nv l ns most i1 64 _ HSn.out.gen (by omega) (by omega) h61 h62).mono ?_)
   rintro e w3 ⟨rfl, hg9, hs9⟩
   have HS3 := Box.mk (HSn.out.next hgs hs9.only hg9)
   have HN3 : Box (NmOk o w3.heap.size nb w3) := ⟨((HN.out.keep (Agree.of_only hs9.only fun b e hp => by have := hp.1; have := HSn.out.new; omega)).mono fun b e _ hp => by have := hs9.size; omega), Nat.le_refl _⟩
   clear hg9 hs9
   clear c0 c1 c2 c3 c4 c5 c6 c7 c8 c9 c10 cf
   obtain ⟨r1_w3, r2_w3⟩ := pick_bd l i1 64 h61
   obtain ⟨c0, c1, c2, c3, c4, c5, c6, c7, c8, c9, c10⟩ := HS3.out.c
   simp only [Nat.zero_add] at c1 c2 c3 c4 c5 c6 c7 c8 c9 c10
   have cf := HS3.out.blk.frozen
   go_wp2_with fail
   have hoz := HS3.out.blk.lt
   have hnw := HS3.out.new
   clear c0 c1 c2 c3 c4 c5 c6 c7 c8 c9 c10 cf
   clear HSn HN
   go_loopw [7, 8] (fun q z wr => ∃ (n : Nat) (wh : Int) (bys : List ByteArray) (bv : Value), n ≤ 6 ∧ z = .int .i64 n ∧ q = .int .i64 wh ∧ 0 ≤ wh ∧ wh < 64 ∧ ByRel w wr w3.heap.size n bys bv ∧ NmOk o w3.heap.size nb wr ∧ Sel g o w wr (i1 + 1) lv nv l ns most ⟨2, fn, 0, 0, k, 0, 0, ⟨#[]⟩, [], bys⟩ nilV bv nilV) (fun _ z _ => (6 - intOf z).toNat)
   case atStart => exact ⟨0, _, [], nilV, by omega, rfl, rfl, r1_w3, r2_w3, ⟨List.nil_sublist _, World.ownsRow_nil _ _ _ _⟩, HN3.out, HS3.out⟩
   case round =>
    obtain ⟨n, wh, bys, bv, hn, rfl, rfl, hw1, hw2, hby, hbl, hS⟩ := hrel
    clear HS3
    have HS4 := Box.mk hS
    have HB4 := Box.mk hby
    have HL4 := Box.mk hbl
    have hsz := hbl.2
    clear hS hby hbl
    by_cases hlt : n < 6
    ·have hlt2 : (n : Int) < 6 := by omega
     obtain ⟨x, hx⟩ : ∃ x, namesL[n]? = some x := ⟨namesL[n]'(by simp [namesL]; omega), List.getElem?_eq_getElem _⟩
     have hxc : wr.cell? ⟨nb, n, none⟩ = some (.string x) := by
      obtain ⟨b, off, hA, hbs, ⟨_, hp⟩, hc⟩ := HL4.out.1.at1b n (.string x) (by rw [List.getElem?_map, hx]; rfl)
      cases hA
      rw [Nat.zero_add] at hc
      exact hc
     have HX := Box.mk hx
     clear hx
     obtain ⟨c0, c1, c2, c3, c4, c5, c6, c7, c8, c9, c10⟩ := HS4.out.c
     simp only [Nat.zero_add] at c1 c2 c3 c4 c5 c6 c7 c8 c9 c10
     have cf := HS4.out.blk.frozen
     have hwq : IntKind.i64.wrap (wh / 2) = wh / 2 := W64_in (by omega) (by omega)
     go_upto_if 30 with (fail)
     go_cut [] (fun wx => ∃ (bys' : List ByteArray) (bv' : Value), ByRel w wx w3.heap.size (n + 1) bys' bv' ∧ NmOk o w3.heap.size nb wx ∧ Sel g o w wx (i1 + 1) lv nv l ns most ⟨2, fn, 0, 0, k, 0, 0, ⟨#[]⟩, [], bys'⟩ nilV bv' nilV)
     case first =>
      by_cases hq : wh % 4 = 1
      ·obtain ⟨j0, hj, hy0, hy1, hy2⟩ := info_parts strInfo
       have HJ := Box.mk (And.intro hj (And.intro hy0 (And.intro hy1 hy2)))
       clear hj hy0 hy1 hy2
       have hne1 := cell_alloc' (.cells #[.string x] 9) c9
       have hne2 := cell_alloc' (.cells #[.string x] 9) hxc
       go_wp2_with fail
       go_region_law (first | (refine step_append_lies _ rfl _ _ 32 rfl w3.heap.size 9 j0 _ 1 16 Tryz.underlying32 HJ.out.1 HJ.out.2.1 HJ.out.2.2.1 HJ.out.2.2.2 rfl (by decide) bv bys.length (bys.map Value.string) rfl (by exact HB4.out.2.alloc _) ⟨wr.heap.size, 0, none⟩ 1 1 [.string x] rfl rfl (by exact cells1 _ _ _) (by intro u hu; simp at hu; subst hu; rfl) (by decide) (by unfold maxLen; have := HB4.out.1.length_le; simp at this; omega) (by have := HB4.out.1.length_le; simp at this; omega) (by simp; omega) _ rfl ?_; intro g9 cap9 w9 hown9 hg9 hat9 hlt9; have HB9 : Box (Below w3.heap.size wr w9) := Box.mk (((by first | exact bel1 _ _ | exact (bel1 _ _).drew : Below wr.heap.size wr _).mono hsz).trans (grow_lt (by exact HB4.out.2.alloc _) hg9 (by simp; omega))); have e9 := (HB9.out.cell (p := ⟨o, 9, none⟩) hoz).trans c9; have ef9 := (HB9.out.frozen (p := ⟨o, 9, none⟩) hoz).trans (cf 9)))
       all_goals
        have HT9 := Box.mk (by_take HB4.out HX.out hown9)
        have HS9 := Box.mk ((HS4.out.from_ hgs hoz HB9.out).set hgs 9 (.slice (some ⟨g9, 0, none⟩) (bys.length + 1) cap9) (d' := ⟨2, fn, 0, 0, k, 0, 0, ⟨#[]⟩, [], bys ++ [x]⟩) (mv' := nilV) (bv' := .slice (some ⟨g9, 0, none⟩) (bys.length + 1) cap9) (kv' := nilV) rfl)
        clear hown9 hg9 hat9 hlt9 e9 ef9 hne1 hne2
        go_wp2_with fail
        go_meet
        refine ⟨bys ++ [x], _, ⟨HT9.out.1, ?_⟩, ?_, HS9.out⟩
        ·exact own_only HT9.out.2 (Only.setCell 9 _) hoz
        ·exact (HL4.out.below HB9.out).set 9 _
      ·go_wp2_with fail
       go_meet
       exact ⟨bys, bv, by_skip HB4.out, HL4.out, HS4.out⟩
     case rest =>
      clear HS4 HB4 HL4 hxc hsz
      clear c0 c1 c2 c3 c4 c5 c6 c7 c8 c9 c10 cf
      obtain ⟨bys', bv', hby, hbl, hS⟩ := hcut
      rename World => wd
      have HS5 := Box.mk hS
      have HB5 := Box.mk hby
      have HL5 := Box.mk hbl
      clear hS hby hbl
      go_wp2_with fail
      go_roundw
      case rel => exact ⟨n + 1, wh / 2, bys', bv', by omega, by go_num, rfl, by omega, by omega, HB5.out, HL5.out, HS5.out⟩
      case measure => simp [intOf]; omega
    ·obtain rfl : n = 6 := by omega
     obtain ⟨A2, c2', hv2⟩ := own_form HB4.out.2
     subst hv2
     go_wp2_with fail
     (with_reducible refine (HIH.out _ _ HS4.out.gen (by omega) (by omega)).mono ?_)
     rintro e w8 ⟨t, s, i8, rfl, ht8, hgd8, hd8, hn8, hi8, hi9, hg8, ho8⟩
     have HS8 := Box.mk (HS4.out.next hgs ho8 hg8)
     have HB8 : Box (w8.ownsRow w3.heap.size 9 1 (.slice A2 bys.length c2') bys.length (bys.map Value.string)) := ⟨own_only HB4.out.2 ho8 (by omega)⟩
     have hgood : GoodN ns most ⟨2, fn, 0, 0, k, 0, 0, ⟨#[]⟩, [], bys⟩ 1 := .grp fn k bys hf1 hf2 HK.out (HB4.out.1.trans (List.take_sublist _ _))
     have HGD := Box.mk hgood
     have HOK := Box.mk (selN_ok hgood hok hm2)
     have HBS : Box (OwnP w8 (fun b e => w3.heap.size ≤ b ∧ b < wr.heap.size ∧ e = 0 + bys.length * 1) 9 1 (.slice A2 bys.length c2') bys.length (bys.map Value.string)) := ⟨by
      have h1 : OwnP wr (fun b e => w3.heap.size ≤ b ∧ e = 0 + bys.length * 1) 9 1 (.slice A2 bys.length c2') bys.length (bys.map Value.string) := OwnP.of_own HB4.out.2 fun b c hb _ => ⟨hb, rfl⟩
      have h2 := h1.mono (Q := fun b e => w3.heap.size ≤ b ∧ b < wr.heap.size ∧ e = 0 + bys.length * 1) fun b e hb hp => ⟨hp.1, hb, hp.2⟩
      exact h2.keep (AgreeB.of_only ho8 fun b e hp => by have := hp.1; omega)⟩
     clear hgood
     have HT8 := Box.mk (And.intro ht8 (And.intro hgd8 (And.intro hd8 hn8)))
     have HI8 := Box.mk (And.intro hi8 hi9)
     have hw8 := ho8.size
     clear ht8 hgd8 hd8 hn8 hg8 ho8 hi8 hi9 HS4
     obtain ⟨c0, c1, c2, c3, c4, c5, c6, c7, c8, c9, c10⟩ := HS8.out.c
     simp only [Nat.zero_add] at c1 c2 c3 c4 c5 c6 c7 c8 c9 c10
     have cf := HS8.out.blk.frozen
     have e10 := cell_alloc' (.cells (ndC t.d s.1 s.2.1 s.2.2) 35) c10
     have ef10 := frozen_alloc' (.cells (ndC t.d s.1 s.2.1 s.2.2) 35) c10 (cf 10)
     go_upto_region 13 with (fail)
     have HT : Box (TreeF (w8.alloc (.cells (ndC t.d s.1 s.2.1 s.2.2) 35)) w3.heap.size (.node ⟨2, fn, 0, 0, k, 0, 0, ⟨#[]⟩, [], bys⟩ [t]) (nilV, .slice A2 bys.length c2', .slice (some ⟨w8.heap.size, 0, none⟩) 1 1)) := ⟨tree_one (B1 := wr.heap.size) (L0 := fun _ => 0 + bys.length * 1) HOK.out hsz (OwnP.nil _ _ _ _) HBS.out HT8.out.1 hw8⟩
     have HS9 := Box.mk ((HS8.out.below hgs (bel1 w8 (.cells (ndC t.d s.1 s.2.1 s.2.2) 35))).set hgs 10 (.slice (some ⟨w8.heap.size, 0, none⟩) 1 1) (d' := ⟨2, fn, 0, 0, k, 0, 0, ⟨#[]⟩, [], bys⟩) (mv' := nilV) (bv' := .slice A2 bys.length c2') (kv' := (.slice (some ⟨w8.heap.size, 0, none⟩) 1 1)) rfl)
     have HT9 := Box.mk (HT.out.far (Only.setCell (g := o) 10 (.slice (some ⟨w8.heap.size, 0, none⟩) 1 1)) hoz)
     clear HT HS8 HB8 HBS e10 ef10
     clear c0 c1 c2 c3 c4 c5 c6 c7 c8 c9 c10 cf
     generalize ((w8.alloc (.cells (ndC t.d s.1 s.2.1 s.2.2) 35)).setCell ⟨o, 10, none⟩ (.slice (some ⟨w8.heap.size, 0, none⟩) 1 1)) = WB at HS9 HT9 ⊢
     generalize w8.heap.size = kb at HS9 HT9 ⊢
     obtain ⟨c0, c1, c2, c3, c4, c5, c6, c7, c8, c9, c10⟩ := HS9.out.c
     simp only [Nat.zero_add] at c1 c2 c3 c4 c5 c6 c7 c8 c9 c10
     have cf := HS9.out.blk.frozen
     obtain ⟨z0, z1, z2, z3, z4, z5, z6, z7, z8, z9, z10⟩ := blk11 HS9.out.R
     simp only [Nat.zero_add] at z1 z2 z3 z4 z5 z6 z7 z8 z9 z10
     have zf := HS9.out.R.frozen
     go_wp2_with fail
     have HF : Box (Blk (put11 WB w.heap.size (.int .i64 2) (.int .i64 fn) (.int .i64 0) (.int .i64 0) (.int .i64 k) (.int .i64 0) (.int .i64 0) (.string ⟨#[]⟩) nilV (.slice A2 bys.length c2') (.slice (some ⟨kb, 0, none⟩) 1 1)) w.heap.size 35 (ndC ⟨2, fn, 0, 0, k, 0, 0, ⟨#[]⟩, [], bys⟩ nilV (.slice A2 bys.length c2') (.slice (some ⟨kb, 0, none⟩) 1 1))) := ⟨put11_blk HS9.out.R⟩
     have HA : Box (Only g w (put11 WB w.heap.size (.int .i64 2) (.int .i64 fn) (.int .i64 0) (.int .i64 0) (.int .i64 k) (.int .i64 0) (.int .i64 0) (.string ⟨#[]⟩) nilV (.slice A2 bys.length c2') (.slice (some ⟨kb, 0, none⟩) 1 1)) ∧ GenAt (put11 WB w.heap.size (.int .i64 2) (.int .i64 fn) (.int .i64 0) (.int .i64 0) (.int .i64 k) (.int .i64 0) (.int .i64 0) (.string ⟨#[]⟩) nilV (.slice A2 bys.length c2') (.slice (some ⟨kb, 0, none⟩) 1 1)) g i8 lv nv l ns most ∧ TreeF (put11 WB w.heap.size (.int .i64 2) (.int .i64 fn) (.int .i64 0) (.int .i64 0) (.int .i64 k) (.int .i64 0) (.int .i64 0) (.string ⟨#[]⟩) nilV (.slice A2 bys.length c2') (.slice (some ⟨kb, 0, none⟩) 1 1)) w3.heap.size (.node ⟨2, fn, 0, 0, k, 0, 0, ⟨#[]⟩, [], bys⟩ [t]) (nilV, .slice A2 bys.length c2', (.slice (some ⟨kb, 0, none⟩) 1 1))) := ⟨HS9.out.only.low_then (put11_below (Nat.le_refl _) ..), HS9.out.gen.above (put11_below (by omega) ..), HT9.out.far (put11_only ..) (by omega)⟩
     show bodyPost _ _ _ _ _ (put11 WB w.heap.size (.int .i64 2) (.int .i64 fn) (.int .i64 0) (.int .i64 0) (.int .i64 k) (.int .i64 0) (.int .i64 0) (.string ⟨#[]⟩) nilV (.slice A2 bys.length c2') (.slice (some ⟨kb, 0, none⟩) 1 1))
     generalize (put11 WB w.heap.size (.int .i64 2) (.int .i64 fn) (.int .i64 0) (.int .i64 0) (.int .i64 k) (.int .i64 0) (.int .i64 0) (.string ⟨#[]⟩) nilV (.slice A2 bys.length c2') (.slice (some ⟨kb, 0, none⟩) 1 1)) = WF at HF HA ⊢
     clear HS9 HT9 z0 z1 z2 z3 z4 z5 z6 z7 z8 z9 z10 zf
     clear c0 c1 c2 c3 c4 c5 c6 c7 c8 c9 c10 cf
     obtain ⟨e0, e1, e2, e3, e4, e5, e6, e7, e8, e9, e10⟩ := blk11 HF.out
     simp only [Nat.zero_add] at e1 e2 e3 e4 e5 e6 e7 e8 e9 e10
     have ef := HF.out.frozen
     refine bodyPost_ret (v := .agg (ndC ⟨2, fn, 0, 0, k, 0, 0, ⟨#[]⟩, [], bys⟩ nilV (.slice A2 bys.length c2') (.slice (some ⟨kb, 0, none⟩) 1 1))) (by simp [results, Tryz.results52, go_sem, e0, e1, e2, e3, e4, e5, e6, e7, e8, e9, e10, ef]) rfl ?_
     obtain ⟨k1, k2⟩ := HI8.out
     refine ⟨.node ⟨2, fn, 0, 0, k, 0, 0, ⟨#[]⟩, [], bys⟩ [t], (nilV, .slice A2 bys.length c2', (.slice (some ⟨kb, 0, none⟩) 1 1)), i8, rfl, HA.out.2.2.lower (by omega), .mk _ _ HGD.out (fun u hu => by simp at hu; subst hu; exact HT8.out.2.1), ?_, ?_, by omega, by omega, HA.out.2.1, HA.out.1⟩
     ·have := HT8.out.2.2.1; simp only [dep, depL]; omega
     ·have := HT8.out.2.2.2; simp only [nds, ndsL]; omega
end
end Go.Proofs.YtpgdijbfkahepaaGreatDoor
