/- Contracts, packed: Qp. -/
import Derived.Test.YtpgdijbfkahepaaGreatDoorPd14
set_option linter.unusedVariables false
set_option linter.unusedSimpArgs false
namespace Go.Proofs.YtpgdijbfkahepaaGreatDoor
section
open Go.RowKit FracM
def WinOk (fn win most : Int) : Prop := (fn = 0 ∧ win = 0) ∨ (fn ≠ 0 ∧ 1 ≤ win ∧ win ≤ most)
def KOk (fn win k : Int) : Prop := (fn ≠ 7 ∧ k = 0) ∨ (fn = 7 ∧ 1 ≤ k ∧ k ≤ win)
theorem cells1 (w : World) (t : TypeId) (v0 : Value) : ∀ j u, [v0][j]? = some u → (w.alloc (.cells #[v0] t)).cell? ((⟨w.heap.size, 0, none⟩ : Addr).add j) = some u := by
 intro j u hj
 match j, hj with
 | 0, hj => simp at hj; subst hj; simp [Addr.add]
 | j + 1, hj => simp at hj
set_option maxHeartbeats 4000000 in
set_option maxRecDepth 100000 in
theorem selection_any (g : Nat) (lv nv : Value) (l : List Int) (ns : List ByteArray) (most i : Int) (w : World) (h : GenAt w g i lv nv l ns most) (hi : 0 ≤ i) (hi2 : i ≤ 900000) (hns : 1 ≤ ns.length) (hns2 : ns.length ≤ 1000) (hm : 1 ≤ most) (hm2 : most ≤ 4096) (hok : NamesOk ns) :
    Calls Tryz.prog 51 #[.pointer (some ⟨g, 0, none⟩)] w (RetTree g lv nv l ns most i 1 1 30 w) := by
  have hgs := h.blk.lt
  have HG := Box.mk (h.below (bel1 w (.cells zeroC 35)))
  have HR : Box (Blk (w.alloc (.cells zeroC 35)) w.heap.size 35 zeroC) := ⟨Blk.new _ _ _⟩
  have HB := Box.mk (bel1 w (.cells zeroC 35))
  have hz : (w.alloc (.cells zeroC 35)).heap.size = w.heap.size + 1 := by simp
  clear h
  go_enter Tryz.func51, Tryz.ntmps51
  go_upto_region 1 with (fail)
  generalize w.alloc (.cells zeroC 35) = W at *
  have HZ := Box.mk hz; clear hz
  obtain ⟨d0, d1, d2, d3⟩ := HG.out.c
  clear d0 d1 d3
  obtain ⟨A, c, rfl, -⟩ := HG.out.strs.form
  obtain ⟨q1, q2⟩ := pick_bd l (i + 1) ns.length (by omega)
  obtain ⟨p1, p2⟩ := pick_bd l i 8 (by omega)
  obtain ⟨x, hx⟩ : ∃ x, ns[(pickZ l (i + 1) ns.length).toNat]? = some x := ⟨ns[(pickZ l (i + 1) ns.length).toNat]'(by omega), List.getElem?_eq_getElem _⟩
  obtain ⟨b, off, rfl, hb, ⟨z, hpb⟩, hc⟩ := HG.out.strs.at1b _ (.string x) (by rw [List.getElem?_map, hx]; rfl)
  have HX : Box (x ∈ ns) := ⟨List.mem_of_getElem? hx⟩
  have HPB : Box (b < g) := ⟨hpb⟩
  clear hx hpb
  have HP : Box (Pre g w W) := ⟨⟨Only.of_below HB.out, HR.out⟩⟩
  have hgW : W.heap.size ≠ g := by have := HZ.out; omega
  have hi3 : i ≤ 1000000 := by omega
  have hi4 : 0 ≤ i + 1 := by omega
  have hi5 : i + 1 ≤ 1000000 := by omega
  have h81 : (1 : Int) ≤ 8 := by omega
  have h82 : (8 : Int) ≤ 9223372036854775807 := by omega
  have hn1 : (1 : Int) ≤ ns.length := by omega
  have hn2 : (ns.length : Int) ≤ 9223372036854775807 := by omega
  go_cut [3] (fun p wx => ∃ o fn nm, p = .pointer (some ⟨o, 0, none⟩) ∧ nm ∈ ns ∧ 0 ≤ fn ∧ fn < 8 ∧ Sel g o w wx (i + 2) lv (.slice (some ⟨b, off, none⟩) ns.length c) l ns most ⟨1, fn, 0, 0, 0, 0, 0, nm, [], []⟩ nilV nilV nilV)
  case first =>
    go_region_held3  (fun w' => w'.cell? ⟨g, 2, none⟩ = some (.slice (some ⟨b, off, none⟩) ns.length c) ∧ w'.cell? ⟨b, off + (pickZ l (i + 1) ns.length).toNat, none⟩ = some (.string x)) (first | with_reducible exact HK2.out | with_reducible exact ⟨cell_alloc' _ HK2.out.1, cell_alloc' _ HK2.out.2⟩ | with_reducible exact HK1.out | with_reducible exact ⟨cell_alloc' _ HK1.out.1, cell_alloc' _ HK1.out.2⟩ | with_reducible exact ⟨cell_allocd' _ HK1.out.1, cell_allocd' _ HK1.out.2⟩ | with_reducible exact ⟨cell_allocd' _ d2, cell_allocd' _ hc⟩ | with_reducible exact ⟨cell_alloc' _ d2, cell_alloc' _ hc⟩ | with_reducible exact ⟨cell_put11 HK2.out.1 HN2.out.1, cell_put11 HK2.out.2 HN2.out.2⟩ | go_keep)
      (first
        | (go_at_call 50
           (with_reducible refine (next_any g lv (.slice (some ⟨b, off, none⟩) ns.length c) l ns most i 8 _ ?_ hi hi3 h81 h82).mono ?_)
           (first | with_reducible exact HG.out.drew | with_reducible exact HG.out.allocd _ | with_reducible exact HG.out.alloc _)
           rintro e w1 ⟨rfl, hg1, hs1⟩
           (first | (have HO1 : Box (Blk w1 W.heap.size 35 zeroC) := Box.mk (hs1.only.blk (by first | with_reducible exact Blk.new _ _ _ | with_reducible exact (Blk.new _ _ _).drew) hgW)) | skip)
           have HG1 := Box.mk hg1
           have HP1 : Box (Pre g w w1) := Box.mk (by first | with_reducible exact HP.out.drew.next hgs hs1.only | with_reducible exact (HP.out.alloc _).drew.next hgs hs1.only | with_reducible exact (HP.out.alloc _).next hgs hs1.only)
           have HS1 := Box.mk hs1
           have HK1 : Box (w1.cell? ⟨g, 2, none⟩ = some (.slice (some ⟨b, off, none⟩) ns.length c) ∧ w1.cell? ⟨b, off + (pickZ l (i + 1) ns.length).toNat, none⟩ = some (.string x)) := ⟨hg1.c.2.2.1, only_at' hs1.only HPB.out (by first | with_reducible exact hc | with_reducible exact cell_drew hc | with_reducible exact cell_allocd' _ hc | with_reducible exact cell_alloc' _ hc)⟩
           clear hg1 hs1)
        | (go_at_call 50
           (with_reducible refine (next_any g lv (.slice (some ⟨b, off, none⟩) ns.length c) l ns most (i + 1) ns.length _ ?_ hi4 hi5 hn1 hn2).mono ?_)
           (first | with_reducible exact HG1.out | with_reducible exact HG1.out.drew | with_reducible exact HG1.out.allocd _ | with_reducible exact HG1.out.alloc _)
           rintro e w2 ⟨rfl, hg2, hs2⟩
           (first
             | (have HO2 : Box (Blk w2 W.heap.size 35 zeroC) := Box.mk (hs2.only.blk HO1.out hgW)
                have HN2 : Box (g ≠ W.heap.size ∧ b ≠ W.heap.size) := ⟨Ne.symm hgW, Nat.ne_of_lt hb⟩
                obtain ⟨o0, o1, o2, o3, o4, o5, o6, o7, o8, o9, o10⟩ := blk11 HO2.out
                simp only [Nat.zero_add] at o1 o2 o3 o4 o5 o6 o7 o8 o9 o10
                have of := HO2.out.frozen)
             | (have HO2 : Box (Blk w2 w1.heap.size 35 zeroC) := Box.mk (hs2.only.blk (by first | with_reducible exact Blk.new _ _ _ | with_reducible exact (Blk.new _ _ _).drew) (Ne.symm (Nat.ne_of_lt (cell_lt HK1.out.1))))
                have HN2 : Box (g ≠ w1.heap.size ∧ b ≠ w1.heap.size) := ⟨Nat.ne_of_lt (cell_lt HK1.out.1), Nat.ne_of_lt (cell_lt HK1.out.2)⟩
                obtain ⟨o0, o1, o2, o3, o4, o5, o6, o7, o8, o9, o10⟩ := blk11 HO2.out
                simp only [Nat.zero_add] at o1 o2 o3 o4 o5 o6 o7 o8 o9 o10
                have of := HO2.out.frozen)
             | skip)
           have HG2 := Box.mk hg2
           have HP2 : Box (Pre g w w2) := Box.mk (by first | with_reducible exact HP1.out.next hgs hs2.only | with_reducible exact HP1.out.drew.next hgs hs2.only | with_reducible exact (HP1.out.alloc _).drew.next hgs hs2.only | with_reducible exact (HP1.out.alloc _).next hgs hs2.only)
           have HG2' : Box (GenAt w2 g (i + 2) lv (.slice (some ⟨b, off, none⟩) ns.length c) l ns most) := ⟨by have h := hg2; rw [show i + 1 + 1 = i + 2 by omega] at h; exact h⟩
           have HS2 := Box.mk hs2
           have HK2 : Box (w2.cell? ⟨g, 2, none⟩ = some (.slice (some ⟨b, off, none⟩) ns.length c) ∧ w2.cell? ⟨b, off + (pickZ l (i + 1) ns.length).toNat, none⟩ = some (.string x)) := ⟨hg2.c.2.2.1, only_at' hs2.only HPB.out (by first | with_reducible exact HK1.out.2 | with_reducible exact cell_drew HK1.out.2 | with_reducible exact cell_alloc' _ HK1.out.2 | with_reducible exact cell_allocd' _ HK1.out.2)⟩
           clear hg2 hs2))
    · go_wp2_with fail
      go_meet
      exact ⟨w2.heap.size, pickZ l i 8, x, rfl, HX.out, p1, p2, (HP2.out.alloc _).sel (Blk.new _ _ _) HP2.out.R.lt (HG2'.out.alloc _)⟩
    · go_wp2_with fail
      go_meet
      exact ⟨w1.heap.size, pickZ l i 8, x, rfl, HX.out, p1, p2, (HP2.out.sel HO2.out HP1.out.R.lt HG2'.out).fill (d' := ⟨1, pickZ l i 8, 0, 0, 0, 0, 0, x, [], []⟩) hgs⟩
    · go_wp2_with fail
      go_meet
      exact ⟨W.heap.size, pickZ l i 8, x, rfl, HX.out, p1, p2, (HP2.out.sel HO2.out HP.out.R.lt HG2'.out).fill (d' := ⟨1, pickZ l i 8, 0, 0, 0, 0, 0, x, [], []⟩) hgs⟩
  case rest =>
    obtain ⟨o, fn, nm, rfl, hnm, hf1, hf2, hS⟩ := hcut
    rename World => wd
    have HS := Box.mk hS
    have HNM := Box.mk hnm
    clear hS hnm HG HR HB HZ d2 hb hc HX HPB HP hgW p1 p2 q1 q2 hi3 hi4 hi5 h81 h82 hn1 hn2
    have hm3 : most ≤ 9223372036854775807 := by omega
    have h21 : (1 : Int) ≤ 2 := by omega
    have h22 : (2 : Int) ≤ 9223372036854775807 := by omega
    obtain ⟨c0, c1, c2, c3, c4, c5, c6, c7, c8, c9, c10⟩ := HS.out.c
    simp only [Nat.zero_add] at c1 c2 c3 c4 c5 c6 c7 c8 c9 c10
    have cf := HS.out.blk.frozen
    obtain ⟨d0, d1, d2, d3⟩ := HS.out.gen.c
    go_upto_if 24 with (fail)
    go_cut [] (fun wx => ∃ (win i' : Int), WinOk fn win most ∧ i ≤ i' ∧ i' ≤ i + 10 ∧ Sel g o w wx i' lv (.slice (some ⟨b, off, none⟩) ns.length c) l ns most ⟨1, fn, win, 0, 0, 0, 0, nm, [], []⟩ nilV nilV nilV)
    case first =>
      by_cases h0 : fn = 0
      · subst h0
        go_wp2_with fail
        go_meet
        exact ⟨0, i + 2, .inl ⟨rfl, rfl⟩, by omega, by omega, HS.out⟩
      · have h1 : (fn != 0) = true := by simpa using h0
        have h2 : (fn == 0) = false := by simpa using h0
        go_wp2_with fail
        (with_reducible refine (next_any g lv (.slice (some ⟨b, off, none⟩) ns.length c) l ns most (i + 2) most _ HS.out.gen (by omega) (by omega) hm hm3).mono ?_)
        rintro e w3 ⟨rfl, hg9, hs9⟩
        have HS3 := Box.mk (HS.out.next hgs hs9.only hg9)
        clear hg9 hs9
        clear c0 c1 c2 c3 c4 c5 c6 c7 c8 c9 c10 cf d0 d1 d2 d3
        obtain ⟨r1_w3, r2_w3⟩ := pick_bd l (i + 2) most hm
        obtain ⟨c0, c1, c2, c3, c4, c5, c6, c7, c8, c9, c10⟩ := HS3.out.c
        simp only [Nat.zero_add] at c1 c2 c3 c4 c5 c6 c7 c8 c9 c10
        have cf := HS3.out.blk.frozen
        obtain ⟨d0, d1, d2, d3⟩ := HS3.out.gen.c
        go_wp2_with fail
        go_meet
        exact ⟨1 + pickZ l (i + 2) most, i + 2 + 1, .inr ⟨h0, by omega, by omega⟩, by omega, by omega, HS3.out.set hgs 2 _ rfl⟩
    case rest =>
      clear HS
      clear c0 c1 c2 c3 c4 c5 c6 c7 c8 c9 c10 cf d0 d1 d2 d3
      obtain ⟨win, i1, hw, hi1, hi2', hS⟩ := hcut
      rename World => wd
      have HS := Box.mk hS
      have HW := Box.mk hw
      clear hS hw
      obtain ⟨c0, c1, c2, c3, c4, c5, c6, c7, c8, c9, c10⟩ := HS.out.c
      simp only [Nat.zero_add] at c1 c2 c3 c4 c5 c6 c7 c8 c9 c10
      have cf := HS.out.blk.frozen
      obtain ⟨d0, d1, d2, d3⟩ := HS.out.gen.c
      go_upto_if 35 with (fail)
      go_cut [] (fun wx => ∃ (k i' : Int), KOk fn win k ∧ i ≤ i' ∧ i' ≤ i + 11 ∧ Sel g o w wx i' lv (.slice (some ⟨b, off, none⟩) ns.length c) l ns most ⟨1, fn, win, 0, k, 0, 0, nm, [], []⟩ nilV nilV nilV)
      case first =>
        by_cases h0 : fn = 7
        · subst h0
          have hw1 : 1 ≤ win ∧ win ≤ most := by have := HW.out; unfold WinOk at this; omega
          obtain ⟨hw1, hw2⟩ := hw1
          have hw3 : win ≤ 9223372036854775807 := by omega
          go_wp2_with fail
          (with_reducible refine (next_any g lv (.slice (some ⟨b, off, none⟩) ns.length c) l ns most i1 win _ HS.out.gen (by omega) (by omega) hw1 hw3).mono ?_)
          rintro e w3 ⟨rfl, hg9, hs9⟩
          have HS3 := Box.mk (HS.out.next hgs hs9.only hg9)
          clear hg9 hs9
          clear c0 c1 c2 c3 c4 c5 c6 c7 c8 c9 c10 cf d0 d1 d2 d3
          obtain ⟨r1_w3, r2_w3⟩ := pick_bd l i1 win hw1
          obtain ⟨c0, c1, c2, c3, c4, c5, c6, c7, c8, c9, c10⟩ := HS3.out.c
          simp only [Nat.zero_add] at c1 c2 c3 c4 c5 c6 c7 c8 c9 c10
          have cf := HS3.out.blk.frozen
          obtain ⟨d0, d1, d2, d3⟩ := HS3.out.gen.c
          go_wp2_with fail
          go_meet
          exact ⟨1 + pickZ l i1 win, i1 + 1, .inr ⟨rfl, by omega, by omega⟩, by omega, by omega, HS3.out.set hgs 4 _ rfl⟩
        · have h1 : (fn != 7) = true := by simpa using h0
          have h2 : (fn == 7) = false := by simpa using h0
          go_wp2_with fail
          go_meet
          exact ⟨0, i1, .inl ⟨h0, rfl⟩, by omega, by omega, HS.out⟩
      case rest =>
        clear HS hi1 hi2'
        clear c0 c1 c2 c3 c4 c5 c6 c7 c8 c9 c10 cf d0 d1 d2 d3
        obtain ⟨k, i2, hk, hi1, hi2', hS⟩ := hcut
        rename World => wd
        have HS := Box.mk hS
        have HK := Box.mk hk
        clear hS hk
        obtain ⟨c0, c1, c2, c3, c4, c5, c6, c7, c8, c9, c10⟩ := HS.out.c
        simp only [Nat.zero_add] at c1 c2 c3 c4 c5 c6 c7 c8 c9 c10
        have cf := HS.out.blk.frozen
        obtain ⟨d0, d1, d2, d3⟩ := HS.out.gen.c
        go_wp2_with fail
        (with_reducible refine (next_any g lv (.slice (some ⟨b, off, none⟩) ns.length c) l ns most i2 2 _ HS.out.gen (by omega) (by omega) h21 h22).mono ?_)
        rintro e w3 ⟨rfl, hg9, hs9⟩
        have HS3 := Box.mk (HS.out.next hgs hs9.only hg9)
        clear hg9 hs9
        clear c0 c1 c2 c3 c4 c5 c6 c7 c8 c9 c10 cf d0 d1 d2 d3
        obtain ⟨r1_w3, r2_w3⟩ := pick_bd l i2 2 h21
        obtain ⟨c0, c1, c2, c3, c4, c5, c6, c7, c8, c9, c10⟩ := HS3.out.c
        simp only [Nat.zero_add] at c1 c2 c3 c4 c5 c6 c7 c8 c9 c10
        have cf := HS3.out.blk.frozen
        obtain ⟨d0, d1, d2, d3⟩ := HS3.out.gen.c
        go_upto_if 44 with (fail)
        go_cut [] (fun wx => ∃ (of i' : Int), 0 ≤ of ∧ of ≤ most ∧ i ≤ i' ∧ i' ≤ i + 13 ∧ Sel g o w wx i' lv (.slice (some ⟨b, off, none⟩) ns.length c) l ns most ⟨1, fn, win, of, k, 0, 0, nm, [], []⟩ nilV nilV nilV)
        case first =>
          by_cases hq : pickZ l i2 2 = 1
          · have hq1 : (pickZ l i2 2 == 1) = true := by simpa using hq
            have hq2 : (pickZ l i2 2 != 1) = false := by simpa using hq
            have hm4 : 1 ≤ most + 1 := by omega
            have hm5 : most + 1 ≤ 9223372036854775807 := by omega
            go_wp2_with fail
            (with_reducible refine (next_any g lv (.slice (some ⟨b, off, none⟩) ns.length c) l ns most (i2 + 1) (most + 1) _ HS3.out.gen (by omega) (by omega) hm4 hm5).mono ?_)
            rintro e w4 ⟨rfl, hg9, hs9⟩
            have HS4 := Box.mk (HS3.out.next hgs hs9.only hg9)
            clear hg9 hs9
            clear c0 c1 c2 c3 c4 c5 c6 c7 c8 c9 c10 cf d0 d1 d2 d3
            obtain ⟨r1_w4, r2_w4⟩ := pick_bd l (i2 + 1) (most + 1) hm4
            obtain ⟨c0, c1, c2, c3, c4, c5, c6, c7, c8, c9, c10⟩ := HS4.out.c
            simp only [Nat.zero_add] at c1 c2 c3 c4 c5 c6 c7 c8 c9 c10
            have cf := HS4.out.blk.frozen
            obtain ⟨d0, d1, d2, d3⟩ := HS4.out.gen.c
            go_wp2_with fail
            go_meet
            exact ⟨pickZ l (i2 + 1) (most + 1), i2 + 1 + 1, by omega, by omega, by omega, by omega, HS4.out.set hgs 3 _ rfl⟩
          · have hq1 : (pickZ l i2 2 == 1) = false := by simpa using hq
            have hq2 : (pickZ l i2 2 != 1) = true := by simpa using hq
            go_wp2_with fail
            go_meet
            exact ⟨0, i2 + 1, by omega, by omega, by omega, by omega, HS3.out⟩
        case rest =>
          clear HS HS3 hi1 hi2'
          clear c0 c1 c2 c3 c4 c5 c6 c7 c8 c9 c10 cf d0 d1 d2 d3
          clear r1_w3 r2_w3
          obtain ⟨of, i3, ho1, ho2, hi1, hi2', hS⟩ := hcut
          rename World => wd
          have HS := Box.mk hS
          clear hS
          obtain ⟨c0, c1, c2, c3, c4, c5, c6, c7, c8, c9, c10⟩ := HS.out.c
          simp only [Nat.zero_add] at c1 c2 c3 c4 c5 c6 c7 c8 c9 c10
          have cf := HS.out.blk.frozen
          obtain ⟨d0, d1, d2, d3⟩ := HS.out.gen.c
          go_wp2_with fail
          (with_reducible refine (next_any g lv (.slice (some ⟨b, off, none⟩) ns.length c) l ns most i3 2 _ HS.out.gen (by omega) (by omega) h21 h22).mono ?_)
          rintro e w3 ⟨rfl, hg9, hs9⟩
          have HS3 := Box.mk (HS.out.next hgs hs9.only hg9)
          clear hg9 hs9
          clear c0 c1 c2 c3 c4 c5 c6 c7 c8 c9 c10 cf d0 d1 d2 d3
          obtain ⟨r1_w3, r2_w3⟩ := pick_bd l i3 2 h21
          obtain ⟨c0, c1, c2, c3, c4, c5, c6, c7, c8, c9, c10⟩ := HS3.out.c
          simp only [Nat.zero_add] at c1 c2 c3 c4 c5 c6 c7 c8 c9 c10
          have cf := HS3.out.blk.frozen
          obtain ⟨d0, d1, d2, d3⟩ := HS3.out.gen.c
          go_upto_if 55 with (fail)
          go_cut [] (fun wx => ∃ (ms : List Mat) (mv : Value) (i' : Int), ms.length ≤ 3 ∧ (∀ m ∈ ms, GoodMat m) ∧ (∃ L : Nat → Nat, OwnP wx (fun b e => w.heap.size < b ∧ e = L b) 75 3 mv ms.length (ms.flatMap matCells)) ∧ i ≤ i' ∧ i' ≤ i + 30 ∧ Sel g o w wx i' lv (.slice (some ⟨b, off, none⟩) ns.length c) l ns most ⟨1, fn, win, of, k, 0, 0, nm, ms, []⟩ mv nilV nilV)
          case first =>
            by_cases hq : pickZ l i3 2 = 1
            · have hq1 : (pickZ l i3 2 == 1) = true := by simpa using hq
              rw [hq1]
              have hoz := HS3.out.blk.lt
              have hnw := HS3.out.new
              have h101 : (1 : Int) ≤ 1000 := by omega
              have h102 : (1000 : Int) ≤ 9223372036854775807 := by omega
              go_wp2_with fail
              clear hq hq1
              clear c0 c1 c2 c3 c4 c5 c6 c7 c8 c9 c10 cf d0 d1 d2 d3
              go_loopw [4, 5] (fun v z wr => ∃ (n : Nat) (xs : List Int), n ≤ 10 ∧ z = .int .i64 n ∧ xs.length = n ∧ (∀ x ∈ xs, 0 ≤ x ∧ x < 1000) ∧ wr.ownsRow w3.heap.size 3 1 v n (xs.map (Value.int .i64)) ∧ w3.heap.size ≤ wr.heap.size ∧ Sel g o w wr (i3 + 1 + n) lv (.slice (some ⟨b, off, none⟩) ns.length c) l ns most ⟨1, fn, win, of, k, 0, 0, nm, [], []⟩ nilV nilV nilV) (fun _ z _ => (10 - intOf z).toNat)
              case atStart => exact ⟨0, [], by omega, rfl, rfl, fun x hx => by simp at hx, World.ownsRow_nil _ _ _ _, Nat.le_refl _, by simpa using HS3.out⟩
              case round =>
                obtain ⟨n, xs, hn, rfl, hln, hxs, hown, hsz, hS⟩ := hrel
                clear HS3
                have HS4 := Box.mk hS
                have HO := Box.mk hown
                have HL := Box.mk hln
                have HXS := Box.mk hxs
                clear hS hown hln hxs
                by_cases hlt : n < 10
                · have hlt2 : (n : Int) < 10 := by omega
                  obtain ⟨j0, hj, hy0, hy1, hy2⟩ := info_parts intInfo
                  have HJ := Box.mk (And.intro hj (And.intro hy0 (And.intro hy1 hy2)))
                  clear hj hy0 hy1 hy2
                  go_wp2_with fail
                  (with_reducible refine (next_any g lv (.slice (some ⟨b, off, none⟩) ns.length c) l ns most (i3 + 1 + n) 1000 _ HS4.out.gen (by omega) (by omega) h101 h102).mono ?_)
                  rintro e w5 ⟨rfl, hg9, hs9⟩
                  have hs9' := Box.mk hs9
                  have hz5 : w3.heap.size ≤ w5.heap.size := by rw [hs9.size]; exact hsz
                  have HS5 := Box.mk (HS4.out.next hgs hs9.only hg9)
                  clear hg9 hs9
                  skip
                  obtain ⟨r1_w5, r2_w5⟩ := pick_bd l (i3 + 1 + n) 1000 h101
                  have HO5 := Box.mk (own_only (w' := w5) HO.out hs9'.out.only (by omega))
                  clear HO
                  go_wp2_with (at_builtin; refine wpList_append_lies _ rfl _ _ 22 rfl w3.heap.size 3 j0 _ 1 8 Tryz.underlying22 HJ.out.1 HJ.out.2.1 HJ.out.2.2.1 HJ.out.2.2.2 rfl (by decide) u4 n (xs.map (Value.int .i64)) rfl (by exact HO5.out.alloc _) ⟨w5.heap.size, 0, none⟩ 1 1 [.int .i64 (pickZ l (i3 + 1 + n) 1000)] rfl rfl (cells1 _ _ _) (by intro u hu; simp at hu; subst hu; rfl) (by decide) (by unfold maxLen; omega) (by omega) (by simp; omega) _ rfl ?_; intro g8 cap8 w6 hown6 hg6 hat6 hlt6)
                  have HFIN : Box (w6.ownsRow w3.heap.size 3 1 (.slice (some ⟨g8, 0, none⟩) (n + 1) cap8) (n + 1) ((xs ++ [pickZ l (i3 + 1 + n) 1000]).map (Value.int .i64))) := ⟨by simpa using hown6⟩
                  have HB6 : Box (Below w3.heap.size w5 w6) := ⟨((Below.refl _ _).alloc (by omega) _).trans (grow_lt (HO5.out.alloc _) hg6 (by simp; omega))⟩
                  have hz6 := HB6.out.size
                  clear hown6 hg6 hat6 hlt6
                  go_wp2_with fail
                  go_roundw
                  case rel =>
                    refine ⟨n + 1, xs ++ [pickZ l (i3 + 1 + n) 1000], by omega, by go_num, by simp [HL.out], fun x hx => ?_, HFIN.out, by omega, ?_⟩
                    · rcases List.mem_append.1 hx with hx | hx
                      · exact HXS.out x hx
                      · simp at hx; subst hx; exact ⟨r1_w5, r2_w5⟩
                    · rw [show i3 + 1 + ((n + 1 : Nat) : Int) = i3 + 1 + n + 1 by omega]
                      exact HS5.out.from_ hgs hoz HB6.out
                  case measure => simp [intOf]; omega
                · obtain rfl : n = 10 := by omega
                  obtain ⟨A2, c2', hv2⟩ := own_form HO.out
                  have HI : Box (Ints wr wr.heap.size (.slice A2 10 c2') xs) := ⟨⟨by have := Seq.of_own (base' := wr.heap.size) HO.out; rw [hv2] at this; rw [HL.out]; exact this, fun x hx => by have := HXS.out x hx; unfold I64; omega⟩⟩
                  have HV := Box.mk hv2
                  subst hv2
                  go_wp2_with fail
                  refine (matchers_own _ _ _ _ xs _ HI.out (Nat.le_refl _)).mono ?_
                  rintro e w7 ⟨ms, A7, n7, cc7, rfl, hown7, hl7, hgd7, hb7⟩
                  have HS7 := Box.mk (HS4.out.below hgs hb7)
                  have HM7 := Box.mk (And.intro hl7 hgd7)
                  have HO7 := Box.mk hown7
                  clear hown7 hl7 hgd7 hb7
                  obtain ⟨c0, c1, c2, c3, c4, c5, c6, c7, c8, c9, c10⟩ := HS7.out.c
                  simp only [Nat.zero_add] at c1 c2 c3 c4 c5 c6 c7 c8 c9 c10
                  have cf := HS7.out.blk.frozen
                  obtain ⟨d0, d1, d2, d3⟩ := HS7.out.gen.c
                  go_wp2_with fail
                  go_meet
                  refine ⟨ms, (.slice A7 n7 cc7), i3 + 1 + 10, HM7.out.1, HM7.out.2, ⟨fun b => 0 + ms.length * 3, ?_⟩, by omega, by omega, ?_⟩
                  · refine ((OwnP.of_own HO7.out (P := fun b e => wr.heap.size ≤ b ∧ e = 0 + ms.length * 3) fun b c hb _ => ⟨hb, rfl⟩).keep (AgreeB.of_only (Only.setCell 8 _) fun b e hp => ?_)).mono fun b e _ hp => ⟨?_, hp.2⟩
                    · have := hp.1; omega
                    · have := hp.1; omega
                  · exact HS7.out.set hgs 8 _ rfl
            · have hq1 : (pickZ l i3 2 == 1) = false := by simpa using hq
              have hq2 : (pickZ l i3 2 != 1) = true := by simpa using hq
              go_wp2_with fail
              go_meet
              exact ⟨[], nilV, i3 + 1, by simp, fun m hm => by simp at hm, ⟨fun _ => 0, OwnP.nil _ _ _ _⟩, by omega, by omega, HS3.out⟩
          case rest =>
            clear HS HS3 hi1 hi2'
            (try clear c0 c1 c2 c3 c4 c5 c6 c7 c8 c9 c10 cf d0 d1 d2 d3)
            obtain ⟨ms, mv, i4, hl, hgd, hseq, hi1, hi2', hS⟩ := hcut
            rename World => wd
            have HS := Box.mk hS
            obtain ⟨L8, hseq⟩ := hseq
            obtain ⟨A8, cc8, rfl, -⟩ := hseq.seq.form
            have HM := Box.mk (And.intro hl (And.intro hgd hseq))
            clear hS hl hgd hseq
            obtain ⟨c0, c1, c2, c3, c4, c5, c6, c7, c8, c9, c10⟩ := HS.out.c
            simp only [Nat.zero_add] at c1 c2 c3 c4 c5 c6 c7 c8 c9 c10
            have cf := HS.out.blk.frozen
            obtain ⟨d0, d1, d2, d3⟩ := HS.out.gen.c
            obtain ⟨z0, z1, z2, z3, z4, z5, z6, z7, z8, z9, z10⟩ := blk11 HS.out.R
            simp only [Nat.zero_add] at z1 z2 z3 z4 z5 z6 z7 z8 z9 z10
            have zf := HS.out.R.frozen
            go_wp2_with fail
            have hrz := HS.out.R.lt
            have HF : Box (Blk (put11 wd w.heap.size (.int .i64 1) (.int .i64 fn) (.int .i64 win) (.int .i64 of) (.int .i64 k) (.int .i64 0) (.int .i64 0) (.string nm) (.slice A8 ms.length cc8) nilV nilV) w.heap.size 35 (ndC ⟨1, fn, win, of, k, 0, 0, nm, ms, []⟩ (.slice A8 ms.length cc8) nilV nilV)) := ⟨put11_blk HS.out.R⟩
            have HA : Box (Only g w (put11 wd w.heap.size (.int .i64 1) (.int .i64 fn) (.int .i64 win) (.int .i64 of) (.int .i64 k) (.int .i64 0) (.int .i64 0) (.string nm) (.slice A8 ms.length cc8) nilV nilV) ∧ GenAt (put11 wd w.heap.size (.int .i64 1) (.int .i64 fn) (.int .i64 win) (.int .i64 of) (.int .i64 k) (.int .i64 0) (.int .i64 0) (.string nm) (.slice A8 ms.length cc8) nilV nilV) g i4 lv (.slice (some ⟨b, off, none⟩) ns.length c) l ns most ∧ OwnP (put11 wd w.heap.size (.int .i64 1) (.int .i64 fn) (.int .i64 win) (.int .i64 of) (.int .i64 k) (.int .i64 0) (.int .i64 0) (.string nm) (.slice A8 ms.length cc8) nilV nilV) (fun b e => w.heap.size ≤ b ∧ e = L8 b) 75 3 (.slice A8 ms.length cc8) ms.length (ms.flatMap matCells)) := ⟨HS.out.only.low_then (put11_below (Nat.le_refl _) ..), HS.out.gen.above (put11_below (by omega) ..), (HM.out.2.2.keep (AgreeB.of_only (put11_only ..) fun b e hp => by have := hp.1; omega)).mono fun b e _ hp => ⟨Nat.le_of_lt hp.1, hp.2⟩⟩
            show bodyPost _ _ _ _ _ (put11 wd w.heap.size (.int .i64 1) (.int .i64 fn) (.int .i64 win) (.int .i64 of) (.int .i64 k) (.int .i64 0) (.int .i64 0) (.string nm) (.slice A8 ms.length cc8) nilV nilV)
            generalize (put11 wd w.heap.size (.int .i64 1) (.int .i64 fn) (.int .i64 win) (.int .i64 of) (.int .i64 k) (.int .i64 0) (.int .i64 0) (.string nm) (.slice A8 ms.length cc8) nilV nilV) = WF at HF HA ⊢
            clear HS z0 z1 z2 z3 z4 z5 z6 z7 z8 z9 z10 zf
            (try clear c0 c1 c2 c3 c4 c5 c6 c7 c8 c9 c10 cf d0 d1 d2 d3)
            obtain ⟨e0, e1, e2, e3, e4, e5, e6, e7, e8, e9, e10⟩ := blk11 HF.out
            simp only [Nat.zero_add] at e1 e2 e3 e4 e5 e6 e7 e8 e9 e10
            have ef := HF.out.frozen
            refine bodyPost_ret (v := .agg (ndC ⟨1, fn, win, of, k, 0, 0, nm, ms, []⟩ (.slice A8 ms.length cc8) nilV nilV)) (by simp [results, Tryz.results51, go_sem, e0, e1, e2, e3, e4, e5, e6, e7, e8, e9, e10, ef]) rfl ?_
            have hgood : GoodN ns most ⟨1, fn, win, of, k, 0, 0, nm, ms, []⟩ 0 := .sel fn win of k nm ms hf1 hf2 HNM.out ho1 ho2 HW.out HK.out HM.out.1 HM.out.2.1
            exact ⟨.node ⟨1, fn, win, of, k, 0, 0, nm, ms, []⟩ [], (.slice A8 ms.length cc8, nilV, nilV), i4, rfl, ⟨L8, .mk _ _ _ _ _ [] (selN_ok hgood hok hm2) HA.out.2.2 (OwnP.nil _ _ _ _) rfl (OwnP.nil _ _ _ _) (fun i t c h => by simp at h)⟩, .mk _ _ hgood (fun t ht => by simp at ht), by simp [dep, depL], by simp [nds, ndsL], by omega, by omega, HA.out.2.1, HA.out.1⟩
end
end Go.Proofs.YtpgdijbfkahepaaGreatDoor
