/- Contracts, packed: Sl. -/
import Derived.Test.YtipafbppaaflcaaDoorPl24
import Derived.Test.YtipafbppaaflcaaDoorPl39
import Derived.Deep.CutBlock
set_option linter.unusedVariables false
set_option linter.unusedSimpArgs false
namespace Go.Proofs.YtipafbppaaflcaaDoor
section
open Go.RowKit FracM
theorem cells11 (w : World) (t : TypeId) (x : Tree × Sl) : ∀ j u, (ndL x)[j]? = some u → (w.alloc (.cells (ndC x.1.d x.2.1 x.2.2.1 x.2.2.2) t)).cell? ((⟨w.heap.size, 0, none⟩ : Addr).add j) = some u := by
 intro j u hj
 rw [Addr.add_lit, Nat.zero_add]
 have := (Blk.new w (ndC x.1.d x.2.1 x.2.2.1 x.2.2.2) t)
 unfold Blk at this
 simp only [World.cell?, this]
 simpa [ndL] using hj
set_option maxHeartbeats 8000000 in
set_option maxRecDepth 100000 in
theorem changed_easy (d : Nd) (ks : List Tree) (mv bv kv : Value) (wh v : Int) (B H : Nat) (L : Nat → Nat) (w : World)
  (hT : TreeG w (fun b e => B ≤ b ∧ b < H ∧ e = L b) (.node d ks) (mv, bv, kv)) (hH : H ≤ w.heap.size)
  (w1 : -9223372036854775808 ≤ wh) (w2 : wh ≤ 9223372036854775807) (v1 : -9223372036854775808 ≤ v) (v2 : v ≤ 9223372036854775807)
  (hq9 : around wh 12 ≠ 9) (hq10 : around wh 12 ≠ 10) (hl1 : d.ms.length ≤ 1000) (hl2 : d.bys.length ≤ 1000) (hl3 : ks.length ≤ 1000) :
  Calls Tryd.prog 33 #[.agg (ndC d mv bv kv), .int .i64 wh, .int .i64 v] w (RetSp B H L (.node d ks) w) := by
 obtain ⟨A1, n1, rfl, l1⟩ := hT.tree.nod.ms.form
 obtain ⟨A2, n2, rfl, l2⟩ := hT.tree.nod.bys.form
 obtain ⟨A3, n3, rfl, l3⟩ := hT.tree.nod.kform
 have HT := Box.mk hT
 have HOK := Box.mk hT.tree.nod.ok
 have HC := Box.mk (Ch.start w B H L d (.slice A1 d.ms.length n1) (.slice A2 d.bys.length n2) (.slice A3 ks.length n3))
 have HB0 := Box.mk (bel2 w (.cells (ndC d (.slice A1 d.ms.length n1) (.slice A2 d.bys.length n2) (.slice A3 ks.length n3)) 29) (.cells zeroC 29))
 clear hT
 go_enter Tryd.func33, Tryd.ntmps33
 go_upto_region 1 with (fail)
 generalize (w.alloc (.cells (ndC d _ _ _) 29)).alloc (.cells _ 29) = W at HC HB0 ⊢
 go_upto_block 0 with (go_at_call 17; refine (around_any _ _ _ (by omega) (by omega) (by omega) (by omega)).mono ?_; rintro e w' ⟨rfl, rfl⟩)
 go_cut [] (fun wx => ChPost w B H L (.node d ks) wx)
 case first =>
  obtain ⟨c0, c1, c2, c3, c4, c5, c6, c7, c8, c9, c10⟩ := blk11 HC.out.e
  simp only [Nat.zero_add] at c1 c2 c3 c4 c5 c6 c7 c8 c9 c10
  have cf := HC.out.e.frozen
  have hlt := HC.out.e.lt
  have hq := around_bd wh 12 (by omega)
  generalize around wh 12 = q at *
  have hqq : q = 0 ∨ q = 1 ∨ q = 2 ∨ q = 3 ∨ q = 4 ∨ q = 5 ∨ q = 6 ∨ q = 7 ∨ q = 8 ∨ q = 9 ∨ q = 10 ∨ q = 11 := by omega
  clear hq w1 w2
  rcases hqq with rfl | rfl | rfl | rfl | rfl | rfl | rfl | rfl | rfl | rfl | rfl | rfl
  ·go_wp2_with fail
   go_meet
   exact ch_field (HC.out.set 0 (.int .i64 v) (d' := { d with kind := v }) rfl) HT.out rfl rfl ⟨⟨⟨v1, v2⟩, HOK.out.ints.2.1, HOK.out.ints.2.2.1, HOK.out.ints.2.2.2.1, HOK.out.ints.2.2.2.2.1, HOK.out.ints.2.2.2.2.2.1, HOK.out.ints.2.2.2.2.2.2⟩, HOK.out.name, HOK.out.ms, HOK.out.bys⟩
  ·go_wp2_with fail
   go_meet
   exact ch_field (HC.out.set 1 (.int .i64 v) (d' := { d with fn := v }) rfl) HT.out rfl rfl ⟨⟨HOK.out.ints.1, ⟨v1, v2⟩, HOK.out.ints.2.2.1, HOK.out.ints.2.2.2.1, HOK.out.ints.2.2.2.2.1, HOK.out.ints.2.2.2.2.2.1, HOK.out.ints.2.2.2.2.2.2⟩, HOK.out.name, HOK.out.ms, HOK.out.bys⟩
  ·go_wp2_with fail
   go_meet
   exact ch_field (HC.out.set 2 (.int .i64 v) (d' := { d with win := v }) rfl) HT.out rfl rfl ⟨⟨HOK.out.ints.1, HOK.out.ints.2.1, ⟨v1, v2⟩, HOK.out.ints.2.2.2.1, HOK.out.ints.2.2.2.2.1, HOK.out.ints.2.2.2.2.2.1, HOK.out.ints.2.2.2.2.2.2⟩, HOK.out.name, HOK.out.ms, HOK.out.bys⟩
  ·go_wp2_with fail
   go_meet
   exact ch_field (HC.out.set 3 (.int .i64 v) (d' := { d with off := v }) rfl) HT.out rfl rfl ⟨⟨HOK.out.ints.1, HOK.out.ints.2.1, HOK.out.ints.2.2.1, ⟨v1, v2⟩, HOK.out.ints.2.2.2.2.1, HOK.out.ints.2.2.2.2.2.1, HOK.out.ints.2.2.2.2.2.2⟩, HOK.out.name, HOK.out.ms, HOK.out.bys⟩
  ·go_wp2_with fail
   go_meet
   exact ch_field (HC.out.set 4 (.int .i64 v) (d' := { d with k := v }) rfl) HT.out rfl rfl ⟨⟨HOK.out.ints.1, HOK.out.ints.2.1, HOK.out.ints.2.2.1, HOK.out.ints.2.2.2.1, ⟨v1, v2⟩, HOK.out.ints.2.2.2.2.2.1, HOK.out.ints.2.2.2.2.2.2⟩, HOK.out.name, HOK.out.ms, HOK.out.bys⟩
  ·go_wp2_with fail
   go_meet
   exact ch_field (HC.out.set 5 (.int .i64 v) (d' := { d with num := v }) rfl) HT.out rfl rfl ⟨⟨HOK.out.ints.1, HOK.out.ints.2.1, HOK.out.ints.2.2.1, HOK.out.ints.2.2.2.1, HOK.out.ints.2.2.2.2.1, ⟨v1, v2⟩, HOK.out.ints.2.2.2.2.2.2⟩, HOK.out.name, HOK.out.ms, HOK.out.bys⟩
  ·go_wp2_with fail
   go_meet
   exact ch_field (HC.out.set 6 (.int .i64 v) (d' := { d with den := v }) rfl) HT.out rfl rfl ⟨⟨HOK.out.ints.1, HOK.out.ints.2.1, HOK.out.ints.2.2.1, HOK.out.ints.2.2.2.1, HOK.out.ints.2.2.2.2.1, HOK.out.ints.2.2.2.2.2.1, ⟨v1, v2⟩⟩, HOK.out.name, HOK.out.ms, HOK.out.bys⟩
  ·have hj := around_bd v 6 (by omega)
   obtain ⟨j, HJ⟩ : ∃ z, Box (around v 6 = z) := ⟨_, ⟨rfl⟩⟩
   rw [HJ.out] at hj
   have hjj : j = 0 ∨ j = 1 ∨ j = 2 ∨ j = 3 ∨ j = 4 ∨ j = 5 := by omega
   clear hj
   rcases hjj with rfl | rfl | rfl | rfl | rfl | rfl
   ·go_wp2_with (go_at_call 17; refine (around_any _ _ _ (by omega) (by omega) (by omega) (by omega)).mono ?_; rintro e w' ⟨rfl, rfl⟩; rw [HJ.out])
    go_meet
    exact ch_field ((HC.out.set 7 (.string ⟨#[]⟩) (d' := { d with name := ⟨#[]⟩ }) rfl).below (bel1 _ _)) HT.out rfl rfl ⟨HOK.out.ints, by show (0 : Nat) ≤ maxLen; unfold maxLen; omega, HOK.out.ms, HOK.out.bys⟩
   ·go_wp2_with (go_at_call 17; refine (around_any _ _ _ (by omega) (by omega) (by omega) (by omega)).mono ?_; rintro e w' ⟨rfl, rfl⟩; rw [HJ.out])
    go_meet
    exact ch_field ((HC.out.set 7 (.string ⟨#[115, 117, 109]⟩) (d' := { d with name := ⟨#[115, 117, 109]⟩ }) rfl).below (bel1 _ _)) HT.out rfl rfl ⟨HOK.out.ints, by show (3 : Nat) ≤ maxLen; unfold maxLen; omega, HOK.out.ms, HOK.out.bys⟩
   ·go_wp2_with (go_at_call 17; refine (around_any _ _ _ (by omega) (by omega) (by omega) (by omega)).mono ?_; rintro e w' ⟨rfl, rfl⟩; rw [HJ.out])
    go_meet
    exact ch_field ((HC.out.set 7 (.string ⟨#[65]⟩) (d' := { d with name := ⟨#[65]⟩ }) rfl).below (bel1 _ _)) HT.out rfl rfl ⟨HOK.out.ints, by show (1 : Nat) ≤ maxLen; unfold maxLen; omega, HOK.out.ms, HOK.out.bys⟩
   ·go_wp2_with (go_at_call 17; refine (around_any _ _ _ (by omega) (by omega) (by omega) (by omega)).mono ?_; rintro e w' ⟨rfl, rfl⟩; rw [HJ.out])
    go_meet
    exact ch_field ((HC.out.set 7 (.string ⟨#[107, 116, 104]⟩) (d' := { d with name := ⟨#[107, 116, 104]⟩ }) rfl).below (bel1 _ _)) HT.out rfl rfl ⟨HOK.out.ints, by show (3 : Nat) ≤ maxLen; unfold maxLen; omega, HOK.out.ms, HOK.out.bys⟩
   ·go_wp2_with (go_at_call 17; refine (around_any _ _ _ (by omega) (by omega) (by omega) (by omega)).mono ?_; rintro e w' ⟨rfl, rfl⟩; rw [HJ.out])
    go_meet
    exact ch_field ((HC.out.set 7 (.string ⟨#[98, 121]⟩) (d' := { d with name := ⟨#[98, 121]⟩ }) rfl).below (bel1 _ _)) HT.out rfl rfl ⟨HOK.out.ints, by show (2 : Nat) ≤ maxLen; unfold maxLen; omega, HOK.out.ms, HOK.out.bys⟩
   ·go_wp2_with (go_at_call 17; refine (around_any _ _ _ (by omega) (by omega) (by omega) (by omega)).mono ?_; rintro e w' ⟨rfl, rfl⟩; rw [HJ.out])
    go_meet
    exact ch_field ((HC.out.set 7 (.string ⟨#[97, 98, 99, 100, 101, 102, 103, 104, 105, 106, 107, 108, 109, 110, 111, 112, 113]⟩) (d' := { d with name := ⟨#[97, 98, 99, 100, 101, 102, 103, 104, 105, 106, 107, 108, 109, 110, 111, 112, 113]⟩ }) rfl).below (bel1 _ _)) HT.out rfl rfl ⟨HOK.out.ints, by show (17 : Nat) ≤ maxLen; unfold maxLen; omega, HOK.out.ms, HOK.out.bys⟩
  ·have hm := around_bd v 10 (by omega)
   obtain ⟨m, HM⟩ : ∃ m : Nat, Box (around v 10 = m) := ⟨(around v 10).toNat, ⟨by omega⟩⟩
   rw [HM.out] at hm
   obtain ⟨j0, hj, hy0, hy1, hy2⟩ := info_parts matInfo
   have HJ := Box.mk (And.intro hj (And.intro hy0 (And.intro hy1 hy2)))
   clear hj hy0 hy1 hy2
   have HM2 : Box (m ≤ 9) := ⟨by omega⟩
   clear hm c0 c1 c2 c3 c4 c5 c6 c7 c8 c9 c10 cf
   go_wp2_with (go_at_call 17; refine (around_any _ _ _ (by omega) (by omega) (by omega) (by omega)).mono ?_; rintro e w' ⟨rfl, rfl⟩; rw [HM.out])
   go_loopw [7] (fun i wr => ∃ (n n' : Nat) (ms : List Mat) (A : Option Addr) (c : Nat), n ≤ 9 ∧ i = .int .i64 n ∧ n' + n ≤ d.ms.length + 9 ∧ Box (n' = ms.length ∧ Ch w wr B H L { d with ms := ms } (.slice A n' c) (.slice A2 d.bys.length n2) (.slice A3 ks.length n3) ∧ OwnP wr (SpP B H (w.heap.size + 2) L) 71 3 (.slice A n' c) n' (ms.flatMap matCells) ∧ ∀ m ∈ ms, m.1.size ≤ maxLen ∧ m.2.2.size ≤ maxLen)) (fun i _ => (intOf i).toNat)
   case atStart =>
    refine ⟨m, d.ms.length, d.ms, A1, n1, HM2.out, rfl, by have := HM2.out; omega, ⟨rfl, HC.out, ?_, HOK.out.ms⟩⟩
    cases HT.out with
    | mk _ _ _ _ _ cs hd hm' hb hl hk hr =>
     exact (OwnP.sp hm').keep (AgreeB.of_below HB0.out)
   case round =>
    obtain ⟨n, n', ms, A, c, hn9, rfl, hnn, HCN⟩ := hrel
    by_cases hn0 : n = 0
    ·subst hn0
     go_wp2_with fail
     go_meet
     have HN := HCN.out
     obtain ⟨rfl, h2, h3, h4⟩ := HN
     exact ch_ms h2 HT.out h3 rfl ⟨HOK.out.ints, HOK.out.name, h4, HOK.out.bys⟩
    ·have hp : 0 < (n : Int) := by omega
     have hw : IntKind.i64.wrap ((n : Int) - 1) = ((n - 1 : Nat) : Int) := by rw [show (n : Int) - 1 = ((n - 1 : Nat) : Int) by omega]; exact W64_in (by omega) (by omega)
     have c8 := (blk11 HCN.out.2.1.e).2.2.2.2.2.2.2.2.1
     simp only [Nat.zero_add] at c8
     have cf := HCN.out.2.1.e.frozen
     go_wp2_with (at_builtin; refine wpList_append_sp _ rfl _ _ 25 rfl 71 j0 _ 3 40 Tryd.underlying25 HJ.out.1 HJ.out.2.1 HJ.out.2.2.1 HJ.out.2.2.2 rfl (by decide) (SpP B H (w.heap.size + 2) L) (.slice A n' c) n' (ms.flatMap matCells) rfl (by exact HCN.out.2.2.1.keep (AgreeB.of_below (bel1 _ _))) ⟨wr.heap.size, 0, none⟩ 1 1 (matCells ((⟨#[97]⟩, (0 : Int), ⟨#[]⟩) : Mat)) rfl rfl (cells3 _ _ _ _ _) (mat_one _) (by omega) (by unfold maxLen; omega) (by omega) ?_; intro g8 cap8 w8 hown8 hap8; have HC8 := Box.mk ((HCN.out.2.1.below (bel1 _ _)).app hH hap8); have HO8 := Box.mk (hown8.apped (by have := HCN.out.2.1.z.lt; simp; omega)); have e8 := (blk11 HC8.out.e).2.2.2.2.2.2.2.2.1; simp only [Nat.zero_add] at e8; have ef8 := HC8.out.e.frozen 8; clear hown8 hap8)
     have HN9 : Box (n' + 1 = (ms ++ [((⟨#[97]⟩, (0 : Int), ⟨#[]⟩) : Mat)]).length ∧ Ch w (w8.setCell ⟨w.heap.size, 8, none⟩ (.slice (some ⟨g8, 0, none⟩) (n' + 1) cap8)) B H L { d with ms := ms ++ [((⟨#[97]⟩, (0 : Int), ⟨#[]⟩) : Mat)] } (.slice (some ⟨g8, 0, none⟩) (n' + 1) cap8) (.slice A2 d.bys.length n2) (.slice A3 ks.length n3) ∧ OwnP (w8.setCell ⟨w.heap.size, 8, none⟩ (.slice (some ⟨g8, 0, none⟩) (n' + 1) cap8)) (SpP B H (w.heap.size + 2) L) 71 3 (.slice (some ⟨g8, 0, none⟩) (n' + 1) cap8) (n' + 1) ((ms ++ [((⟨#[97]⟩, (0 : Int), ⟨#[]⟩) : Mat)]).flatMap matCells) ∧ ∀ m ∈ ms ++ [((⟨#[97]⟩, (0 : Int), ⟨#[]⟩) : Mat)], m.1.size ≤ maxLen ∧ m.2.2.size ≤ maxLen) := ⟨by simp [HCN.out.1], HC8.out.set 8 _ rfl, by
      rw [List.flatMap_append]
      have := HO8.out.keep (AgreeB.of_only (Only.setCell (g := w.heap.size) 8 (.slice (some ⟨g8, 0, none⟩) (n' + 1) cap8)) fun b e hp => by rcases hp with ⟨q1, q2, q3⟩ | q <;> omega)
      simpa using this, fun m hm => by
      rcases List.mem_append.1 hm with hm | hm
      ·exact HCN.out.2.2.2 m hm
      ·simp at hm; subst hm; exact ⟨by show (1 : Nat) ≤ maxLen; unfold maxLen; omega, by show (0 : Nat) ≤ maxLen; omega⟩⟩
     clear HC8 HO8 e8 ef8 c8 cf
     go_roundw
     case rel => exact ⟨n - 1, n' + 1, _, _, _, by omega, by go_num, by omega, HN9⟩
     case measure => simp [intOf]; omega
  ·exact absurd rfl hq9
  ·exact absurd rfl hq10
  ·cases HT.out with
   | mk _ _ _ _ _ cs hd hm' hb hl hk hr =>
   obtain ⟨j0, hj, hy0, hy1, hy2⟩ := info_parts exprInfo
   have HJ := Box.mk (And.intro hj (And.intro hy0 (And.intro hy1 hy2)))
   clear hj hy0 hy1 hy2
   have HK := Box.mk (And.intro hl (And.intro (OwnP.sp (F := w.heap.size + 2) hk) hr))
   clear hd hm' hb hl hk hr
   have hl3' := hl3
   have hz0 := HC.out.z.lt
   go_wp2_with (at_builtin; refine wpList_append_sp _ rfl _ _ 27 rfl 29 j0 _ 11 144 Tryd.underlying27 HJ.out.1 HJ.out.2.1 HJ.out.2.2.1 HJ.out.2.2.2 rfl (by decide) (SpP B H (w.heap.size + 2) L) (.slice A3 ks.length n3) ks.length ((ks.zip cs).flatMap ndL) rfl (by exact (HK.out.2.1.keep (AgreeB.of_below HB0.out)).keep (AgreeB.of_below (bel1 _ _))) ⟨W.heap.size, 0, none⟩ 1 1 (ndL (.node leafN [], nilV, nilV, nilV)) rfl rfl (cells11 _ _ _) (nd_one (leaf_at W AnyP)) (by omega) (by unfold maxLen; omega) (by omega) ?_; intro g8 cap8 w8 hown8 hap8; have HC8 := Box.mk ((HC.out.below (bel1 _ _)).app hH hap8); have HO8 := Box.mk (hown8.apped (by simp; omega)); have e8 := (blk11 HC8.out.e).2.2.2.2.2.2.2.2.2.2; simp only [Nat.zero_add] at e8; have ef8 := HC8.out.e.frozen 10; clear hown8 hap8)
   go_meet
   exact ch_kids (HC8.out.set 10 (.slice (some ⟨g8, 0, none⟩) (ks.length + 1) cap8) rfl) HT.out HK.out.1 HK.out.2.2 (HO8.out.keep (AgreeB.of_only (Only.setCell (g := w.heap.size) 10 _) fun b e hp => by rcases hp with ⟨q1, q2, q3⟩ | q <;> omega))
 case rest =>
  clear HC HB0
  obtain ⟨d', ks', mv', bv', kv', hc, ht, hd, hn⟩ := hcut
  rename World => wx
  obtain ⟨B1, m1, rfl, -⟩ := ht.nod.ms.form
  obtain ⟨B2, m2, rfl, -⟩ := ht.nod.bys.form
  obtain ⟨B3, m3, rfl, -⟩ := ht.nod.kform
  have HC := Box.mk hc
  have HR := Box.mk (And.intro ht (And.intro hd hn))
  clear hc ht hd hn
  obtain ⟨c0, c1, c2, c3, c4, c5, c6, c7, c8, c9, c10⟩ := blk11 HC.out.e
  simp only [Nat.zero_add] at c1 c2 c3 c4 c5 c6 c7 c8 c9 c10
  have cf := HC.out.e.frozen
  obtain ⟨z0, z1, z2, z3, z4, z5, z6, z7, z8, z9, z10⟩ := blk11 HC.out.z
  simp only [Nat.zero_add] at z1 z2 z3 z4 z5 z6 z7 z8 z9 z10
  have zf := HC.out.z.frozen
  go_wp2_with fail
  have HF : Box (Blk (put11 wx (w.heap.size + 1) (.int .i64 d'.kind) (.int .i64 d'.fn) (.int .i64 d'.win) (.int .i64 d'.off) (.int .i64 d'.k) (.int .i64 d'.num) (.int .i64 d'.den) (.string d'.name) (.slice B1 d'.ms.length m1) (.slice B2 d'.bys.length m2) (.slice B3 ks'.length m3)) (w.heap.size + 1) 29 (ndC d' (.slice B1 d'.ms.length m1) (.slice B2 d'.bys.length m2) (.slice B3 ks'.length m3))) := ⟨put11_blk HC.out.z⟩
  have HA : Box (TreeAt (put11 wx (w.heap.size + 1) (.int .i64 d'.kind) (.int .i64 d'.fn) (.int .i64 d'.win) (.int .i64 d'.off) (.int .i64 d'.k) (.int .i64 d'.num) (.int .i64 d'.den) (.string d'.name) (.slice B1 d'.ms.length m1) (.slice B2 d'.bys.length m2) (.slice B3 ks'.length m3)) (FrP H w.heap.size) (.node d' ks') (.slice B1 d'.ms.length m1, .slice B2 d'.bys.length m2, .slice B3 ks'.length m3) ∧ SpF B H L w (put11 wx (w.heap.size + 1) (.int .i64 d'.kind) (.int .i64 d'.fn) (.int .i64 d'.win) (.int .i64 d'.off) (.int .i64 d'.k) (.int .i64 d'.num) (.int .i64 d'.den) (.string d'.name) (.slice B1 d'.ms.length m1) (.slice B2 d'.bys.length m2) (.slice B3 ks'.length m3))) := ⟨(HR.out.1.keep (Agree.of_only (put11_only ..) (fun b e hp => by rcases hp with hp | hp <;> omega))).mono (fun b e _ hp => by rcases hp with hp | hp; exact .inl hp; exact .inr (by omega)), HC.out.fr.then_below (put11_below (by omega) ..)⟩
  show bodyPost _ _ _ _ _ (put11 wx (w.heap.size + 1) (.int .i64 d'.kind) (.int .i64 d'.fn) (.int .i64 d'.win) (.int .i64 d'.off) (.int .i64 d'.k) (.int .i64 d'.num) (.int .i64 d'.den) (.string d'.name) (.slice B1 d'.ms.length m1) (.slice B2 d'.bys.length m2) (.slice B3 ks'.length m3))
  generalize (put11 wx (w.heap.size + 1) (.int .i64 d'.kind) (.int .i64 d'.fn) (.int .i64 d'.win) (.int .i64 d'.off) (.int .i64 d'.k) (.int .i64 d'.num) (.int .i64 d'.den) (.string d'.name) (.slice B1 d'.ms.length m1) (.slice B2 d'.bys.length m2) (.slice B3 ks'.length m3)) = WF at HF HA ⊢
  clear z0 z1 z2 z3 z4 z5 z6 z7 z8 z9 z10 zf c0 c1 c2 c3 c4 c5 c6 c7 c8 c9 c10 cf
  obtain ⟨e0, e1, e2, e3, e4, e5, e6, e7, e8, e9, e10⟩ := blk11 HF.out
  simp only [Nat.zero_add] at e1 e2 e3 e4 e5 e6 e7 e8 e9 e10
  have ef := HF.out.frozen
  refine bodyPost_ret (v := .agg (ndC d' (.slice B1 d'.ms.length m1) (.slice B2 d'.bys.length m2) (.slice B3 ks'.length m3))) (by simp [results, Tryd.results33, go_sem, e0, e1, e2, e3, e4, e5, e6, e7, e8, e9, e10, ef]) rfl ?_
  exact ⟨.node d' ks', (.slice B1 d'.ms.length m1, .slice B2 d'.bys.length m2, .slice B3 ks'.length m3), rfl, HA.out.1, HR.out.2.1, HR.out.2.2, HA.out.2⟩
end
end Go.Proofs.YtipafbppaaflcaaDoor
