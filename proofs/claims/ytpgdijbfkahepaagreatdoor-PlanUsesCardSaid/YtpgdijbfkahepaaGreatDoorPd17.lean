/- Contracts, packed: Qw. -/
import Derived.Test.YtpgdijbfkahepaaGreatDoorPd16
set_option linter.unusedVariables false
set_option linter.unusedSimpArgs false
namespace Go.Proofs.YtpgdijbfkahepaaGreatDoor
section
open Go.RowKit FracM
theorem TreeF.form {w : World} {B : Nat} {d : Nd} {ks : List Tree} {mv bv kv : Value} (h : TreeF w B (.node d ks) (mv, bv, kv)) : (∃ A c, mv = .slice A d.ms.length c ∧ True) ∧ (∃ A c, bv = .slice A d.bys.length c ∧ True) ∧ (∃ A c, kv = .slice A ks.length c ∧ True) := by
 obtain ⟨L, h⟩ := h
 obtain ⟨A1, c1, h1, -⟩ := h.tree.nod.ms.form
 obtain ⟨A2, c2, h2, -⟩ := h.tree.nod.bys.form
 obtain ⟨A3, c3, h3, -⟩ := h.tree.nod.kform
 exact ⟨⟨A1, c1, h1, trivial⟩, ⟨A2, c2, h2, trivial⟩, ⟨A3, c3, h3, trivial⟩⟩
set_option maxHeartbeats 8000000 in
set_option maxRecDepth 100000 in
theorem expr_any (g : Nat) (lv nv : Value) (l : List Int) (ns : List ByteArray) (most dp : Int) (m : Nat) (hE : 1 < dp → ExprOk g lv nv l ns most (dp - 1) m) (hd1 : 1 ≤ dp) (hd2 : dp ≤ 100) (hok : NamesOk ns) (hns : 1 ≤ ns.length) (hns2 : ns.length ≤ 1000) (hm : 1 ≤ most) (hm2 : most ≤ 4096) : ExprOk g lv nv l ns most dp (2 * m + 1) := by
 intro i w h hi hi2
 have hgs := h.blk.lt
 have HIH := Box.mk hE
 have HP : Box (Pre g w (w.alloc (.cells zeroC 35))) := ⟨⟨Only.of_below (bel1 _ _), Blk.new _ _ _⟩⟩
 have HG := Box.mk (h.below (bel1 w (.cells zeroC 35)))
 have h81 : (1 : Int) ≤ 8 := by omega
 have h82 : (8 : Int) ≤ 9223372036854775807 := by omega
 have h41 : (1 : Int) ≤ 4 := by omega
 have h42 : (4 : Int) ≤ 9223372036854775807 := by omega
 have h61 : (1 : Int) ≤ 6 := by omega
 have h62 : (6 : Int) ≤ 9223372036854775807 := by omega
 clear h hE
 go_enter Tryz.func32, Tryz.ntmps32
 go_upto_region 1 with (fail)
 generalize w.alloc (.cells zeroC 35) = W at *
 go_wp2_with fail
 (with_reducible refine (next_any g lv nv l ns most i 8 _ HG.out hi (by omega) h81 h82).mono ?_)
 rintro e w1 ⟨rfl, hg1, hs1⟩
 have HP1 := Box.mk (HP.out.next hgs hs1.only)
 have HG1 := Box.mk hg1
 obtain ⟨p1, p2⟩ := pick_bd l i 8 h81
 clear hg1 hs1 HP HG
 by_cases k0 : pickZ l i 8 = 0
 ·have k1 : (pickZ l i 8 == 0) = true := by simpa using k0
  go_wp2_with fail
  have HL0 : Box (SeqP (w1.alloc (.cells #[.int .i64 0, .int .i64 1, .int .i64 2, .int .i64 7, .int .i64 10, .int .i64 1073741824] 3)) (fun b _ => b = w1.heap.size) 1 (.slice (some ⟨w1.heap.size, 0, none⟩) 6 6) 6 (numsL.map (Value.int .i64))) := ⟨SeqP.of_blk (n := 6) (size := 1) (Blk.new w1 #[.int .i64 0, .int .i64 1, .int .i64 2, .int .i64 7, .int .i64 10, .int .i64 1073741824] 3) rfl (by omega) rfl⟩
  (with_reducible refine (next_any g lv nv l ns most (i + 1) 6 _ (HG1.out.alloc _) (by omega) (by omega) h61 h62).mono ?_)
  rintro e w2 ⟨rfl, hg2, hs2⟩
  obtain ⟨q1, q2⟩ := pick_bd l (i + 1) 6 h61
  obtain ⟨x, hx⟩ : ∃ x, numsL[(pickZ l (i + 1) 6).toNat]? = some x := ⟨numsL[(pickZ l (i + 1) 6).toNat]'(by simp [numsL]; omega), List.getElem?_eq_getElem _⟩
  have hxc : w2.cell? ⟨w1.heap.size, (pickZ l (i + 1) 6).toNat, none⟩ = some (.int .i64 x) := by
   have hk := HL0.out.keep (Agree.of_only hs2.only fun b e hp => by rw [hp]; have := HP1.out.R.lt; omega)
   obtain ⟨b, off, hA, -, -, hc⟩ := hk.at1b _ (.int .i64 x) (by rw [List.getElem?_map, hx]; rfl)
   cases hA
   rw [Nat.zero_add] at hc
   exact hc
  have HXM : Box (x ∈ numsL) := ⟨List.mem_of_getElem? hx⟩
  have HPX := Box.mk ((HP1.out.alloc _).next hgs hs2.only)
  have HGX := Box.mk hg2
  clear hx hg2 hs2
  obtain ⟨z0, z1, z2, z3, z4, z5, z6, z7, z8, z9, z10⟩ := blk11 HPX.out.R
  simp only [Nat.zero_add] at z1 z2 z3 z4 z5 z6 z7 z8 z9 z10
  have zf := HPX.out.R.frozen
  go_wp2_with fail
  have hgood : GoodN ns most (⟨0, 0, 0, 0, 0, x, 1, ⟨#[]⟩, [], []⟩ : Nd) 0 := .num x HXM.out
  have HGD := Box.mk hgood
  have HTX : Box (TreeF w2 (w.heap.size + 1) (.node (⟨0, 0, 0, 0, 0, x, 1, ⟨#[]⟩, [], []⟩ : Nd) []) (nilV, nilV, nilV)) := ⟨⟨fun _ => 0, .mk _ _ _ _ _ [] (selN_ok hgood hok hm2) (OwnP.nil _ _ _ _) (OwnP.nil _ _ _ _) rfl (OwnP.nil _ _ _ _) (fun i t c h => by simp at h)⟩⟩
  have HF : Box (Blk (put11 w2 w.heap.size (.int .i64 0) (.int .i64 0) (.int .i64 0) (.int .i64 0) (.int .i64 0) (.int .i64 x) (.int .i64 1) (.string ⟨#[]⟩) nilV nilV nilV) w.heap.size 35 (ndC (⟨0, 0, 0, 0, 0, x, 1, ⟨#[]⟩, [], []⟩ : Nd) nilV nilV nilV)) := ⟨put11_blk HPX.out.R⟩
  have HA : Box (Only g w (put11 w2 w.heap.size (.int .i64 0) (.int .i64 0) (.int .i64 0) (.int .i64 0) (.int .i64 0) (.int .i64 x) (.int .i64 1) (.string ⟨#[]⟩) nilV nilV nilV) ∧ GenAt (put11 w2 w.heap.size (.int .i64 0) (.int .i64 0) (.int .i64 0) (.int .i64 0) (.int .i64 0) (.int .i64 x) (.int .i64 1) (.string ⟨#[]⟩) nilV nilV nilV) g (i + 1 + 1) lv nv l ns most ∧ TreeF (put11 w2 w.heap.size (.int .i64 0) (.int .i64 0) (.int .i64 0) (.int .i64 0) (.int .i64 0) (.int .i64 x) (.int .i64 1) (.string ⟨#[]⟩) nilV nilV nilV) (w.heap.size + 1) (.node (⟨0, 0, 0, 0, 0, x, 1, ⟨#[]⟩, [], []⟩ : Nd) []) (nilV, nilV, nilV)) := ⟨HPX.out.only.low_then (put11_below (Nat.le_refl _) ..), HGX.out.above (put11_below (by omega) ..), HTX.out.far (put11_only ..) (by omega)⟩
  show bodyPost _ _ _ _ _ (put11 w2 w.heap.size (.int .i64 0) (.int .i64 0) (.int .i64 0) (.int .i64 0) (.int .i64 0) (.int .i64 x) (.int .i64 1) (.string ⟨#[]⟩) nilV nilV nilV)
  generalize (put11 w2 w.heap.size (.int .i64 0) (.int .i64 0) (.int .i64 0) (.int .i64 0) (.int .i64 0) (.int .i64 x) (.int .i64 1) (.string ⟨#[]⟩) nilV nilV nilV) = WF at HF HA ⊢
  clear HPX HGX HTX z0 z1 z2 z3 z4 z5 z6 z7 z8 z9 z10 zf
  obtain ⟨e0, e1, e2, e3, e4, e5, e6, e7, e8, e9, e10⟩ := blk11 HF.out
  simp only [Nat.zero_add] at e1 e2 e3 e4 e5 e6 e7 e8 e9 e10
  have ef := HF.out.frozen
  refine bodyPost_ret (v := .agg (ndC (⟨0, 0, 0, 0, 0, x, 1, ⟨#[]⟩, [], []⟩ : Nd) nilV nilV nilV)) (by simp [results, Tryz.results32, go_sem, e0, e1, e2, e3, e4, e5, e6, e7, e8, e9, e10, ef]) rfl ?_
  exact ⟨.node (⟨0, 0, 0, 0, 0, x, 1, ⟨#[]⟩, [], []⟩ : Nd) [], (nilV, nilV, nilV), i + 1 + 1, rfl, HA.out.2.2.lower (by omega), .mk _ _ HGD.out (fun t ht => by simp at ht), by simp [dep, depL]; omega, by simp [nds, ndsL], by omega, by omega, HA.out.2.1, HA.out.1⟩
 have k1 : (pickZ l i 8 == 0) = false := by simpa using k0
 have k1' : (pickZ l i 8 != 0) = true := by simpa using k0
 by_cases hle : dp ≤ 1
 ·by_cases k3 : pickZ l i 8 < 3
  ·clear k0
   go_wp2_with fail
   have HL0 : Box (SeqP (w1.alloc (.cells #[.int .i64 0, .int .i64 1, .int .i64 2, .int .i64 7, .int .i64 10, .int .i64 1073741824] 3)) (fun b _ => b = w1.heap.size) 1 (.slice (some ⟨w1.heap.size, 0, none⟩) 6 6) 6 (numsL.map (Value.int .i64))) := ⟨SeqP.of_blk (n := 6) (size := 1) (Blk.new w1 #[.int .i64 0, .int .i64 1, .int .i64 2, .int .i64 7, .int .i64 10, .int .i64 1073741824] 3) rfl (by omega) rfl⟩
   (with_reducible refine (next_any g lv nv l ns most (i + 1) 6 _ (HG1.out.alloc _) (by omega) (by omega) h61 h62).mono ?_)
   rintro e w2 ⟨rfl, hg2, hs2⟩
   obtain ⟨q1, q2⟩ := pick_bd l (i + 1) 6 h61
   obtain ⟨x, hx⟩ : ∃ x, numsL[(pickZ l (i + 1) 6).toNat]? = some x := ⟨numsL[(pickZ l (i + 1) 6).toNat]'(by simp [numsL]; omega), List.getElem?_eq_getElem _⟩
   have hxc : w2.cell? ⟨w1.heap.size, (pickZ l (i + 1) 6).toNat, none⟩ = some (.int .i64 x) := by
    have hk := HL0.out.keep (Agree.of_only hs2.only fun b e hp => by rw [hp]; have := HP1.out.R.lt; omega)
    obtain ⟨b, off, hA, -, -, hc⟩ := hk.at1b _ (.int .i64 x) (by rw [List.getElem?_map, hx]; rfl)
    cases hA
    rw [Nat.zero_add] at hc
    exact hc
   have HXM : Box (x ∈ numsL) := ⟨List.mem_of_getElem? hx⟩
   have HPX := Box.mk ((HP1.out.alloc _).next hgs hs2.only)
   have HGX := Box.mk hg2
   clear hx hg2 hs2
   obtain ⟨z0, z1, z2, z3, z4, z5, z6, z7, z8, z9, z10⟩ := blk11 HPX.out.R
   simp only [Nat.zero_add] at z1 z2 z3 z4 z5 z6 z7 z8 z9 z10
   have zf := HPX.out.R.frozen
   go_wp2_with fail
   have hgood : GoodN ns most (⟨0, 0, 0, 0, 0, x, 1, ⟨#[]⟩, [], []⟩ : Nd) 0 := .num x HXM.out
   have HGD := Box.mk hgood
   have HTX : Box (TreeF w2 (w.heap.size + 1) (.node (⟨0, 0, 0, 0, 0, x, 1, ⟨#[]⟩, [], []⟩ : Nd) []) (nilV, nilV, nilV)) := ⟨⟨fun _ => 0, .mk _ _ _ _ _ [] (selN_ok hgood hok hm2) (OwnP.nil _ _ _ _) (OwnP.nil _ _ _ _) rfl (OwnP.nil _ _ _ _) (fun i t c h => by simp at h)⟩⟩
   have HF : Box (Blk (put11 w2 w.heap.size (.int .i64 0) (.int .i64 0) (.int .i64 0) (.int .i64 0) (.int .i64 0) (.int .i64 x) (.int .i64 1) (.string ⟨#[]⟩) nilV nilV nilV) w.heap.size 35 (ndC (⟨0, 0, 0, 0, 0, x, 1, ⟨#[]⟩, [], []⟩ : Nd) nilV nilV nilV)) := ⟨put11_blk HPX.out.R⟩
   have HA : Box (Only g w (put11 w2 w.heap.size (.int .i64 0) (.int .i64 0) (.int .i64 0) (.int .i64 0) (.int .i64 0) (.int .i64 x) (.int .i64 1) (.string ⟨#[]⟩) nilV nilV nilV) ∧ GenAt (put11 w2 w.heap.size (.int .i64 0) (.int .i64 0) (.int .i64 0) (.int .i64 0) (.int .i64 0) (.int .i64 x) (.int .i64 1) (.string ⟨#[]⟩) nilV nilV nilV) g (i + 1 + 1) lv nv l ns most ∧ TreeF (put11 w2 w.heap.size (.int .i64 0) (.int .i64 0) (.int .i64 0) (.int .i64 0) (.int .i64 0) (.int .i64 x) (.int .i64 1) (.string ⟨#[]⟩) nilV nilV nilV) (w.heap.size + 1) (.node (⟨0, 0, 0, 0, 0, x, 1, ⟨#[]⟩, [], []⟩ : Nd) []) (nilV, nilV, nilV)) := ⟨HPX.out.only.low_then (put11_below (Nat.le_refl _) ..), HGX.out.above (put11_below (by omega) ..), HTX.out.far (put11_only ..) (by omega)⟩
   show bodyPost _ _ _ _ _ (put11 w2 w.heap.size (.int .i64 0) (.int .i64 0) (.int .i64 0) (.int .i64 0) (.int .i64 0) (.int .i64 x) (.int .i64 1) (.string ⟨#[]⟩) nilV nilV nilV)
   generalize (put11 w2 w.heap.size (.int .i64 0) (.int .i64 0) (.int .i64 0) (.int .i64 0) (.int .i64 0) (.int .i64 x) (.int .i64 1) (.string ⟨#[]⟩) nilV nilV nilV) = WF at HF HA ⊢
   clear HPX HGX HTX z0 z1 z2 z3 z4 z5 z6 z7 z8 z9 z10 zf
   obtain ⟨e0, e1, e2, e3, e4, e5, e6, e7, e8, e9, e10⟩ := blk11 HF.out
   simp only [Nat.zero_add] at e1 e2 e3 e4 e5 e6 e7 e8 e9 e10
   have ef := HF.out.frozen
   refine bodyPost_ret (v := .agg (ndC (⟨0, 0, 0, 0, 0, x, 1, ⟨#[]⟩, [], []⟩ : Nd) nilV nilV nilV)) (by simp [results, Tryz.results32, go_sem, e0, e1, e2, e3, e4, e5, e6, e7, e8, e9, e10, ef]) rfl ?_
   exact ⟨.node (⟨0, 0, 0, 0, 0, x, 1, ⟨#[]⟩, [], []⟩ : Nd) [], (nilV, nilV, nilV), i + 1 + 1, rfl, HA.out.2.2.lower (by omega), .mk _ _ HGD.out (fun t ht => by simp at ht), by simp [dep, depL]; omega, by simp [nds, ndsL], by omega, by omega, HA.out.2.1, HA.out.1⟩
  ·clear k0
   go_wp2_with fail
   (with_reducible refine (selection_any g lv nv l ns most (i + 1) _ HG1.out (by omega) (by omega) hns hns2 hm hm2 hok).mono ?_)
   rintro e w2 ⟨t, s, i8, rfl, ht8, hgd8, hd8, hn8, hi8, hi9, hg8, ho8⟩
   obtain ⟨d, ks⟩ := t
   obtain ⟨mv, bv, kv⟩ := s
   obtain ⟨A1, n1, rfl, -⟩ := ht8.form.1
   obtain ⟨A2, n2, rfl, -⟩ := ht8.form.2.1
   obtain ⟨A3, n3, rfl, -⟩ := ht8.form.2.2
   have HPX := Box.mk (HP1.out.next hgs ho8)
   have HGX := Box.mk hg8
   have hlow := HP1.out.R.lt
   have HTX := Box.mk (ht8.lower (B' := w.heap.size + 1) (by omega))
   have HGD := Box.mk (And.intro hgd8 (And.intro hd8 (And.intro hn8 (And.intro hi8 hi9))))
   clear ht8 hgd8 hd8 hn8 hi8 hi9 hg8 ho8
   obtain ⟨z0, z1, z2, z3, z4, z5, z6, z7, z8, z9, z10⟩ := blk11 HPX.out.R
   simp only [Nat.zero_add] at z1 z2 z3 z4 z5 z6 z7 z8 z9 z10
   have zf := HPX.out.R.frozen
   go_wp2_with fail
   have HF : Box (Blk (put11 w2 w.heap.size (.int .i64 d.kind) (.int .i64 d.fn) (.int .i64 d.win) (.int .i64 d.off) (.int .i64 d.k) (.int .i64 d.num) (.int .i64 d.den) (.string d.name) (.slice A1 d.ms.length n1) (.slice A2 d.bys.length n2) (.slice A3 ks.length n3)) w.heap.size 35 (ndC d (.slice A1 d.ms.length n1) (.slice A2 d.bys.length n2) (.slice A3 ks.length n3))) := ⟨put11_blk HPX.out.R⟩
   have HA : Box (Only g w (put11 w2 w.heap.size (.int .i64 d.kind) (.int .i64 d.fn) (.int .i64 d.win) (.int .i64 d.off) (.int .i64 d.k) (.int .i64 d.num) (.int .i64 d.den) (.string d.name) (.slice A1 d.ms.length n1) (.slice A2 d.bys.length n2) (.slice A3 ks.length n3)) ∧ GenAt (put11 w2 w.heap.size (.int .i64 d.kind) (.int .i64 d.fn) (.int .i64 d.win) (.int .i64 d.off) (.int .i64 d.k) (.int .i64 d.num) (.int .i64 d.den) (.string d.name) (.slice A1 d.ms.length n1) (.slice A2 d.bys.length n2) (.slice A3 ks.length n3)) g i8 lv nv l ns most ∧ TreeF (put11 w2 w.heap.size (.int .i64 d.kind) (.int .i64 d.fn) (.int .i64 d.win) (.int .i64 d.off) (.int .i64 d.k) (.int .i64 d.num) (.int .i64 d.den) (.string d.name) (.slice A1 d.ms.length n1) (.slice A2 d.bys.length n2) (.slice A3 ks.length n3)) (w.heap.size + 1) (.node d ks) (.slice A1 d.ms.length n1, .slice A2 d.bys.length n2, .slice A3 ks.length n3)) := ⟨HPX.out.only.low_then (put11_below (Nat.le_refl _) ..), HGX.out.above (put11_below (by omega) ..), HTX.out.far (put11_only ..) (by omega)⟩
   show bodyPost _ _ _ _ _ (put11 w2 w.heap.size (.int .i64 d.kind) (.int .i64 d.fn) (.int .i64 d.win) (.int .i64 d.off) (.int .i64 d.k) (.int .i64 d.num) (.int .i64 d.den) (.string d.name) (.slice A1 d.ms.length n1) (.slice A2 d.bys.length n2) (.slice A3 ks.length n3))
   generalize (put11 w2 w.heap.size (.int .i64 d.kind) (.int .i64 d.fn) (.int .i64 d.win) (.int .i64 d.off) (.int .i64 d.k) (.int .i64 d.num) (.int .i64 d.den) (.string d.name) (.slice A1 d.ms.length n1) (.slice A2 d.bys.length n2) (.slice A3 ks.length n3)) = WF at HF HA ⊢
   clear HPX HGX HTX z0 z1 z2 z3 z4 z5 z6 z7 z8 z9 z10 zf
   obtain ⟨e0, e1, e2, e3, e4, e5, e6, e7, e8, e9, e10⟩ := blk11 HF.out
   simp only [Nat.zero_add] at e1 e2 e3 e4 e5 e6 e7 e8 e9 e10
   have ef := HF.out.frozen
   refine bodyPost_ret (v := .agg (ndC d (.slice A1 d.ms.length n1) (.slice A2 d.bys.length n2) (.slice A3 ks.length n3))) (by simp [results, Tryz.results32, go_sem, e0, e1, e2, e3, e4, e5, e6, e7, e8, e9, e10, ef]) rfl ?_
   obtain ⟨y1, y2, y3, y4, y5⟩ := HGD.out
   exact ⟨.node d ks, (.slice A1 d.ms.length n1, .slice A2 d.bys.length n2, .slice A3 ks.length n3), i8, rfl, HA.out.2.2.lower (by omega), y1, by omega, by omega, by omega, by omega, HA.out.2.1, HA.out.1⟩
 have hgt : 1 < dp := by omega
 have HE2 := Box.mk (HIH.out hgt)
 unfold ExprOk at HE2
 by_cases k4 : pickZ l i 8 < 4
 ·clear k0
  go_wp2_with fail
  (with_reducible refine (selection_any g lv nv l ns most (i + 1) _ HG1.out (by omega) (by omega) hns hns2 hm hm2 hok).mono ?_)
  rintro e w2 ⟨t, s, i8, rfl, ht8, hgd8, hd8, hn8, hi8, hi9, hg8, ho8⟩
  obtain ⟨d, ks⟩ := t
  obtain ⟨mv, bv, kv⟩ := s
  obtain ⟨A1, n1, rfl, -⟩ := ht8.form.1
  obtain ⟨A2, n2, rfl, -⟩ := ht8.form.2.1
  obtain ⟨A3, n3, rfl, -⟩ := ht8.form.2.2
  have HPX := Box.mk (HP1.out.next hgs ho8)
  have HGX := Box.mk hg8
  have hlow := HP1.out.R.lt
  have HTX := Box.mk (ht8.lower (B' := w.heap.size + 1) (by omega))
  have HGD := Box.mk (And.intro hgd8 (And.intro hd8 (And.intro hn8 (And.intro hi8 hi9))))
  clear ht8 hgd8 hd8 hn8 hi8 hi9 hg8 ho8
  obtain ⟨z0, z1, z2, z3, z4, z5, z6, z7, z8, z9, z10⟩ := blk11 HPX.out.R
  simp only [Nat.zero_add] at z1 z2 z3 z4 z5 z6 z7 z8 z9 z10
  have zf := HPX.out.R.frozen
  go_wp2_with fail
  have HF : Box (Blk (put11 w2 w.heap.size (.int .i64 d.kind) (.int .i64 d.fn) (.int .i64 d.win) (.int .i64 d.off) (.int .i64 d.k) (.int .i64 d.num) (.int .i64 d.den) (.string d.name) (.slice A1 d.ms.length n1) (.slice A2 d.bys.length n2) (.slice A3 ks.length n3)) w.heap.size 35 (ndC d (.slice A1 d.ms.length n1) (.slice A2 d.bys.length n2) (.slice A3 ks.length n3))) := ⟨put11_blk HPX.out.R⟩
  have HA : Box (Only g w (put11 w2 w.heap.size (.int .i64 d.kind) (.int .i64 d.fn) (.int .i64 d.win) (.int .i64 d.off) (.int .i64 d.k) (.int .i64 d.num) (.int .i64 d.den) (.string d.name) (.slice A1 d.ms.length n1) (.slice A2 d.bys.length n2) (.slice A3 ks.length n3)) ∧ GenAt (put11 w2 w.heap.size (.int .i64 d.kind) (.int .i64 d.fn) (.int .i64 d.win) (.int .i64 d.off) (.int .i64 d.k) (.int .i64 d.num) (.int .i64 d.den) (.string d.name) (.slice A1 d.ms.length n1) (.slice A2 d.bys.length n2) (.slice A3 ks.length n3)) g i8 lv nv l ns most ∧ TreeF (put11 w2 w.heap.size (.int .i64 d.kind) (.int .i64 d.fn) (.int .i64 d.win) (.int .i64 d.off) (.int .i64 d.k) (.int .i64 d.num) (.int .i64 d.den) (.string d.name) (.slice A1 d.ms.length n1) (.slice A2 d.bys.length n2) (.slice A3 ks.length n3)) (w.heap.size + 1) (.node d ks) (.slice A1 d.ms.length n1, .slice A2 d.bys.length n2, .slice A3 ks.length n3)) := ⟨HPX.out.only.low_then (put11_below (Nat.le_refl _) ..), HGX.out.above (put11_below (by omega) ..), HTX.out.far (put11_only ..) (by omega)⟩
  show bodyPost _ _ _ _ _ (put11 w2 w.heap.size (.int .i64 d.kind) (.int .i64 d.fn) (.int .i64 d.win) (.int .i64 d.off) (.int .i64 d.k) (.int .i64 d.num) (.int .i64 d.den) (.string d.name) (.slice A1 d.ms.length n1) (.slice A2 d.bys.length n2) (.slice A3 ks.length n3))
  generalize (put11 w2 w.heap.size (.int .i64 d.kind) (.int .i64 d.fn) (.int .i64 d.win) (.int .i64 d.off) (.int .i64 d.k) (.int .i64 d.num) (.int .i64 d.den) (.string d.name) (.slice A1 d.ms.length n1) (.slice A2 d.bys.length n2) (.slice A3 ks.length n3)) = WF at HF HA ⊢
  clear HPX HGX HTX z0 z1 z2 z3 z4 z5 z6 z7 z8 z9 z10 zf
  obtain ⟨e0, e1, e2, e3, e4, e5, e6, e7, e8, e9, e10⟩ := blk11 HF.out
  simp only [Nat.zero_add] at e1 e2 e3 e4 e5 e6 e7 e8 e9 e10
  have ef := HF.out.frozen
  refine bodyPost_ret (v := .agg (ndC d (.slice A1 d.ms.length n1) (.slice A2 d.bys.length n2) (.slice A3 ks.length n3))) (by simp [results, Tryz.results32, go_sem, e0, e1, e2, e3, e4, e5, e6, e7, e8, e9, e10, ef]) rfl ?_
  obtain ⟨y1, y2, y3, y4, y5⟩ := HGD.out
  exact ⟨.node d ks, (.slice A1 d.ms.length n1, .slice A2 d.bys.length n2, .slice A3 ks.length n3), i8, rfl, HA.out.2.2.lower (by omega), y1, by omega, by omega, by omega, by omega, HA.out.2.1, HA.out.1⟩
 by_cases k5 : pickZ l i 8 = 4
 ·have k6 : (pickZ l i 8 == 4) = true := by simpa using k5
  have k7 : ¬ pickZ l i 8 < 3 := by omega
  clear k0 k5
  go_wp2_with fail
  (with_reducible refine (group_any g lv nv l ns most (i + 1) dp m _ (HIH.out hgt) HG1.out (by omega) (by omega) hd1 hd2 hok hm hm2).mono ?_)
  rintro e w2 ⟨t, s, i8, rfl, ht8, hgd8, hd8, hn8, hi8, hi9, hg8, ho8⟩
  obtain ⟨d, ks⟩ := t
  obtain ⟨mv, bv, kv⟩ := s
  obtain ⟨A1, n1, rfl, -⟩ := ht8.form.1
  obtain ⟨A2, n2, rfl, -⟩ := ht8.form.2.1
  obtain ⟨A3, n3, rfl, -⟩ := ht8.form.2.2
  have HPX := Box.mk (HP1.out.next hgs ho8)
  have HGX := Box.mk hg8
  have hlow := HP1.out.R.lt
  have HTX := Box.mk (ht8.lower (B' := w.heap.size + 1) (by omega))
  have HGD := Box.mk (And.intro hgd8 (And.intro hd8 (And.intro hn8 (And.intro hi8 hi9))))
  clear ht8 hgd8 hd8 hn8 hi8 hi9 hg8 ho8
  obtain ⟨z0, z1, z2, z3, z4, z5, z6, z7, z8, z9, z10⟩ := blk11 HPX.out.R
  simp only [Nat.zero_add] at z1 z2 z3 z4 z5 z6 z7 z8 z9 z10
  have zf := HPX.out.R.frozen
  go_wp2_with fail
  have HF : Box (Blk (put11 w2 w.heap.size (.int .i64 d.kind) (.int .i64 d.fn) (.int .i64 d.win) (.int .i64 d.off) (.int .i64 d.k) (.int .i64 d.num) (.int .i64 d.den) (.string d.name) (.slice A1 d.ms.length n1) (.slice A2 d.bys.length n2) (.slice A3 ks.length n3)) w.heap.size 35 (ndC d (.slice A1 d.ms.length n1) (.slice A2 d.bys.length n2) (.slice A3 ks.length n3))) := ⟨put11_blk HPX.out.R⟩
  have HA : Box (Only g w (put11 w2 w.heap.size (.int .i64 d.kind) (.int .i64 d.fn) (.int .i64 d.win) (.int .i64 d.off) (.int .i64 d.k) (.int .i64 d.num) (.int .i64 d.den) (.string d.name) (.slice A1 d.ms.length n1) (.slice A2 d.bys.length n2) (.slice A3 ks.length n3)) ∧ GenAt (put11 w2 w.heap.size (.int .i64 d.kind) (.int .i64 d.fn) (.int .i64 d.win) (.int .i64 d.off) (.int .i64 d.k) (.int .i64 d.num) (.int .i64 d.den) (.string d.name) (.slice A1 d.ms.length n1) (.slice A2 d.bys.length n2) (.slice A3 ks.length n3)) g i8 lv nv l ns most ∧ TreeF (put11 w2 w.heap.size (.int .i64 d.kind) (.int .i64 d.fn) (.int .i64 d.win) (.int .i64 d.off) (.int .i64 d.k) (.int .i64 d.num) (.int .i64 d.den) (.string d.name) (.slice A1 d.ms.length n1) (.slice A2 d.bys.length n2) (.slice A3 ks.length n3)) (w.heap.size + 1) (.node d ks) (.slice A1 d.ms.length n1, .slice A2 d.bys.length n2, .slice A3 ks.length n3)) := ⟨HPX.out.only.low_then (put11_below (Nat.le_refl _) ..), HGX.out.above (put11_below (by omega) ..), HTX.out.far (put11_only ..) (by omega)⟩
  show bodyPost _ _ _ _ _ (put11 w2 w.heap.size (.int .i64 d.kind) (.int .i64 d.fn) (.int .i64 d.win) (.int .i64 d.off) (.int .i64 d.k) (.int .i64 d.num) (.int .i64 d.den) (.string d.name) (.slice A1 d.ms.length n1) (.slice A2 d.bys.length n2) (.slice A3 ks.length n3))
  generalize (put11 w2 w.heap.size (.int .i64 d.kind) (.int .i64 d.fn) (.int .i64 d.win) (.int .i64 d.off) (.int .i64 d.k) (.int .i64 d.num) (.int .i64 d.den) (.string d.name) (.slice A1 d.ms.length n1) (.slice A2 d.bys.length n2) (.slice A3 ks.length n3)) = WF at HF HA ⊢
  clear HPX HGX HTX z0 z1 z2 z3 z4 z5 z6 z7 z8 z9 z10 zf
  obtain ⟨e0, e1, e2, e3, e4, e5, e6, e7, e8, e9, e10⟩ := blk11 HF.out
  simp only [Nat.zero_add] at e1 e2 e3 e4 e5 e6 e7 e8 e9 e10
  have ef := HF.out.frozen
  refine bodyPost_ret (v := .agg (ndC d (.slice A1 d.ms.length n1) (.slice A2 d.bys.length n2) (.slice A3 ks.length n3))) (by simp [results, Tryz.results32, go_sem, e0, e1, e2, e3, e4, e5, e6, e7, e8, e9, e10, ef]) rfl ?_
  obtain ⟨y1, y2, y3, y4, y5⟩ := HGD.out
  exact ⟨.node d ks, (.slice A1 d.ms.length n1, .slice A2 d.bys.length n2, .slice A3 ks.length n3), i8, rfl, HA.out.2.2.lower (by omega), y1, by omega, by omega, by omega, by omega, HA.out.2.1, HA.out.1⟩
 have k6 : (pickZ l i 8 == 4) = false := by simpa using k5
 have k7 : ¬ pickZ l i 8 < 3 := by omega
 clear k0 k5
 go_wp2_with fail
 (with_reducible refine (next_any g lv nv l ns most (i + 1) 4 _ HG1.out (by omega) (by omega) h41 h42).mono ?_)
 rintro e w2 ⟨rfl, hg2, hs2⟩
 have HP2 := Box.mk (HP1.out.next hgs hs2.only)
 have HG2 := Box.mk hg2
 obtain ⟨f1, f2⟩ := pick_bd l (i + 1) 4 h41
 clear hg2 hs2 HP1 HG1
 go_wp2_with fail
 (with_reducible refine (HE2.out _ _ HG2.out (by omega) (by omega)).mono ?_)
 rintro e w3 ⟨t, s, i3, rfl, ht, hgd, hd, hn, hi3, hi4, hg, ho⟩
 obtain ⟨d1, k1⟩ := t
 obtain ⟨mv, bv, kv⟩ := s
 obtain ⟨A1, n1, rfl, -⟩ := ht.form.1
 obtain ⟨A2, n2, rfl, -⟩ := ht.form.2.1
 obtain ⟨A3, n3, rfl, -⟩ := ht.form.2.2
 simp only [Tree.d]
 have hlow2 := HP2.out.R.lt
 have hlow3 := ho.size
 have HP3 := Box.mk ((HP2.out.next hgs ho).alloc (.cells (ndC d1 (.slice A1 d1.ms.length n1) (.slice A2 d1.bys.length n2) (.slice A3 k1.length n3)) 35))
 have HG3 := Box.mk (hg.alloc (.cells (ndC d1 (.slice A1 d1.ms.length n1) (.slice A2 d1.bys.length n2) (.slice A3 k1.length n3)) 35))
 have HT3 := Box.mk ((ht.lower (B' := w.heap.size + 1) (by omega)).belo (bel1 w3 (.cells (ndC d1 (.slice A1 d1.ms.length n1) (.slice A2 d1.bys.length n2) (.slice A3 k1.length n3)) 35)))
 have HK3 : Box (Blk (w3.alloc (.cells (ndC d1 (.slice A1 d1.ms.length n1) (.slice A2 d1.bys.length n2) (.slice A3 k1.length n3)) 35)) w3.heap.size 35 (ndC d1 (.slice A1 d1.ms.length n1) (.slice A2 d1.bys.length n2) (.slice A3 k1.length n3))) := ⟨Blk.new _ _ _⟩
 have HD3 := Box.mk (And.intro hgd (And.intro hd (And.intro hn (And.intro hi3 hi4))))
 have hz3 : w3.heap.size < (w3.alloc (.cells (ndC d1 (.slice A1 d1.ms.length n1) (.slice A2 d1.bys.length n2) (.slice A3 k1.length n3)) 35)).heap.size := by simp
 clear ht hgd hd hn hg ho HP2 HG2
 go_upto_region 11 with (fail)
 generalize w3.alloc (.cells (ndC d1 (.slice A1 d1.ms.length n1) (.slice A2 d1.bys.length n2) (.slice A3 k1.length n3)) 35) = W3 at HP3 HG3 HT3 HK3 hz3 ⊢
 generalize w3.heap.size = lb at *
 go_wp2_with fail
 (with_reducible refine (HE2.out _ _ HG3.out (by omega) (by omega)).mono ?_)
 rintro e w4 ⟨t, s, i4, rfl, ht, hgd, hd, hn, hi5, hi6, hg, ho⟩
 obtain ⟨d2, k2⟩ := t
 obtain ⟨mv, bv, kv⟩ := s
 obtain ⟨B1, m1, rfl, -⟩ := ht.form.1
 obtain ⟨B2, m2, rfl, -⟩ := ht.form.2.1
 obtain ⟨B3, m3, rfl, -⟩ := ht.form.2.2
 simp only [Tree.d]
 have hlow4 := ho.size
 have HT4 : Box (∃ L : Nat → Nat, TreeG w4 (fun b e => w.heap.size + 1 ≤ b ∧ b < W3.heap.size ∧ e = L b) (.node d1 k1) (.slice A1 d1.ms.length n1, .slice A2 d1.bys.length n2, .slice A3 k1.length n3)) := ⟨by
  obtain ⟨L, hL⟩ := HT3.out
  exact ⟨L, (hL.mono fun b e hb hp => ⟨hp.1, hb, hp.2⟩).keep (AgreeB.of_only ho fun b e hp => by have := hp.1; omega)⟩⟩
 have HT5 := Box.mk ht
 have HK4 := Box.mk ((ho.blk HK3.out (by omega)).alloc (.cells (ndC d2 (.slice B1 d2.ms.length m1) (.slice B2 d2.bys.length m2) (.slice B3 k2.length m3)) 35))
 have HK5 : Box (Blk (w4.alloc (.cells (ndC d2 (.slice B1 d2.ms.length m1) (.slice B2 d2.bys.length m2) (.slice B3 k2.length m3)) 35)) w4.heap.size 35 (ndC d2 (.slice B1 d2.ms.length m1) (.slice B2 d2.bys.length m2) (.slice B3 k2.length m3))) := ⟨Blk.new _ _ _⟩
 have HPB := Box.mk ((HP3.out.next hgs ho).alloc (.cells (ndC d2 (.slice B1 d2.ms.length m1) (.slice B2 d2.bys.length m2) (.slice B3 k2.length m3)) 35))
 have HGB := Box.mk (hg.alloc (.cells (ndC d2 (.slice B1 d2.ms.length m1) (.slice B2 d2.bys.length m2) (.slice B3 k2.length m3)) 35))
 have HTB : Box (TreeF ((w4.alloc (.cells (ndC d2 (.slice B1 d2.ms.length m1) (.slice B2 d2.bys.length m2) (.slice B3 k2.length m3)) 35)).alloc (.cells #[(.int .i64 d1.kind), (.int .i64 d1.fn), (.int .i64 d1.win), (.int .i64 d1.off), (.int .i64 d1.k), (.int .i64 d1.num), (.int .i64 d1.den), (.string d1.name), (.slice A1 d1.ms.length n1), (.slice A2 d1.bys.length n2), (.slice A3 k1.length n3), (.int .i64 d2.kind), (.int .i64 d2.fn), (.int .i64 d2.win), (.int .i64 d2.off), (.int .i64 d2.k), (.int .i64 d2.num), (.int .i64 d2.den), (.string d2.name), (.slice B1 d2.ms.length m1), (.slice B2 d2.bys.length m2), (.slice B3 k2.length m3)] 35)) (w.heap.size + 1) (.node (⟨3, pickZ l (i + 1) 4, 0, 0, 0, 0, 0, ⟨#[]⟩, [], []⟩ : Nd) [.node d1 k1, .node d2 k2]) (nilV, nilV, .slice (some ⟨(w4.alloc (.cells (ndC d2 (.slice B1 d2.ms.length m1) (.slice B2 d2.bys.length m2) (.slice B3 k2.length m3)) 35)).heap.size, 0, none⟩) 2 2)) := ⟨by
  obtain ⟨L, hL⟩ := HT4.out
  exact tree_two (t := .node d1 k1) (u := .node d2 k2) (s := (.slice A1 d1.ms.length n1, .slice A2 d1.bys.length n2, .slice A3 k1.length n3)) (r := (.slice B1 d2.ms.length m1, .slice B2 d2.bys.length m2, .slice B3 k2.length m3)) (B1 := W3.heap.size) (selN_ok (GoodN.bin (ns := ns) (most := most) _ f1 f2) hok hm2) rfl rfl (by omega) (HT5.out.belo (bel1 _ _)) (by simp; omega) ⟨L, hL.belo (bel1 _ _)⟩⟩
 have HD4 := Box.mk (And.intro hgd (And.intro hd (And.intro hn (And.intro hi5 hi6))))
 have hz4 : w4.heap.size < (w4.alloc (.cells (ndC d2 (.slice B1 d2.ms.length m1) (.slice B2 d2.bys.length m2) (.slice B3 k2.length m3)) 35)).heap.size := by simp
 clear ht hgd hd hn hg ho HP3 HG3 HT3 HT4 HT5 HK3
 go_upto_region 12 with (fail)
 generalize w4.alloc (.cells (ndC d2 (.slice B1 d2.ms.length m1) (.slice B2 d2.bys.length m2) (.slice B3 k2.length m3)) 35) = WB at HPB HGB HTB HK4 HK5 hz4 ⊢
 generalize w4.heap.size = rb at *
 obtain ⟨a0, a1, a2, a3, a4, a5, a6, a7, a8, a9, a10⟩ := blk11 HK4.out
 obtain ⟨b0, b1, b2, b3, b4, b5, b6, b7, b8, b9, b10⟩ := blk11 HK5.out
 simp only [Nat.zero_add] at a1 a2 a3 a4 a5 a6 a7 a8 a9 a10 b1 b2 b3 b4 b5 b6 b7 b8 b9 b10
 have HPX := Box.mk (HPB.out.alloc (.cells #[(.int .i64 d1.kind), (.int .i64 d1.fn), (.int .i64 d1.win), (.int .i64 d1.off), (.int .i64 d1.k), (.int .i64 d1.num), (.int .i64 d1.den), (.string d1.name), (.slice A1 d1.ms.length n1), (.slice A2 d1.bys.length n2), (.slice A3 k1.length n3), (.int .i64 d2.kind), (.int .i64 d2.fn), (.int .i64 d2.win), (.int .i64 d2.off), (.int .i64 d2.k), (.int .i64 d2.num), (.int .i64 d2.den), (.string d2.name), (.slice B1 d2.ms.length m1), (.slice B2 d2.bys.length m2), (.slice B3 k2.length m3)] 35))
 have HGX := Box.mk (HGB.out.alloc (.cells #[(.int .i64 d1.kind), (.int .i64 d1.fn), (.int .i64 d1.win), (.int .i64 d1.off), (.int .i64 d1.k), (.int .i64 d1.num), (.int .i64 d1.den), (.string d1.name), (.slice A1 d1.ms.length n1), (.slice A2 d1.bys.length n2), (.slice A3 k1.length n3), (.int .i64 d2.kind), (.int .i64 d2.fn), (.int .i64 d2.win), (.int .i64 d2.off), (.int .i64 d2.k), (.int .i64 d2.num), (.int .i64 d2.den), (.string d2.name), (.slice B1 d2.ms.length m1), (.slice B2 d2.bys.length m2), (.slice B3 k2.length m3)] 35))
 obtain ⟨z0, z1, z2, z3, z4, z5, z6, z7, z8, z9, z10⟩ := blk11 HPX.out.R
 simp only [Nat.zero_add] at z1 z2 z3 z4 z5 z6 z7 z8 z9 z10
 have zf := HPX.out.R.frozen
 go_wp2_with fail
 clear a0 a1 a2 a3 a4 a5 a6 a7 a8 a9 a10 b0 b1 b2 b3 b4 b5 b6 b7 b8 b9 b10 HK4 HK5
 have HTX := Box.mk HTB.out
 clear HTB HPB HGB
 have HF : Box (Blk (put11 (WB.alloc (.cells #[(.int .i64 d1.kind), (.int .i64 d1.fn), (.int .i64 d1.win), (.int .i64 d1.off), (.int .i64 d1.k), (.int .i64 d1.num), (.int .i64 d1.den), (.string d1.name), (.slice A1 d1.ms.length n1), (.slice A2 d1.bys.length n2), (.slice A3 k1.length n3), (.int .i64 d2.kind), (.int .i64 d2.fn), (.int .i64 d2.win), (.int .i64 d2.off), (.int .i64 d2.k), (.int .i64 d2.num), (.int .i64 d2.den), (.string d2.name), (.slice B1 d2.ms.length m1), (.slice B2 d2.bys.length m2), (.slice B3 k2.length m3)] 35)) w.heap.size (.int .i64 3) (.int .i64 (pickZ l (i + 1) 4)) (.int .i64 0) (.int .i64 0) (.int .i64 0) (.int .i64 0) (.int .i64 0) (.string ⟨#[]⟩) nilV nilV (.slice (some ⟨WB.heap.size, 0, none⟩) 2 2)) w.heap.size 35 (ndC (⟨3, pickZ l (i + 1) 4, 0, 0, 0, 0, 0, ⟨#[]⟩, [], []⟩ : Nd) nilV nilV (.slice (some ⟨WB.heap.size, 0, none⟩) 2 2))) := ⟨put11_blk HPX.out.R⟩
 have HA : Box (Only g w (put11 (WB.alloc (.cells #[(.int .i64 d1.kind), (.int .i64 d1.fn), (.int .i64 d1.win), (.int .i64 d1.off), (.int .i64 d1.k), (.int .i64 d1.num), (.int .i64 d1.den), (.string d1.name), (.slice A1 d1.ms.length n1), (.slice A2 d1.bys.length n2), (.slice A3 k1.length n3), (.int .i64 d2.kind), (.int .i64 d2.fn), (.int .i64 d2.win), (.int .i64 d2.off), (.int .i64 d2.k), (.int .i64 d2.num), (.int .i64 d2.den), (.string d2.name), (.slice B1 d2.ms.length m1), (.slice B2 d2.bys.length m2), (.slice B3 k2.length m3)] 35)) w.heap.size (.int .i64 3) (.int .i64 (pickZ l (i + 1) 4)) (.int .i64 0) (.int .i64 0) (.int .i64 0) (.int .i64 0) (.int .i64 0) (.string ⟨#[]⟩) nilV nilV (.slice (some ⟨WB.heap.size, 0, none⟩) 2 2)) ∧ GenAt (put11 (WB.alloc (.cells #[(.int .i64 d1.kind), (.int .i64 d1.fn), (.int .i64 d1.win), (.int .i64 d1.off), (.int .i64 d1.k), (.int .i64 d1.num), (.int .i64 d1.den), (.string d1.name), (.slice A1 d1.ms.length n1), (.slice A2 d1.bys.length n2), (.slice A3 k1.length n3), (.int .i64 d2.kind), (.int .i64 d2.fn), (.int .i64 d2.win), (.int .i64 d2.off), (.int .i64 d2.k), (.int .i64 d2.num), (.int .i64 d2.den), (.string d2.name), (.slice B1 d2.ms.length m1), (.slice B2 d2.bys.length m2), (.slice B3 k2.length m3)] 35)) w.heap.size (.int .i64 3) (.int .i64 (pickZ l (i + 1) 4)) (.int .i64 0) (.int .i64 0) (.int .i64 0) (.int .i64 0) (.int .i64 0) (.string ⟨#[]⟩) nilV nilV (.slice (some ⟨WB.heap.size, 0, none⟩) 2 2)) g i4 lv nv l ns most ∧ TreeF (put11 (WB.alloc (.cells #[(.int .i64 d1.kind), (.int .i64 d1.fn), (.int .i64 d1.win), (.int .i64 d1.off), (.int .i64 d1.k), (.int .i64 d1.num), (.int .i64 d1.den), (.string d1.name), (.slice A1 d1.ms.length n1), (.slice A2 d1.bys.length n2), (.slice A3 k1.length n3), (.int .i64 d2.kind), (.int .i64 d2.fn), (.int .i64 d2.win), (.int .i64 d2.off), (.int .i64 d2.k), (.int .i64 d2.num), (.int .i64 d2.den), (.string d2.name), (.slice B1 d2.ms.length m1), (.slice B2 d2.bys.length m2), (.slice B3 k2.length m3)] 35)) w.heap.size (.int .i64 3) (.int .i64 (pickZ l (i + 1) 4)) (.int .i64 0) (.int .i64 0) (.int .i64 0) (.int .i64 0) (.int .i64 0) (.string ⟨#[]⟩) nilV nilV (.slice (some ⟨WB.heap.size, 0, none⟩) 2 2)) (w.heap.size + 1) (.node (⟨3, pickZ l (i + 1) 4, 0, 0, 0, 0, 0, ⟨#[]⟩, [], []⟩ : Nd) [.node d1 k1, .node d2 k2]) (nilV, nilV, (.slice (some ⟨WB.heap.size, 0, none⟩) 2 2))) := ⟨HPX.out.only.low_then (put11_below (Nat.le_refl _) ..), HGX.out.above (put11_below (by omega) ..), HTX.out.far (put11_only ..) (by omega)⟩
 show bodyPost _ _ _ _ _ (put11 (WB.alloc (.cells #[(.int .i64 d1.kind), (.int .i64 d1.fn), (.int .i64 d1.win), (.int .i64 d1.off), (.int .i64 d1.k), (.int .i64 d1.num), (.int .i64 d1.den), (.string d1.name), (.slice A1 d1.ms.length n1), (.slice A2 d1.bys.length n2), (.slice A3 k1.length n3), (.int .i64 d2.kind), (.int .i64 d2.fn), (.int .i64 d2.win), (.int .i64 d2.off), (.int .i64 d2.k), (.int .i64 d2.num), (.int .i64 d2.den), (.string d2.name), (.slice B1 d2.ms.length m1), (.slice B2 d2.bys.length m2), (.slice B3 k2.length m3)] 35)) w.heap.size (.int .i64 3) (.int .i64 (pickZ l (i + 1) 4)) (.int .i64 0) (.int .i64 0) (.int .i64 0) (.int .i64 0) (.int .i64 0) (.string ⟨#[]⟩) nilV nilV (.slice (some ⟨WB.heap.size, 0, none⟩) 2 2))
 generalize (put11 (WB.alloc (.cells #[(.int .i64 d1.kind), (.int .i64 d1.fn), (.int .i64 d1.win), (.int .i64 d1.off), (.int .i64 d1.k), (.int .i64 d1.num), (.int .i64 d1.den), (.string d1.name), (.slice A1 d1.ms.length n1), (.slice A2 d1.bys.length n2), (.slice A3 k1.length n3), (.int .i64 d2.kind), (.int .i64 d2.fn), (.int .i64 d2.win), (.int .i64 d2.off), (.int .i64 d2.k), (.int .i64 d2.num), (.int .i64 d2.den), (.string d2.name), (.slice B1 d2.ms.length m1), (.slice B2 d2.bys.length m2), (.slice B3 k2.length m3)] 35)) w.heap.size (.int .i64 3) (.int .i64 (pickZ l (i + 1) 4)) (.int .i64 0) (.int .i64 0) (.int .i64 0) (.int .i64 0) (.int .i64 0) (.string ⟨#[]⟩) nilV nilV (.slice (some ⟨WB.heap.size, 0, none⟩) 2 2)) = WF at HF HA ⊢
 clear HPX HGX HTX z0 z1 z2 z3 z4 z5 z6 z7 z8 z9 z10 zf
 obtain ⟨e0, e1, e2, e3, e4, e5, e6, e7, e8, e9, e10⟩ := blk11 HF.out
 simp only [Nat.zero_add] at e1 e2 e3 e4 e5 e6 e7 e8 e9 e10
 have ef := HF.out.frozen
 refine bodyPost_ret (v := .agg (ndC (⟨3, pickZ l (i + 1) 4, 0, 0, 0, 0, 0, ⟨#[]⟩, [], []⟩ : Nd) nilV nilV (.slice (some ⟨WB.heap.size, 0, none⟩) 2 2))) (by simp [results, Tryz.results32, go_sem, e0, e1, e2, e3, e4, e5, e6, e7, e8, e9, e10, ef]) rfl ?_
 obtain ⟨y1, y2, y3, y4, y5⟩ := HD3.out
 obtain ⟨x1, x2, x3, x4, x5⟩ := HD4.out
 refine ⟨.node (⟨3, pickZ l (i + 1) 4, 0, 0, 0, 0, 0, ⟨#[]⟩, [], []⟩ : Nd) [.node d1 k1, .node d2 k2], (nilV, nilV, (.slice (some ⟨WB.heap.size, 0, none⟩) 2 2)), i4, rfl, HA.out.2.2.lower (by omega), .mk _ _ (.bin _ f1 f2) (fun u hu => by simp at hu; rcases hu with rfl | rfl <;> assumption), ?_, ?_, by omega, by omega, HA.out.2.1, HA.out.1⟩
 ·rw [dep, depL, depL, depL]; omega
 ·rw [nds, ndsL, ndsL, ndsL]; omega
end
end Go.Proofs.YtpgdijbfkahepaaGreatDoor
