/- Contracts, packed: Mf. -/
import Derived.Test.YthoibeajhdhdhaaGreatDoorPs38
set_option linter.unusedVariables false
set_option linter.unusedSimpArgs false
namespace Go.Proofs.YthoibeajhdhdhaaGreatDoor
section
open Go.RowKit FracM
def kpB (d : Nd) : List UInt8 := if d.fn = 4 then 40 :: (Lib.itoa d.k ++ [41]) else []
def preB (d : Nd) : List UInt8 := if d.fn = 4 then [98, 121, 40] else [32, 98, 121, 40]
def bysP (pre : List UInt8) : List ByteArray → List UInt8
 | [] => []
 | x :: xs => pre ++ (x.data.toList ++ xs.flatMap fun y => 44 :: y.data.toList)
/-- the text of the names, before number k -/
def accB (d : Nd) (k : Nat) : List UInt8 := bysP (preB d) (d.bys.take k) ++ (if k = d.bys.length ∧ 0 < k then [41] else [])
theorem accB_zero (d : Nd) : accB d 0 = [] := by unfold accB; simp [bysP]
theorem bysP_snoc (pre : List UInt8) (l : List ByteArray) (x : ByteArray) : bysP pre (l ++ [x]) = bysP pre l ++ ((if l.length = 0 then pre else [44]) ++ x.data.toList) := by
 cases l with
 | nil => simp [bysP]
 | cons y l => simp [bysP]
theorem accB_step {d : Nd} {k : Nat} {x : ByteArray} (h : d.bys[k]? = some x) : accB d (k + 1) = (accB d k ++ ((if k = 0 then preB d else [44]) ++ x.data.toList)) ++ (if k + 1 = d.bys.length then [41] else []) := by
 have hk := (List.getElem?_eq_some_iff.1 h).1
 unfold accB
 rw [List.take_add_one, h, Option.toList_some, bysP_snoc, List.length_take, Nat.min_eq_left (by omega)]
 rw [if_neg (show ¬ (k = d.bys.length ∧ 0 < k) by omega), List.append_nil]
 congr 1
 by_cases he : k + 1 = d.bys.length
 ·rw [if_pos ⟨he, by omega⟩, if_pos he]
 ·rw [if_neg (by omega), if_neg he]
theorem bysR_flat (l : List ByteArray) : bysR l = (l.flatMap fun x => 44 :: x.data.toList) ++ [41] := by
 induction l with
 | nil => rfl
 | cons m ms ih => rw [bysR, ih]; simp
theorem grpL_acc (d : Nd) : grpL d = (groupsT.getD d.fn.toNat [] ++ kpB d) ++ accB d d.bys.length := by
 unfold grpL accB kpB preB
 rw [List.take_of_length_le (Nat.le_refl _)]
 cases hb : d.bys with
 | nil => simp [bysP, bysL]
 | cons x xs =>
  rw [bysL, bysR_flat]
  by_cases h4 : d.fn = 4 <;> simp [h4, bysP]
theorem bysP_le (pre : List UInt8) (l : List ByteArray) (k : Nat) : (bysP pre (l.take k)).length ≤ (bysP pre l).length := by
 cases l with
 | nil => simp
 | cons x xs =>
  cases k with
  | zero => simp [bysP]
  | succ n =>
   simp only [List.take_succ_cons, bysP, List.length_append]
   have : ((xs.take n).flatMap fun x => 44 :: x.data.toList).length ≤ (xs.flatMap fun x => 44 :: x.data.toList).length := by
    conv => rhs; rw [← List.take_append_drop n xs]
    rw [List.flatMap_append, List.length_append]; omega
   omega
theorem accB_le (d : Nd) (k : Nat) : (accB d k).length ≤ (accB d d.bys.length).length := by
 unfold accB
 rw [List.take_of_length_le (Nat.le_refl d.bys.length)]
 have h := bysP_le (preB d) d.bys k
 simp only [List.length_append]
 by_cases he : k = d.bys.length ∧ 0 < k
 ·rw [if_pos he, if_pos (by constructor <;> first | trivial | omega)]; omega
 ·rw [if_neg he]; simp only [List.length_nil]; omega
set_option maxHeartbeats 4000000 in
set_option maxRecDepth 100000 in
theorem rgrp_any (d : Nd) (ks : List Tree) (P : Nat → Nat → Prop) (w : World) (mv bv kv : Value) (hT : TreeAt w P (.node d ks) (mv, bv, kv)) (hfn : 0 ≤ d.fn ∧ d.fn ≤ 4) (hlen : (grpL d).length ≤ 1000) :
  Calls Tryz.prog 67 #[.agg (ndC d mv bv kv)] w (RetB (.string (bsL (grpL d))) w) := by
 have HN := Box.mk (N1.start hT)
 obtain ⟨A2, n2, rfl, l2⟩ := hT.nod.bys.form
 have HO := Box.mk hT.nod.ok
 obtain ⟨fn, hfe⟩ : ∃ k : Nat, d.fn = k := ⟨d.fn.toNat, by omega⟩
 have HFN : Box (d.fn = (fn : Int) ∧ fn < 5) := ⟨hfe, by omega⟩
 have HGE := Box.mk (grpL_acc d)
 have HX : Box ((groupsT.getD fn []).length + ((kpB d).length + (accB d d.bys.length).length) ≤ 1000) := ⟨by rw [HGE.out] at hlen; rw [show d.fn.toNat = fn by rw [HFN.out.1]; rfl] at hlen; simpa [List.length_append] using hlen⟩
 have hfn2 : (fn : Int) < 5 := by omega
 have hfn0 : (0 : Int) ≤ (fn : Int) := by omega
 have HKI := HO.out.ints.2.2.2.2.1
 unfold I64 at HKI
 clear hT hlen hfe hfn
 go_enter Tryz.func67, Tryz.ntmps67
 go_upto_region 1 with (fail)
 have HSZ : Box ((w.alloc (.cells (ndC d mv (.slice A2 d.bys.length n2) kv) exT)).heap.size = w.heap.size + 1) := ⟨by simp⟩
 generalize w.alloc (.cells (ndC d _ _ _) exT) = wr at HN HSZ ⊢
 obtain ⟨c0, c1, c2, c3, c4, c5, c6, c7, c8, c9, c10⟩ := HN.out.c
 simp only [Nat.zero_add] at c1
 clear c0 c2 c3 c4 c5 c6 c7 c8 c9 c10
 rw [HFN.out.1] at c1
 obtain ⟨gb, hgb⟩ : ∃ x : ByteArray, bsL (groupsT.getD fn []) = x := ⟨_, rfl⟩
 have HFC : Box ((wr.drew.alloc (.cells #[.string ⟨#[115, 117, 109]⟩, .string ⟨#[109, 105, 110]⟩, .string ⟨#[109, 97, 120]⟩, .string ⟨#[99, 111, 117, 110, 116]⟩, .string ⟨#[107, 116, 104]⟩] 9)).cell? ⟨wr.heap.size, fn, none⟩ = some (.string gb)) := ⟨by rw [← hgb]; exact grp_cell (Blk.new wr.drew _ _) fn HFN.out.2⟩
 have HSN : Box (N1 w (wr.alloc (.cells #[.string ⟨#[115, 117, 109]⟩, .string ⟨#[109, 105, 110]⟩, .string ⟨#[109, 97, 120]⟩, .string ⟨#[99, 111, 117, 110, 116]⟩, .string ⟨#[107, 116, 104]⟩] 9)).drew P d ks mv (.slice A2 d.bys.length n2) kv) := ⟨(HN.out.next (bel1 wr _)).next (below_drewN _ 1)⟩
 have S0 : Box (gb = bsL (groupsT.getD fn [])) := ⟨hgb.symm⟩
 clear hgb
 refine wp_region_H (S := (fun w' : World => w'.cell? ⟨w.heap.size, 1, none⟩ = some (.int .i64 (fn : Int)))) (by kernel_rfl) (by exact cell_drew c1) (fun hHeld => ?_)
 refine wpAnyH_take (i := 1) (v := ?_) rfl (by kernel_rfl) (by kernel_rfl) (by kernel_rfl) (fun _ _ _ h => h) (Or.inl ⟨by rfl, ?_⟩) (by assumption) ?_
 rotate_left
 ·(intro wq hSw; (try dsimp only at hSw); go_simp)
  all_goals with_reducible rfl
 (try simp only [List.getElem_toArray, List.getElem_cons_zero, List.getElem_cons_succ, Act.put, List.setIfInBounds_toArray, List.set_cons_zero, List.set_cons_succ])
 refine wpAnyH_take (i := 2) (v := ?_) rfl (by kernel_rfl) (by kernel_rfl) (by kernel_rfl) (fun _ _ _ h => h) (Or.inl ⟨by rfl, ?_⟩) (by assumption) ?_
 rotate_left
 ·(intro wq hSw; (try dsimp only at hSw); go_simp)
  all_goals with_reducible rfl
 (try simp only [List.getElem_toArray, List.getElem_cons_zero, List.getElem_cons_succ, Act.put, List.setIfInBounds_toArray, List.set_cons_zero, List.set_cons_succ])
 refine wpAnyH_one 0 (by kernel_rfl) rfl (fun K' hK' => ?_)
 (try rw [if_pos (by rfl)])
 go_simp
 refine (rgroupsM_any _).mono ?_
 rintro e w4 ⟨rfl, rfl⟩
 go_wp2_with fail
 refine hK'.out _ _ (cell_alloc' _ (cell_drew c1)) (fun hHq => ?_)
 clear hHeld
 have hHeld := hHq
 clear hHq hK' K'
 (try simp only [List.getElem_toArray, List.getElem_cons_zero, List.getElem_cons_succ, Act.put, List.setIfInBounds_toArray, List.set_cons_zero, List.set_cons_succ])
 have hHeld2 : (fun w' : World => w'.cell? ⟨w.heap.size, 1, none⟩ = some (.int .i64 (fn : Int)) ∧ w'.cell? ⟨wr.heap.size, fn, none⟩ = some (.string gb)) _ := ⟨cell_alloc' _ (cell_drew c1), HFC.out⟩
 clear hHeld
 have hHeld := hHeld2
 clear hHeld2
 refine wpAnyH_grow (S2 := (fun w' : World => w'.cell? ⟨w.heap.size, 1, none⟩ = some (.int .i64 (fn : Int)) ∧ w'.cell? ⟨wr.heap.size, fn, none⟩ = some (.string gb))) (fun _ h => h.1) ?_
 refine wpAnyH_takeQ (i := 3) 18 #[.int .i64 (fn : Int), .int .i64 5] rfl (by kernel_rfl) (by kernel_rfl) (by kernel_rfl) (fun _ _ _ h => h) (by rfl) (by intro wq; go_simp) (fun wq hSw => around_id fn 5 wq hfn2 (by omega)) (by assumption) ?_
 (try simp only [List.getElem_toArray, List.getElem_cons_zero, List.getElem_cons_succ, Act.put, List.setIfInBounds_toArray, List.set_cons_zero, List.set_cons_succ])
 refine wpAnyH_take (i := 4) (v := ?_) rfl (by kernel_rfl) (by kernel_rfl) (by kernel_rfl) (fun _ _ _ h => h) (Or.inl ⟨by rfl, ?_⟩) (by assumption) ?_
 rotate_left
 ·(intro wq hSw; (try dsimp only at hSw); obtain ⟨hS1, hS2⟩ := hSw; go_simp)
  all_goals with_reducible rfl
 (try simp only [List.getElem_toArray, List.getElem_cons_zero, List.getElem_cons_succ, Act.put, List.setIfInBounds_toArray, List.set_cons_zero, List.set_cons_succ])
 refine wpAnyH_take (i := 5) (v := ?_) rfl (by kernel_rfl) (by kernel_rfl) (by kernel_rfl) (fun _ _ _ h => h) (Or.inl ⟨by rfl, ?_⟩) (by assumption) ?_
 rotate_left
 ·(intro wq hSw; (try dsimp only at hSw); obtain ⟨hS1, hS2⟩ := hSw; go_simp)
  all_goals with_reducible rfl
 (try simp only [List.getElem_toArray, List.getElem_cons_zero, List.getElem_cons_succ, Act.put, List.setIfInBounds_toArray, List.set_cons_zero, List.set_cons_succ])
 refine wpAnyH_take (i := 6) (v := ?_) rfl (by kernel_rfl) (by kernel_rfl) (by kernel_rfl) (fun _ _ _ h => h) (Or.inl ⟨by rfl, ?_⟩) (by assumption) ?_
 rotate_left
 ·(intro wq hSw; (try dsimp only at hSw); obtain ⟨hS1, hS2⟩ := hSw; go_simp)
  all_goals with_reducible rfl
 (try simp only [List.getElem_toArray, List.getElem_cons_zero, List.getElem_cons_succ, Act.put, List.setIfInBounds_toArray, List.set_cons_zero, List.set_cons_succ])
 refine wpAnyH_done (by kernel_rfl) ?_ _
 clear HFC HN c1 hHeld
 generalize (wr.alloc (.cells #[.string ⟨#[115, 117, 109]⟩, .string ⟨#[109, 105, 110]⟩, .string ⟨#[109, 97, 120]⟩, .string ⟨#[99, 111, 117, 110, 116]⟩, .string ⟨#[107, 116, 104]⟩] 9)).drew = w4 at HSN ⊢
 have HN := Box.mk HSN.out
 clear HSN
 obtain ⟨c0, c1, c2, c3, c4, c5, c6, c7, c8, c9, c10⟩ := HN.out.c
 simp only [Nat.zero_add] at c1 c4
 clear c0 c2 c3 c5 c6 c7 c8 c9 c10
 rw [HFN.out.1] at c1
 obtain ⟨q4, hq4⟩ : ∃ q : Bool, ((fn : Int) == 4) = q := ⟨_, rfl⟩
 go_upto_region 2 with (fail)
 go_upto_if 13 with (fail)
 have HQ4 : Box (q4 = decide (fn = 4)) := ⟨by rw [← hq4]; by_cases h0 : fn = 4 <;> simp [h0] <;> omega⟩
 clear hq4
 go_cut [3] (fun v wx => wx = w4 ∧ ∃ s, v = .string s ∧ Box (s = bsL (groupsT.getD fn [] ++ kpB d)))
 case first =>
  cases q4
  ·have HE : Box (kpB d = []) := ⟨by unfold kpB; rw [HFN.out.1, if_neg (by have := of_decide_eq_false HQ4.out.symm; omega)]⟩
   go_wp2_with fail
   go_meet
   exact ⟨rfl, gb, rfl, ⟨by rw [HE.out, List.append_nil]; exact S0.out⟩⟩
  ·have HE : Box (kpB d = 40 :: (Lib.itoa d.k ++ [41])) := ⟨by unfold kpB; rw [HFN.out.1, if_pos (by have := of_decide_eq_true HQ4.out.symm; omega)]⟩
   obtain ⟨kb, hkb⟩ : ∃ x : ByteArray, bsL (Lib.itoa d.k) = x := ⟨_, rfl⟩
   have HKB : Box (bsL (Lib.itoa d.k) = kb) := ⟨hkb⟩
   obtain ⟨t1, T1, a1⟩ := add_x gb ⟨#[40]⟩ _ [40] S0.out rfl (by have := HX.out; rw [HE.out] at this; simp only [List.length_append, List.length_cons, List.length_nil] at this ⊢; omega)
   obtain ⟨t2, T2, a2⟩ := add_x t1 kb _ (Lib.itoa d.k) T1.out hkb.symm (by have := HX.out; rw [HE.out] at this; simp only [List.length_append, List.length_cons, List.length_nil] at this ⊢; omega)
   obtain ⟨t3, T3, a3⟩ := add_x t2 ⟨#[41]⟩ _ [41] T2.out rfl (by have := HX.out; rw [HE.out] at this; simp only [List.length_append, List.length_cons, List.length_nil] at this ⊢; omega)
   clear hkb
   go_wp2_with (go_at_call 19; refine (deci_ib HKB.out _ HKI.1 HKI.2).mono ?_; rintro e w' ⟨rfl, rfl⟩)
   go_meet
   exact ⟨rfl, t3, rfl, ⟨by rw [T3.out, HE.out]; simp⟩⟩
 case rest =>
  obtain ⟨rfl, s0, rfl, S1⟩ := hcut
  rename World => w4
  clear c1 c4 S0 HQ4
  go_wp2_with fail
  go_loopw [3, 4] (fun u v wr => ∃ k : Nat, k ≤ d.bys.length ∧ v = .int .i64 (k : Nat) ∧ (∃ s, u = .string s ∧ Box (s = bsL ((groupsT.getD fn [] ++ kpB d) ++ accB d k))) ∧ N1 w wr P d ks mv (.slice A2 d.bys.length n2) kv) (fun _ v _ => d.bys.length - (intOf v).toNat)
  case atStart => exact ⟨0, by omega, rfl, ⟨s0, rfl, ⟨by rw [accB_zero, List.append_nil]; exact S1.out⟩⟩, HN.out⟩
  case round =>
   clear HN S1
   obtain ⟨k, hk, rfl, ⟨s, rfl, S⟩, hN⟩ := hrel
   have HN := Box.mk hN; clear hN
   obtain ⟨c0, c1, c2, c3, c4, c5, c6, c7, c8, c9, c10⟩ := HN.out.c
   simp only [Nat.zero_add] at c1 c9
   clear c0 c2 c3 c4 c5 c6 c7 c8 c10
   rw [HFN.out.1] at c1
   by_cases hlt : k < d.bys.length
   ·obtain ⟨x, hx⟩ : ∃ x, d.bys[k]? = some x := ⟨d.bys[k], List.getElem?_eq_getElem _⟩
    obtain ⟨g, off, rfl, hb, -, m0⟩ := SeqP.at1b HN.out.nod.bys k (.string x) (by rw [List.getElem?_map, hx]; rfl)
    have HTK := Box.mk (accB_step hx)
    have HLE := Box.mk (accB_le d (k + 1))
    have HZ : Box ((groupsT.getD fn []).length + ((kpB d).length + ((accB d k).length + ((if k = 0 then preB d else [44]).length + x.data.toList.length + (if k + 1 = d.bys.length then [41] else ([] : List UInt8)).length))) ≤ 1000) := ⟨by
     have h1 := HX.out; have h2 := HLE.out; rw [HTK.out] at h2
     simp only [List.length_append] at h2
     omega⟩
    have hlt2 : (k : Int) < (d.bys.length : Int) := by omega
    clear HLE hx
    obtain ⟨s1, S1, a1⟩ : ∃ s1, Box (s1 = bsL (((groupsT.getD fn [] ++ kpB d) ++ accB d k) ++ (if k = 0 then preB d else [44]))) ∧ (∀ W, (Op.stringOp .add s (if k = 0 then (if fn = 4 then ⟨#[98, 121, 40]⟩ else ⟨#[32, 98, 121, 40]⟩) else ⟨#[44]⟩)).run Tryz.prog W = .ok (.string s1) W) := by
     refine add_x s _ _ (if k = 0 then preB d else [44]) S.out ?_ (by have := HZ.out; simp only [List.length_append]; omega)
     unfold preB
     rw [HFN.out.1]
     by_cases h0 : k = 0 <;> by_cases h4 : fn = 4 <;> simp [h0, h4] <;> (try rfl)
     rw [if_neg (by omega)]; rfl
    obtain ⟨s2, S2, a2⟩ := add_x s1 x _ x.data.toList S1.out (bsL_data x) (by have := HZ.out; simp only [List.length_append]; omega)
    obtain ⟨s3, S3, a3⟩ := add_x s2 ⟨#[41]⟩ _ [41] S2.out rfl (by have := HZ.out; simp only [List.length_append, List.length_cons, List.length_nil]; omega)
    obtain ⟨q, hq⟩ : ∃ q : Bool, decide (0 < k) = q := ⟨_, rfl⟩
    go_upto_if 29 with (fail)
    have HK0 : Box (q = decide (0 < k)) := ⟨hq.symm⟩
    clear hq
    go_cut [3] (fun v wx => v = .string s1 ∧ wx = wr)
    case first =>
     cases q
     ·have h0 : k = 0 := by have := of_decide_eq_false HK0.out.symm; omega
      by_cases h4 : fn = 4
      ·have h42 : ((fn : Int) == 4) = true := by simp; omega
       simp only [h0, h4, if_true] at a1
       clear h0 h4 a2 a3
       go_wp2_with fail
       go_meet
       exact ⟨rfl, rfl⟩
      ·have h42 : ((fn : Int) == 4) = false := by simp; omega
       simp only [h0, h4, if_true, if_false] at a1
       clear h0 h4 a2 a3
       go_wp2_with fail
       go_meet
       exact ⟨rfl, rfl⟩
     ·have h0 : ¬ k = 0 := by have := of_decide_eq_true HK0.out.symm; omega
      simp only [h0, if_false] at a1
      clear h0 a2 a3
      go_wp2_with fail
      go_meet
      exact ⟨rfl, rfl⟩
    case rest =>
     obtain ⟨rfl, rfl⟩ := hcut
     rename World => wr
     clear a1 HK0
     by_cases hl : k + 1 = d.bys.length
     ·have E : Box (s3 = bsL ((groupsT.getD fn [] ++ kpB d) ++ accB d (k + 1))) := ⟨by rw [S3.out, HTK.out, if_pos hl]; simp⟩
      have hl2 : ((k : Int) + 1 == (d.bys.length : Int)) = true := by simp; omega
      clear hl
      go_wp2_with fail
      go_roundw
      case rel => exact ⟨k + 1, by omega, by go_num, ⟨s3, rfl, E⟩, HN.out⟩
      case measure => simp [intOf]; omega
     ·have E : Box (s2 = bsL ((groupsT.getD fn [] ++ kpB d) ++ accB d (k + 1))) := ⟨by rw [S2.out, HTK.out, if_neg hl]; simp⟩
      have hl2 : ((k : Int) + 1 == (d.bys.length : Int)) = false := by simp; omega
      clear hl
      go_wp2_with fail
      go_roundw
      case rel => exact ⟨k + 1, by omega, by go_num, ⟨s2, rfl, E⟩, HN.out⟩
      case measure => simp [intOf]; omega
   ·have hke : k = d.bys.length := by omega
    have hlt2 : ¬ (k : Int) < (d.bys.length : Int) := by omega
    have E : Box (s = bsL (grpL d)) := ⟨by rw [S.out, HGE.out, hke, show d.fn.toNat = fn by rw [HFN.out.1]; rfl]⟩
    clear hke
    go_wp2_with fail
    go_ret
    exact ⟨ret_str E.out, HN.out.below⟩
end
end Go.Proofs.YthoibeajhdhdhaaGreatDoor
