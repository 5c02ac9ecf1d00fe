/- Contracts, packed: Me. -/
import Derived.Test.YthoibeajhdhdhaaGreatDoorPs15
import Derived.Test.YthoibeajhdhdhaaGreatDoorPs30
import Derived.Deep.CutBlock
import Derived.Deep.DeepCutAuto
set_option linter.unusedVariables false
set_option linter.unusedSimpArgs false
namespace Go.Proofs.YthoibeajhdhdhaaGreatDoor
section
open Go.RowKit FracM
theorem around_id (n m : Nat) (w : World) (h : (n : Int) < (m : Int)) (hm : (m : Int) ≤ 1000000) : Calls Tryz.prog 18 #[.int .i64 (n : Int), .int .i64 (m : Int)] w fun e w' => e = .returned (.int .i64 (n : Int)) ∧ w' = w :=
 (around_any (n : Int) (m : Int) w (by omega) (by omega) (by omega) (by omega)).mono fun e w' ⟨he, hw⟩ => ⟨by rw [he]; congr 2; unfold around; rw [if_neg (by omega)]; exact Int.emod_eq_of_lt (by omega) h, hw.symm⟩
theorem rfuncs_any (w : World) : Calls Tryz.prog 102 #[] w fun e w' => e = .returned (.slice (some ⟨w.heap.size, 0, none⟩) 8 8) ∧ w' = w.alloc (.cells #[.string ⟨#[108, 97, 115, 116]⟩, .string ⟨#[108, 101, 97, 115, 116]⟩, .string ⟨#[103, 114, 101, 97, 116, 101, 115, 116]⟩, .string ⟨#[116, 111, 116, 97, 108]⟩, .string ⟨#[109, 101, 97, 110]⟩, .string ⟨#[105, 110, 99, 114, 101, 97, 115, 101]⟩, .string ⟨#[114, 97, 116, 101]⟩, .string ⟨#[107, 116, 104]⟩] 9) := by
 go_enter Tryz.func102, Tryz.ntmps102
 go_wp2
 go_ret
 exact ⟨rfl, rfl⟩
theorem rgroupsM_any (w : World) : Calls Tryz.prog 103 #[] w fun e w' => e = .returned (.slice (some ⟨w.heap.size, 0, none⟩) 5 5) ∧ w' = w.alloc (.cells #[.string ⟨#[115, 117, 109]⟩, .string ⟨#[109, 105, 110]⟩, .string ⟨#[109, 97, 120]⟩, .string ⟨#[99, 111, 117, 110, 116]⟩, .string ⟨#[107, 116, 104]⟩] 9) := by
 go_enter Tryz.func103, Tryz.ntmps103
 go_wp2
 go_ret
 exact ⟨rfl, rfl⟩
theorem fun_cell {W : World} {g ty : Nat} (h : Blk W g ty #[.string ⟨#[108, 97, 115, 116]⟩, .string ⟨#[108, 101, 97, 115, 116]⟩, .string ⟨#[103, 114, 101, 97, 116, 101, 115, 116]⟩, .string ⟨#[116, 111, 116, 97, 108]⟩, .string ⟨#[109, 101, 97, 110]⟩, .string ⟨#[105, 110, 99, 114, 101, 97, 115, 101]⟩, .string ⟨#[114, 97, 116, 101]⟩, .string ⟨#[107, 116, 104]⟩]) (k : Nat) (hk : k < 8) : W.cell? ⟨g, k, none⟩ = some (.string (bsL (funcsT.getD k []))) := by
 unfold Blk at h
 match k, hk with
 | 0, _ => simp [World.cell?, h]; rfl
 | 1, _ => simp [World.cell?, h]; rfl
 | 2, _ => simp [World.cell?, h]; rfl
 | 3, _ => simp [World.cell?, h]; rfl
 | 4, _ => simp [World.cell?, h]; rfl
 | 5, _ => simp [World.cell?, h]; rfl
 | 6, _ => simp [World.cell?, h]; rfl
 | 7, _ => simp [World.cell?, h]; rfl
theorem grp_cell {W : World} {g ty : Nat} (h : Blk W g ty #[.string ⟨#[115, 117, 109]⟩, .string ⟨#[109, 105, 110]⟩, .string ⟨#[109, 97, 120]⟩, .string ⟨#[99, 111, 117, 110, 116]⟩, .string ⟨#[107, 116, 104]⟩]) (k : Nat) (hk : k < 5) : W.cell? ⟨g, k, none⟩ = some (.string (bsL (groupsT.getD k []))) := by
 unfold Blk at h
 match k, hk with
 | 0, _ => simp [World.cell?, h]; rfl
 | 1, _ => simp [World.cell?, h]; rfl
 | 2, _ => simp [World.cell?, h]; rfl
 | 3, _ => simp [World.cell?, h]; rfl
 | 4, _ => simp [World.cell?, h]; rfl
theorem deci_ib {n : Int} {b : ByteArray} (h : bsL (Lib.itoa n) = b) (w : World) (h1 : -9223372036854775808 ≤ n) (h2 : n ≤ 9223372036854775807) : Calls Tryz.prog 19 #[.int .i64 n] w fun e w' => e = .returned (.string b) ∧ w' = w := by
 rw [← h]; exact deci_any n w h1 h2
/-- the text of the matchers, before number k -/
def accP (ms : List Mat) (k : Nat) : List UInt8 := if k = ms.length then matsL ms else matsP (ms.take k)
theorem accP_zero (ms : List Mat) : accP ms 0 = [] := by
 unfold accP
 split
 ·rename_i h
  obtain rfl : ms = [] := List.eq_nil_of_length_eq_zero h.symm
  rfl
 ·simp [matsP]
theorem accP_lt {ms : List Mat} {k : Nat} (h : k < ms.length) : accP ms k = matsP (ms.take k) := if_neg (by omega)
theorem accP_all (ms : List Mat) : accP ms ms.length = matsL ms := if_pos rfl
theorem accP_step {ms : List Mat} {k : Nat} {m : Mat} (h : ms[k]? = some m) : accP ms (k + 1) = (accP ms k ++ ((if k = 0 then 123 else 44) :: matL m)) ++ (if k + 1 = ms.length then [125] else []) := by
 have hk := (List.getElem?_eq_some_iff.1 h).1
 rw [accP_lt hk, ← matsP_take ms k m h]
 by_cases he : k + 1 = ms.length
 ·rw [if_pos he, he, accP_all, List.take_of_length_le (Nat.le_refl _)]
  exact matsL_cons (by rintro rfl; simp at hk)
 ·rw [if_neg he, accP_lt (by omega), List.append_nil]
theorem accP_le (ms : List Mat) (k : Nat) : (accP ms k).length ≤ (matsL ms).length := by
 unfold accP
 split
 ·exact Nat.le_refl _
 ·exact matsP_le ms k
/-- the memory of selected: the node's copy, the symbols -/
structure Slc (w W : World) (P : Nat → Nat → Prop) (d : Nd) (ks : List Tree) (mv bv kv : Value) : Prop where
 n : N1 w W P d ks mv bv kv
 sy : Blk W (w.heap.size + 1) 9 #[.string ⟨#[61]⟩, .string ⟨#[33, 61]⟩, .string ⟨#[94, 61]⟩]
theorem Slc.next {w W W' : World} {P : Nat → Nat → Prop} {d : Nd} {ks : List Tree} {mv bv kv : Value} (h : Slc w W P d ks mv bv kv) (hb : Below W.heap.size W W') : Slc w W' P d ks mv bv kv := ⟨h.n.next hb, h.sy.below hb⟩
theorem sym_cell {W : World} {g ty k : Nat} (h : Blk W g ty #[.string ⟨#[61]⟩, .string ⟨#[33, 61]⟩, .string ⟨#[94, 61]⟩]) (hk : k < 3) : W.cell? ⟨g, k, none⟩ = some (.string (bsL (matchT.getD k []))) := by
 unfold Blk at h
 match k, hk with
 | 0, _ => simp [World.cell?, h]; rfl
 | 1, _ => simp [World.cell?, h]; rfl
 | 2, _ => simp [World.cell?, h]; rfl
set_option maxHeartbeats 4000000 in
set_option maxRecDepth 100000 in
theorem rsel_any (d : Nd) (ks : List Tree) (P : Nat → Nat → Prop) (w : World) (mv bv kv : Value) (hT : TreeAt w P (.node d ks) (mv, bv, kv)) (hfn : 0 ≤ d.fn ∧ d.fn ≤ 7) (hms : ∀ m ∈ d.ms, 0 ≤ m.2.1 ∧ m.2.1 ≤ 2) (hlen : (selL d).length ≤ 1000) :
  Calls Tryz.prog 66 #[.agg (ndC d mv bv kv)] w (RetB (.string (bsL (selL d))) w) := by
 have HN := Box.mk (N1.start hT)
 obtain ⟨A1, n1, rfl, l1⟩ := hT.nod.ms.form
 have HO := Box.mk hT.nod.ok
 have HMS := Box.mk hms
 obtain ⟨fn, hfe⟩ : ∃ k : Nat, d.fn = k := ⟨d.fn.toNat, by omega⟩
 have HFN : Box (d.fn = (fn : Int) ∧ fn < 8) := ⟨hfe, by omega⟩
 have HX : Box (d.name.data.toList.length + ((matsL d.ms).length + ((funL d.fn d.win d.k).length + (offL d.off).length)) ≤ 1000) := ⟨by unfold selL at hlen; simpa [List.length_append] using hlen⟩
 have HNM : Box (d.name = bsL d.name.data.toList) := ⟨bsL_data _⟩
 clear hT hlen hms hfe hfn
 go_enter Tryz.func66, Tryz.ntmps66
 go_upto_region 1 with (fail)
 have HSZ : Box ((w.alloc (.cells (ndC d (.slice A1 d.ms.length n1) bv kv) exT)).heap.size = w.heap.size + 1) := ⟨by simp⟩
 generalize w.alloc (.cells (ndC d _ _ _) exT) = W0 at HN HSZ ⊢
 obtain ⟨c0, c1, c2, c3, c4, c5, c6, c7, c8, c9, c10⟩ := HN.out.c
 simp only [Nat.zero_add] at c7
 clear c0 c1 c2 c3 c4 c5 c6 c8 c9 c10
 go_upto_region 3 with (fail)
 have hz0 : W0.heap.size = w.heap.size + 1 := by have := HSZ.out; omega
 have HS : Box (Slc w (W0.alloc (.cells #[.string ⟨#[61]⟩, .string ⟨#[33, 61]⟩, .string ⟨#[94, 61]⟩] 9)) P d ks (.slice A1 d.ms.length n1) bv kv) := ⟨HN.out.next (bel1 _ _), by rw [← hz0]; exact Blk.new _ _ _⟩
 rw [hz0]
 clear HN c7
 generalize W0.alloc (.cells #[.string ⟨#[61]⟩, .string ⟨#[33, 61]⟩, .string ⟨#[94, 61]⟩] 9) = W1 at HS ⊢
 rw [HNM.out]
 go_wp2_with fail
 go_loopw [3, 5] (fun u v wr => ∃ k : Nat, k ≤ d.ms.length ∧ v = .int .i64 (k : Nat) ∧ u = .string (bsL (d.name.data.toList ++ accP d.ms k)) ∧ Slc w wr P d ks (.slice A1 d.ms.length n1) bv kv) (fun _ v _ => d.ms.length - (intOf v).toNat)
 case atStart => exact ⟨0, by omega, rfl, by rw [accP_zero, List.append_nil], HS.out⟩
 case round =>
  clear HS
  obtain ⟨k, hk, rfl, rfl, hN⟩ := hrel
  have HN := Box.mk hN; clear hN
  obtain ⟨c0, c1, c2, c3, c4, c5, c6, c7, c8, c9, c10⟩ := HN.out.n.c
  simp only [Nat.zero_add] at c8
  clear c0 c1 c2 c3 c4 c5 c6 c7 c9 c10
  by_cases hlt : k < d.ms.length
  ·obtain ⟨x, hx⟩ : ∃ x, d.ms[k]? = some x := ⟨d.ms[k], List.getElem?_eq_getElem _⟩
   obtain ⟨g, off, rfl, hb, m0, m1, m2⟩ := Mats.at_ (w := wr) (base := wr.heap.size) (HN.out.n.nod.ms.seq) k x hx
   have hk3 := HMS.out x (List.mem_of_getElem? hx)
   have HTK := Box.mk (accP_step hx)
   have HLE := Box.mk (accP_le d.ms (k + 1))
   obtain ⟨x0, x1, x2⟩ := x
   simp only at hk3 m1
   obtain ⟨kk, rfl⟩ : ∃ q : Nat, x1 = q := ⟨x1.toNat, by omega⟩
   have hkk : kk < 3 := by omega
   clear hx
   have HZ : Box ((accP d.ms k).length + 1 + x0.data.toList.length + (matchT.getD kk []).length + x2.data.toList.length + 2 ≤ 1000) := ⟨by
    have h1 := HX.out; have h2 := HLE.out; rw [HTK.out] at h2
    unfold matL at h2
    simp only [List.length_append, List.length_cons, List.length_nil, Int.toNat_natCast] at h2
    omega⟩
   have hlt2 : (k : Int) < (d.ms.length : Int) := by omega
   have HNL : Box (d.name.data.toList.length ≤ 1000) := ⟨by have := HX.out; omega⟩
   clear HLE
   have HM0 : Box (Slc w (wr.alloc (.cells #[.string x0, .int .i64 (kk : Int), .string x2] mtT)) P d ks (.slice (some ⟨g, off, none⟩) d.ms.length n1) bv kv ∧ Blk (wr.alloc (.cells #[.string x0, .int .i64 (kk : Int), .string x2] mtT)) wr.heap.size mtT #[.string x0, .int .i64 (kk : Int), .string x2]) := ⟨HN.out.next (bel1 _ _), Blk.new _ _ _⟩
   obtain ⟨q, hq⟩ : ∃ q : Bool, ((k : Int) == 0) = q := ⟨_, rfl⟩
   obtain ⟨s0, S0⟩ : ∃ s, Box (s = bsL (d.name.data.toList ++ accP d.ms k)) := ⟨_, ⟨rfl⟩⟩
   rw [← S0.out]
   go_upto_if 18 with (fail)
   have HK0 : Box (q = decide (k = 0)) := ⟨by rw [← hq]; by_cases h0 : k = 0 <;> simp [h0]⟩
   clear hq
   obtain ⟨s1, S1, a1⟩ : ∃ s, Box (s = bsL ((d.name.data.toList ++ accP d.ms k) ++ [if k = 0 then 123 else 44])) ∧ (∀ W, (Op.stringOp .add s0 (if q then ⟨#[123]⟩ else ⟨#[44]⟩)).run Tryz.prog W = .ok (.string s) W) := by
    refine add_x s0 _ (d.name.data.toList ++ accP d.ms k) [if k = 0 then 123 else 44] S0.out ?_ (by have := HZ.out; have := HNL.out; simp only [List.length_append, List.length_cons, List.length_nil]; omega)
    rw [HK0.out]; by_cases h0 : k = 0 <;> simp [h0] <;> rfl
   go_cut [3] (fun v wx => v = .string s1 ∧ wx = wr)
   case first =>
    cases q
    ·simp only [Bool.false_eq_true, if_false] at a1
     go_wp2_with fail
     go_meet
     exact ⟨rfl, rfl⟩
    ·simp only [if_true] at a1
     go_wp2_with fail
     go_meet
     exact ⟨rfl, rfl⟩
   case rest =>
    obtain ⟨rfl, rfl⟩ := hcut
    rename World => wr
    clear a1 HK0 S0
    go_upto_region 10 with (fail)
    have hzM : (wr.alloc (.cells #[.string x0, .int .i64 (kk : Int), .string x2] mtT)).heap.size = wr.heap.size + 1 := by simp
    generalize wr.alloc (.cells #[.string x0, .int .i64 (kk : Int), .string x2] mtT) = w2 at HM0 hzM ⊢
    clear HN m0 m1 m2 hb c8
    obtain ⟨m0, m1, m2⟩ := HM0.out.2.c3
    have y1 := sym_cell HM0.out.1.sy hkk
    generalize wr.heap.size = gm at *
    have hkk2 : (kk : Int) < 3 := by omega
    have hkk0 : (0 : Int) ≤ (kk : Int) := by omega
    obtain ⟨s2, S2, a2⟩ := add_x s1 x0 _ x0.data.toList S1.out (bsL_data x0) (by have := HZ.out; have := HNL.out; simp only [List.length_append, List.length_cons, List.length_nil]; omega)
    obtain ⟨yb, hyb⟩ : ∃ z, bsL (matchT.getD kk []) = z := ⟨_, rfl⟩
    rw [hyb] at y1
    obtain ⟨s3, S3, a3⟩ := add_x s2 yb _ (matchT.getD kk []) S2.out hyb.symm (by have := HZ.out; have := HNL.out; simp only [List.length_append, List.length_cons, List.length_nil]; omega)
    obtain ⟨s4, S4, a4⟩ := add_x s3 ⟨#[34]⟩ _ [34] S3.out rfl (by have := HZ.out; have := HNL.out; simp only [List.length_append, List.length_cons, List.length_nil]; omega)
    obtain ⟨s5, S5, a5⟩ := add_x s4 x2 _ x2.data.toList S4.out (bsL_data x2) (by have := HZ.out; have := HNL.out; simp only [List.length_append, List.length_cons, List.length_nil]; omega)
    obtain ⟨s6, S6, a6⟩ := add_x s5 ⟨#[34]⟩ _ [34] S5.out rfl (by have := HZ.out; have := HNL.out; simp only [List.length_append, List.length_cons, List.length_nil]; omega)
    have HZ2 := HZ
    clear HZ hyb
    go_quiet ((go_at_call 18; exact Calls.quiet_of_same (around_id kk 3 _ hkk2 (by omega))))
    clear a2 a3 a4 a5 a6 m0 m1 m2 y1
    have HN := Box.mk (HM0.out.1.next (below_drewN w2 nq))
    clear HM0
    generalize w2.drewN nq = w3 at HN ⊢
    obtain ⟨c0, c1, c2, c3, c4, c5, c6, c7, c8, c9, c10⟩ := HN.out.n.c
    simp only [Nat.zero_add] at c8
    clear c0 c1 c2 c3 c4 c5 c6 c7 c9 c10
    by_cases hl : k + 1 = d.ms.length
    ·obtain ⟨s7, S7, a7⟩ := add_x s6 ⟨#[125]⟩ _ [125] S6.out rfl (by have := HZ2.out; have := HNL.out; simp only [List.length_append, List.length_cons, List.length_nil]; omega)
     have E : Box (s7 = bsL (d.name.data.toList ++ accP d.ms (k + 1))) := ⟨by rw [S7.out, HTK.out, if_pos hl]; unfold matL; simp⟩
     have hl2 : ((k : Int) + 1 == (d.ms.length : Int)) = true := by simp; omega
     clear hl
     go_wp2_with fail
     go_roundw
     case rel => exact ⟨k + 1, by omega, by go_num, by rw [E.out], HN.out⟩
     case measure => simp [intOf]; omega
    ·have E : Box (s6 = bsL (d.name.data.toList ++ accP d.ms (k + 1))) := ⟨by rw [S6.out, HTK.out, if_neg hl]; unfold matL; simp⟩
     have hl2 : ((k : Int) + 1 == (d.ms.length : Int)) = false := by simp; omega
     clear hl
     go_wp2_with fail
     go_roundw
     case rel => exact ⟨k + 1, by omega, by go_num, by rw [E.out], HN.out⟩
     case measure => simp [intOf]; omega
  ·have hke : k = d.ms.length := by omega
   have hlt2 : ¬ (k : Int) < (d.ms.length : Int) := by omega
   subst hke
   rw [accP_all]
   obtain ⟨s0, S0⟩ : ∃ s, Box (s = bsL (d.name.data.toList ++ matsL d.ms)) := ⟨_, ⟨rfl⟩⟩
   rw [← S0.out]
   obtain ⟨c0, c1, c2, c3, c4, c5, c6, c7, c8', c9, c10⟩ := HN.out.n.c
   simp only [Nat.zero_add] at c1 c2 c3 c4
   clear c0 c5 c6 c7 c8' c9 c10
   rw [HFN.out.1] at c1
   obtain ⟨q2, hq2⟩ : ∃ q : Bool, ((fn : Int) != 0) = q := ⟨_, rfl⟩
   go_upto_region 13 with (fail)
   go_upto_if 54 with (fail)
   have HQ : Box (q2 = decide (¬ fn = 0)) := ⟨by rw [← hq2]; by_cases h0 : fn = 0 <;> simp [h0]⟩
   clear hq2 c8
   have HWIN := HO.out.ints.2.2.1
   unfold I64 at HWIN
   have HKI := HO.out.ints.2.2.2.2.1
   unfold I64 at HKI
   have HOF := HO.out.ints.2.2.2.1
   unfold I64 at HOF
   go_cut [3] (fun v wx => ∃ s, v = .string s ∧ Box (s = bsL ((d.name.data.toList ++ matsL d.ms) ++ funL d.fn d.win d.k)) ∧ Box (Slc w wx P d ks (.slice A1 d.ms.length n1) bv kv))
   case first =>
    cases q2
    ·have HE : Box (funL d.fn d.win d.k = []) := ⟨by unfold funL; rw [HFN.out.1, if_pos (by have := of_decide_eq_false HQ.out.symm; omega)]⟩
     go_wp2_with fail
     go_meet
     exact ⟨s0, rfl, ⟨by rw [HE.out, List.append_nil]; exact S0.out⟩, HN⟩
    ·have HF0 : Box (¬ fn = 0) := ⟨of_decide_eq_true HQ.out.symm⟩
     have hfn2 : (fn : Int) < 8 := by have := HFN.out.2; omega
     have hfn0 : (0 : Int) ≤ (fn : Int) := by omega
     have HLF : Box (funL d.fn d.win d.k = 46 :: (funcsT.getD fn [] ++ (40 :: (Lib.itoa d.win ++ ((if fn = 7 then 44 :: Lib.itoa d.k else []) ++ [41]))))) := ⟨by unfold funL; rw [if_neg (by rw [HFN.out.1]; have := HF0.out; omega), show d.fn.toNat = fn by rw [HFN.out.1]; rfl]; congr 4; rw [HFN.out.1]; by_cases h7 : fn = 7 <;> simp [h7] <;> omega⟩
     obtain ⟨fb, hfb⟩ : ∃ x : ByteArray, bsL (funcsT.getD fn []) = x := ⟨_, rfl⟩
     have HFC : Box ((wr.drew.alloc (.cells #[.string ⟨#[108, 97, 115, 116]⟩, .string ⟨#[108, 101, 97, 115, 116]⟩, .string ⟨#[103, 114, 101, 97, 116, 101, 115, 116]⟩, .string ⟨#[116, 111, 116, 97, 108]⟩, .string ⟨#[109, 101, 97, 110]⟩, .string ⟨#[105, 110, 99, 114, 101, 97, 115, 101]⟩, .string ⟨#[114, 97, 116, 101]⟩, .string ⟨#[107, 116, 104]⟩] 9)).cell? ⟨wr.heap.size, fn, none⟩ = some (.string fb)) := ⟨by rw [← hfb]; exact fun_cell (Blk.new wr.drew _ _) fn HFN.out.2⟩
     obtain ⟨ib, hib⟩ : ∃ x : ByteArray, bsL (Lib.itoa d.win) = x := ⟨_, rfl⟩
     have HIB : Box (bsL (Lib.itoa d.win) = ib) := ⟨hib⟩
     obtain ⟨t1, T1, a1⟩ := add_x s0 ⟨#[46]⟩ _ [46] S0.out rfl (by have := HX.out; rw [HLF.out] at this; simp only [List.length_append, List.length_cons, List.length_nil] at this ⊢; omega)
     obtain ⟨t2, T2, a2⟩ := add_x t1 fb _ (funcsT.getD fn []) T1.out hfb.symm (by have := HX.out; rw [HLF.out] at this; simp only [List.length_append, List.length_cons, List.length_nil] at this ⊢; omega)
     obtain ⟨t3, T3, a3⟩ := add_x t2 ⟨#[40]⟩ _ [40] T2.out rfl (by have := HX.out; rw [HLF.out] at this; simp only [List.length_append, List.length_cons, List.length_nil] at this ⊢; omega)
     obtain ⟨t4, T4, a4⟩ := add_x t3 ib _ (Lib.itoa d.win) T3.out hib.symm (by have := HX.out; rw [HLF.out] at this; simp only [List.length_append, List.length_cons, List.length_nil] at this ⊢; omega)
     have HSN : Box (Slc w (wr.alloc (.cells #[.string ⟨#[108, 97, 115, 116]⟩, .string ⟨#[108, 101, 97, 115, 116]⟩, .string ⟨#[103, 114, 101, 97, 116, 101, 115, 116]⟩, .string ⟨#[116, 111, 116, 97, 108]⟩, .string ⟨#[109, 101, 97, 110]⟩, .string ⟨#[105, 110, 99, 114, 101, 97, 115, 101]⟩, .string ⟨#[114, 97, 116, 101]⟩, .string ⟨#[107, 116, 104]⟩] 9)).drew P d ks (.slice A1 d.ms.length n1) bv kv) := ⟨(HN.out.next (bel1 wr _)).next (below_drewN _ 1)⟩
     clear hfb hib
     go_upto_region 14 with (fail)
     refine wp_region_H (S := (fun w' : World => w'.cell? ⟨w.heap.size, 1, none⟩ = some (.int .i64 (fn : Int)) ∧ w'.cell? ⟨w.heap.size, 2, none⟩ = some (.int .i64 d.win))) (by kernel_rfl) (by exact ⟨cell_drew c1, cell_drew c2⟩) (fun hHeld => ?_)
     refine wpAnyH_take (i := 0) (v := ?_) rfl (by kernel_rfl) (by kernel_rfl) (by kernel_rfl) (fun _ _ _ h => h) (Or.inl ⟨by rfl, ?_⟩) (by assumption) ?_
     rotate_left
     ·(intro wq hSw; (try dsimp only at hSw); obtain ⟨hS1, hS2⟩ := hSw; go_simp)
      all_goals with_reducible rfl
     (try simp only [List.getElem_toArray, List.getElem_cons_zero, List.getElem_cons_succ, Act.put, List.setIfInBounds_toArray, List.set_cons_zero, List.set_cons_succ])
     refine wpAnyH_take (i := 1) (v := ?_) rfl (by kernel_rfl) (by kernel_rfl) (by kernel_rfl) (fun _ _ _ h => h) (Or.inl ⟨by rfl, ?_⟩) (by assumption) ?_
     rotate_left
     ·(intro wq hSw; (try dsimp only at hSw); obtain ⟨hS1, hS2⟩ := hSw; go_simp)
      all_goals with_reducible rfl
     (try simp only [List.getElem_toArray, List.getElem_cons_zero, List.getElem_cons_succ, Act.put, List.setIfInBounds_toArray, List.set_cons_zero, List.set_cons_succ])
     refine wpAnyH_take (i := 3) (v := ?_) rfl (by kernel_rfl) (by kernel_rfl) (by kernel_rfl) (fun _ _ _ h => h) (Or.inl ⟨by rfl, ?_⟩) (by assumption) ?_
     rotate_left
     ·(intro wq hSw; (try dsimp only at hSw); obtain ⟨hS1, hS2⟩ := hSw; go_simp)
      all_goals with_reducible rfl
     (try simp only [List.getElem_toArray, List.getElem_cons_zero, List.getElem_cons_succ, Act.put, List.setIfInBounds_toArray, List.set_cons_zero, List.set_cons_succ])
     refine wpAnyH_take (i := 4) (v := ?_) rfl (by kernel_rfl) (by kernel_rfl) (by kernel_rfl) (fun _ _ _ h => h) (Or.inl ⟨by rfl, ?_⟩) (by assumption) ?_
     rotate_left
     ·(intro wq hSw; (try dsimp only at hSw); obtain ⟨hS1, hS2⟩ := hSw; go_simp)
      all_goals with_reducible rfl
     (try simp only [List.getElem_toArray, List.getElem_cons_zero, List.getElem_cons_succ, Act.put, List.setIfInBounds_toArray, List.set_cons_zero, List.set_cons_succ])
     refine wpAnyH_take (i := 10) (v := ?_) rfl (by kernel_rfl) (by kernel_rfl) (by kernel_rfl) (fun _ _ _ h => h) (Or.inl ⟨by rfl, ?_⟩) (by assumption) ?_
     rotate_left
     ·(intro wq hSw; (try dsimp only at hSw); obtain ⟨hS1, hS2⟩ := hSw; go_simp)
      all_goals with_reducible rfl
     (try simp only [List.getElem_toArray, List.getElem_cons_zero, List.getElem_cons_succ, Act.put, List.setIfInBounds_toArray, List.set_cons_zero, List.set_cons_succ])
     refine wpAnyH_take (i := 11) (v := ?_) rfl (by kernel_rfl) (by kernel_rfl) (by kernel_rfl) (fun _ _ _ h => h) (Or.inl ⟨by rfl, ?_⟩) (by assumption) ?_
     rotate_left
     ·(intro wq hSw; (try dsimp only at hSw); obtain ⟨hS1, hS2⟩ := hSw; go_simp)
      all_goals with_reducible rfl
     (try simp only [List.getElem_toArray, List.getElem_cons_zero, List.getElem_cons_succ, Act.put, List.setIfInBounds_toArray, List.set_cons_zero, List.set_cons_succ])
     refine wpAnyH_one 2 (by kernel_rfl) rfl (fun K' hK' => ?_)
     (try rw [if_pos (by rfl)])
     go_simp
     refine (rfuncs_any _).mono ?_
     rintro e w4 ⟨rfl, rfl⟩
     go_wp2_with fail
     refine hK'.out _ _ ⟨cell_alloc' _ (cell_drew c1), cell_alloc' _ (cell_drew c2)⟩ (fun hHq => ?_)
     clear hHeld
     have hHeld := hHq
     clear hHq hK' K'
     (try simp only [List.getElem_toArray, List.getElem_cons_zero, List.getElem_cons_succ, Act.put, List.setIfInBounds_toArray, List.set_cons_zero, List.set_cons_succ])
     have hHeld2 : (fun w' : World => w'.cell? ⟨w.heap.size, 1, none⟩ = some (.int .i64 (fn : Int)) ∧ w'.cell? ⟨w.heap.size, 2, none⟩ = some (.int .i64 d.win) ∧ w'.cell? ⟨wr.heap.size, fn, none⟩ = some (.string fb)) _ := ⟨cell_alloc' _ (cell_drew c1), cell_alloc' _ (cell_drew c2), HFC.out⟩
     clear hHeld
     have hHeld := hHeld2
     clear hHeld2
     refine wpAnyH_grow (S2 := (fun w' : World => w'.cell? ⟨w.heap.size, 1, none⟩ = some (.int .i64 (fn : Int)) ∧ w'.cell? ⟨w.heap.size, 2, none⟩ = some (.int .i64 d.win) ∧ w'.cell? ⟨wr.heap.size, fn, none⟩ = some (.string fb))) (fun _ h => ⟨h.1, h.2.1⟩) ?_
     refine wpAnyH_takeQ (i := 5) 18 #[.int .i64 (fn : Int), .int .i64 8] rfl (by kernel_rfl) (by kernel_rfl) (by kernel_rfl) (fun _ _ _ h => h) (by rfl) (by intro wq; go_simp) (fun wq hSw => around_id fn 8 wq hfn2 (by omega)) (by assumption) ?_
     (try simp only [List.getElem_toArray, List.getElem_cons_zero, List.getElem_cons_succ, Act.put, List.setIfInBounds_toArray, List.set_cons_zero, List.set_cons_succ])
     refine wpAnyH_take (i := 6) (v := ?_) rfl (by kernel_rfl) (by kernel_rfl) (by kernel_rfl) (fun _ _ _ h => h) (Or.inl ⟨by rfl, ?_⟩) (by assumption) ?_
     rotate_left
     ·(intro wq hSw; (try dsimp only at hSw); obtain ⟨hS1, hS2, hS3⟩ := hSw; go_simp)
      all_goals with_reducible rfl
     (try simp only [List.getElem_toArray, List.getElem_cons_zero, List.getElem_cons_succ, Act.put, List.setIfInBounds_toArray, List.set_cons_zero, List.set_cons_succ])
     refine wpAnyH_take (i := 7) (v := ?_) rfl (by kernel_rfl) (by kernel_rfl) (by kernel_rfl) (fun _ _ _ h => h) (Or.inl ⟨by rfl, ?_⟩) (by assumption) ?_
     rotate_left
     ·(intro wq hSw; (try dsimp only at hSw); obtain ⟨hS1, hS2, hS3⟩ := hSw; go_simp)
      all_goals with_reducible rfl
     (try simp only [List.getElem_toArray, List.getElem_cons_zero, List.getElem_cons_succ, Act.put, List.setIfInBounds_toArray, List.set_cons_zero, List.set_cons_succ])
     refine wpAnyH_take (i := 8) (v := ?_) rfl (by kernel_rfl) (by kernel_rfl) (by kernel_rfl) (fun _ _ _ h => h) (Or.inl ⟨by rfl, ?_⟩) (by assumption) ?_
     rotate_left
     ·(intro wq hSw; (try dsimp only at hSw); obtain ⟨hS1, hS2, hS3⟩ := hSw; go_simp)
      all_goals with_reducible rfl
     (try simp only [List.getElem_toArray, List.getElem_cons_zero, List.getElem_cons_succ, Act.put, List.setIfInBounds_toArray, List.set_cons_zero, List.set_cons_succ])
     refine wpAnyH_take (i := 9) (v := ?_) rfl (by kernel_rfl) (by kernel_rfl) (by kernel_rfl) (fun _ _ _ h => h) (Or.inl ⟨by rfl, ?_⟩) (by assumption) ?_
     rotate_left
     ·(intro wq hSw; (try dsimp only at hSw); obtain ⟨hS1, hS2, hS3⟩ := hSw; go_simp)
      all_goals with_reducible rfl
     (try simp only [List.getElem_toArray, List.getElem_cons_zero, List.getElem_cons_succ, Act.put, List.setIfInBounds_toArray, List.set_cons_zero, List.set_cons_succ])
     refine wpAnyH_takeQ (i := 12) 19 #[.int .i64 d.win] rfl (by kernel_rfl) (by kernel_rfl) (by kernel_rfl) (fun _ _ _ h => h) (by rfl) (by intro wq; go_simp) (fun wq hSw => deci_ib HIB.out wq HWIN.1 HWIN.2) (by assumption) ?_
     (try simp only [List.getElem_toArray, List.getElem_cons_zero, List.getElem_cons_succ, Act.put, List.setIfInBounds_toArray, List.set_cons_zero, List.set_cons_succ])
     refine wpAnyH_take (i := 13) (v := ?_) rfl (by kernel_rfl) (by kernel_rfl) (by kernel_rfl) (fun _ _ _ h => h) (Or.inl ⟨by rfl, ?_⟩) (by assumption) ?_
     rotate_left
     ·(intro wq hSw; (try dsimp only at hSw); obtain ⟨hS1, hS2, hS3⟩ := hSw; go_simp)
      all_goals with_reducible rfl
     (try simp only [List.getElem_toArray, List.getElem_cons_zero, List.getElem_cons_succ, Act.put, List.setIfInBounds_toArray, List.set_cons_zero, List.set_cons_succ])
     refine wpAnyH_take (i := 14) (v := ?_) rfl (by kernel_rfl) (by kernel_rfl) (by kernel_rfl) (fun _ _ _ h => h) (Or.inl ⟨by rfl, ?_⟩) (by assumption) ?_
     rotate_left
     ·(intro wq hSw; (try dsimp only at hSw); obtain ⟨hS1, hS2, hS3⟩ := hSw; go_simp)
      all_goals with_reducible rfl
     (try simp only [List.getElem_toArray, List.getElem_cons_zero, List.getElem_cons_succ, Act.put, List.setIfInBounds_toArray, List.set_cons_zero, List.set_cons_succ])
     refine wpAnyH_done (by kernel_rfl) ?_ _
     clear a1 a2 a3 a4 HFC HN c1 c2 c3 c4 hHeld
     generalize (wr.alloc (.cells #[.string ⟨#[108, 97, 115, 116]⟩, .string ⟨#[108, 101, 97, 115, 116]⟩, .string ⟨#[103, 114, 101, 97, 116, 101, 115, 116]⟩, .string ⟨#[116, 111, 116, 97, 108]⟩, .string ⟨#[109, 101, 97, 110]⟩, .string ⟨#[105, 110, 99, 114, 101, 97, 115, 101]⟩, .string ⟨#[114, 97, 116, 101]⟩, .string ⟨#[107, 116, 104]⟩] 9)).drew = w4 at HSN ⊢
     have HN := Box.mk HSN.out
     clear HSN
     obtain ⟨c0, c1, c2, c3, c4, c5, c6, c7, c8', c9, c10⟩ := HN.out.n.c
     simp only [Nat.zero_add] at c1 c4
     clear c0 c2 c3 c5 c6 c7 c8' c9 c10
     rw [HFN.out.1] at c1
     by_cases h7 : fn = 7
     ·have H7 := Box.mk h7
      have h72 : ((fn : Int) == 7) = true := by simp; omega
      obtain ⟨kb, hkb⟩ : ∃ x : ByteArray, bsL (Lib.itoa d.k) = x := ⟨_, rfl⟩
      have HKB : Box (bsL (Lib.itoa d.k) = kb) := ⟨hkb⟩
      obtain ⟨t5, T5, a5⟩ := add_x t4 ⟨#[44]⟩ _ [44] T4.out rfl (by have := HX.out; rw [HLF.out, if_pos H7.out] at this; simp only [List.length_append, List.length_cons, List.length_nil] at this ⊢; omega)
      obtain ⟨t6, T6, a6⟩ := add_x t5 kb _ (Lib.itoa d.k) T5.out hkb.symm (by have := HX.out; rw [HLF.out, if_pos H7.out] at this; simp only [List.length_append, List.length_cons, List.length_nil] at this ⊢; omega)
      obtain ⟨t7, T7, a7⟩ := add_x t6 ⟨#[41]⟩ _ [41] T6.out rfl (by have := HX.out; rw [HLF.out, if_pos H7.out] at this; simp only [List.length_append, List.length_cons, List.length_nil] at this ⊢; omega)
      have E : Box (t7 = bsL ((d.name.data.toList ++ matsL d.ms) ++ funL d.fn d.win d.k)) := ⟨by rw [T7.out, HLF.out, if_pos H7.out]; simp⟩
      clear h7 hkb
      go_wp2_with (go_at_call 19; refine (deci_ib HKB.out _ HKI.1 HKI.2).mono ?_; rintro e w' ⟨rfl, rfl⟩)
      go_meet
      exact ⟨t7, rfl, E, HN⟩
     ·have H7 := Box.mk h7
      have h72 : ((fn : Int) == 7) = false := by simp; omega
      obtain ⟨t5, T5, a5⟩ := add_x t4 ⟨#[41]⟩ _ [41] T4.out rfl (by have := HX.out; rw [HLF.out] at this; simp only [List.length_append, List.length_cons, List.length_nil] at this ⊢; omega)
      have E : Box (t5 = bsL ((d.name.data.toList ++ matsL d.ms) ++ funL d.fn d.win d.k)) := ⟨by rw [T5.out, HLF.out, if_neg H7.out]; simp⟩
      clear h7
      go_wp2_with fail
      go_meet
      exact ⟨t5, rfl, E, HN⟩
   case rest =>
    obtain ⟨sf, rfl, SF, HN2⟩ := hcut
    rename World => wr
    clear HQ c1 c2 c3 c4 HN S0
    obtain ⟨c0, c1, c2, c3, c4, c5, c6, c7, c8', c9, c10⟩ := HN2.out.n.c
    simp only [Nat.zero_add] at c3
    clear c0 c1 c2 c4 c5 c6 c7 c8' c9 c10
    have HSEL : Box (selL d = (((d.name.data.toList ++ matsL d.ms) ++ funL d.fn d.win d.k) ++ offL d.off)) := ⟨by unfold selL; simp⟩
    by_cases ho : d.off = 0
    ·have HOE : Box (offL d.off = []) := ⟨by unfold offL; rw [if_pos ho]⟩
     have ho2 : (d.off != 0) = false := by simp [ho]
     clear ho
     go_wp2_with fail
     go_ret
     exact ⟨ret_str (by rw [SF.out, HSEL.out, HOE.out, List.append_nil]), HN2.out.n.below⟩
    ·have HOE : Box (offL d.off = 64 :: Lib.itoa d.off) := ⟨by unfold offL; rw [if_neg ho]⟩
     have ho2 : (d.off != 0) = true := by simp [ho]
     obtain ⟨ob, hob⟩ : ∃ x : ByteArray, bsL (Lib.itoa d.off) = x := ⟨_, rfl⟩
     have HOB : Box (bsL (Lib.itoa d.off) = ob) := ⟨hob⟩
     obtain ⟨t5, T5, a5⟩ := add_x sf ⟨#[64]⟩ _ [64] SF.out rfl (by have := HX.out; rw [HOE.out] at this; simp only [List.length_append, List.length_cons, List.length_nil] at this ⊢; omega)
     obtain ⟨t6, T6, a6⟩ := add_x t5 ob _ (Lib.itoa d.off) T5.out hob.symm (by have := HX.out; rw [HOE.out] at this; simp only [List.length_append, List.length_cons, List.length_nil] at this ⊢; omega)
     clear ho hob
     go_wp2_with (go_at_call 19; refine (deci_ib HOB.out _ HOF.1 HOF.2).mono ?_; rintro e w' ⟨rfl, rfl⟩)
     go_ret
     exact ⟨ret_str (by rw [T6.out, HSEL.out, HOE.out]; simp), HN2.out.n.below⟩
end
end Go.Proofs.YthoibeajhdhdhaaGreatDoor
