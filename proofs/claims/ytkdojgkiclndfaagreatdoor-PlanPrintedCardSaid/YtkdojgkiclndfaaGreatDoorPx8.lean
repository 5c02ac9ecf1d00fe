/- Contracts, packed: Kf. -/
import Derived.Test.YtkdojgkiclndfaaGreatDoorPx1
import Derived.Test.YtkdojgkiclndfaaGreatDoorPx7
import Derived.BigQuiet
set_option linter.unusedVariables false
set_option linter.unusedSimpArgs false
namespace Go.Proofs.YtkdojgkiclndfaaGreatDoor
section
open Go.RowKit
theorem kindex (s : ByteArray) (c : UInt8) (w : World) : Calls Tryz.prog 135 #[.string s, .int .u8 (c.toNat : Int)] w fun e w' => e = .returned (.int .i64 (Lib.indexByte s.data.toList c)) ∧ w' = w := by
 have := Tryz.strings_IndexByte s (c.toNat : Int) w
 simpa using this
theorem ext_drop (s : ByteArray) (a : Nat) : (s.extract a s.size).data.toList = s.data.toList.drop a := by
 rw [ByteArray.data_extract, Array.toList_extract, List.extract_eq_take_drop]
 rw [List.take_of_length_le]
 rw [List.length_drop, data_size]
 omega
theorem txt_ix (c : UInt8) (r : Int) (h : Lib.indexByte [92, 44, 123, 125] c = r) : (txtB c = true ∧ 33 ≤ c.toNat ∧ c.toNat ≤ 126 ∧ r < 0) ∨ (txtB c = false ∧ (c.toNat < 33 ∨ (33 ≤ c.toNat ∧ 126 < c.toNat) ∨ (33 ≤ c.toNat ∧ c.toNat ≤ 126 ∧ 0 ≤ r))) := by
 have key : ∀ n : Fin 256, (txtB (UInt8.ofNat n.1) = true ∧ 33 ≤ n.1 ∧ n.1 ≤ 126 ∧ Lib.indexByte [92, 44, 123, 125] (UInt8.ofNat n.1) < 0) ∨ (txtB (UInt8.ofNat n.1) = false ∧ (n.1 < 33 ∨ (33 ≤ n.1 ∧ 126 < n.1) ∨ (33 ≤ n.1 ∧ n.1 ≤ 126 ∧ 0 ≤ Lib.indexByte [92, 44, 123, 125] (UInt8.ofNat n.1)))) := by decide +kernel
 have := key ⟨c.toNat, c.toNat_lt⟩
 simp only [UInt8.ofNat_toNat] at this
 rw [h] at this
 exact this
set_option maxHeartbeats 1000000 in
theorem ktext_any (q i : Nat) (s : ByteArray) (w : World) (h : Src w q s i 0) (hi : i < s.size) (hs : s.size ≤ 4000) :
  Calls Tryz.prog 108 #[.pointer (some ⟨q, 0, none⟩)] w (RetK q s i (tokT i (s.data.toList.drop i)) w) := by
 obtain ⟨R, HR⟩ : ∃ R, Box (tokT i (s.data.toList.drop i) = R) := ⟨_, ⟨rfl⟩⟩
 obtain ⟨L, HL⟩ : ∃ L, Box (s.data.toList.drop (i + 1) = L) := ⟨_, ⟨rfl⟩⟩
 obtain ⟨m, HM⟩ : ∃ m, Box (Lib.indexByte L 34 = m) := ⟨_, ⟨rfl⟩⟩
 have hm := ixb_lt L 34
 have hLl : L.length = s.size - (i + 1) := by rw [← HL.out, List.length_drop, data_size]
 rw [HM.out, hLl] at hm
 have HI : Box (∀ W, Calls Tryz.prog 135 #[.string (s.extract (i + 1) s.size), .int .u8 34] W fun e w' => e = .returned (.int .i64 m) ∧ w' = W) := ⟨fun W => by
  have := kindex (s.extract (i + 1) s.size) 34 W
  rw [ext_drop, HL.out, HM.out] at this
  exact this⟩
 have HT : Box (tokT i (s.data.toList.drop i) = if m < 0 then (2, ⟨0, [], 0, 0⟩, 2) else if (L.take m.toNat).all txtB then (if 16 < m then 4 else 0, ⟨2, L.take m.toNat, 0, i⟩, m.toNat + 2) else (2, ⟨0, [], 0, 0⟩, 2)) := ⟨by
  unfold tokT
  rw [List.tail_drop, HL.out, HM.out]⟩
 rw [HR.out] at HT ⊢
 have H0 := Box.mk h
 obtain ⟨c0, c1, c2⟩ := h.c3
 have cf := h.frozen
 have hq := h.lt
 have hq2 : ¬ w.heap.size = q := by omega
 have hq3 : ¬ q = w.heap.size := by omega
 clear h
 go_enter Tryz.func108, Tryz.ntmps108
 have HW : Box (Wr q w (w.alloc (.cells zeroTok 126)) ∧ Src (w.alloc (.cells zeroTok 126)) q s i 0 ∧ Blk (w.alloc (.cells zeroTok 126)) w.heap.size 126 zeroTok) := ⟨(Wr.refl q w).alloc _, H0.out.alloc _, Blk.new _ _ _⟩
 go_upto_region 1 with (fail)
 generalize w.alloc (.cells zeroTok 126) = W at *
 clear c0 c1 c2 cf
 obtain ⟨c0, c1, c2⟩ := HW.out.2.1.c3
 go_quiet ((go_at_call 135; exact Calls.quiet_of_same (HI.out _)))
 have HW1 : Box (Wr q w (W.drewN nq) ∧ Src (W.drewN nq) q s i 0 ∧ Blk (W.drewN nq) w.heap.size 126 zeroTok) := ⟨HW.out.1.drewN nq, HW.out.2.1.drewN nq, HW.out.2.2.drewN nq⟩
 clear HW c0 c1 c2
 generalize W.drewN nq = W1 at *
 have cf := HW1.out.2.1.frozen
 obtain ⟨c0, c1, c2⟩ := HW1.out.2.1.c3
 have HW2 : ∀ er : Int, Box (Wr q w (W1.setCell ⟨q, 2, none⟩ (.int .i64 er)) ∧ Src (W1.setCell ⟨q, 2, none⟩ (.int .i64 er)) q s i er ∧ Blk (W1.setCell ⟨q, 2, none⟩ (.int .i64 er)) w.heap.size 126 zeroTok) := fun er =>
  ⟨HW1.out.1.set 2 _, by have := HW1.out.2.1.set 2 (.int .i64 er); simpa using this, HW1.out.2.2.far (p := ⟨q, 2, none⟩) hq2 _⟩
 by_cases hneg : m < 0
 ·have HT2 : Box (R = (2, ⟨0, [], 0, 0⟩, 2)) := ⟨by rw [HT.out, if_pos hneg]⟩
  have HX := HW2 2
  clear HW2
  go_upto_region 4 with (fail)
  generalize W1.setCell ⟨q, 2, none⟩ (.int .i64 2) = W2 at *
  clear c0 c1 c2 cf
  obtain ⟨t0, t1, t2, t3⟩ := HX.out.2.2.c4
  have tf := HX.out.2.2.frozen
  go_wp2_with fail
  clear t0 t1 t2 t3 tf
  have HF := Box.mk (tok_fin0 (k := 0) (t := ⟨#[]⟩) (n := 0) (o := 0) HX.out.1 HX.out.2.1 HX.out.2.2 hq)
  clear HX
  show bodyPost _ _ _ _ _ (putT W2 w.heap.size 0 ⟨#[]⟩ 0 0)
  generalize (putT W2 w.heap.size 0 ⟨#[]⟩ 0 0) = WF at HF ⊢
  obtain ⟨t0, t1, t2, t3⟩ := HF.out.1.c4
  have tf := HF.out.1.frozen
  exact bodyPost_ret (v := .agg #[.int .i64 0, .string ⟨#[]⟩, .int .i64 0, .int .i64 0]) (by simp [results, Tryz.results108, go_sem, t0, t1, t2, t3, tf]) rfl ⟨by rw [HT2.out]; rfl, by rw [HT2.out]; exact HF.out.2.2, HF.out.2.1⟩
 obtain ⟨k, rfl⟩ : ∃ k : Nat, m = k := ⟨m.toNat, by omega⟩
 have hk : i + 1 + k ≤ s.size := by omega
 rw [if_neg hneg, Int.toNat_natCast] at HT
 clear hneg
 have hk2 : (i : Int) + 1 + (k : Int) ≤ (s.size : Int) := by omega
 obtain ⟨t, Ht⟩ : ∃ t, Box (s.extract (i + 1) (i + 1 + k) = t) := ⟨_, ⟨rfl⟩⟩
 have HtL : Box (t.data.toList = L.take k) := ⟨by rw [← Ht.out, ext_bs, HL.out]; simp [bsL]⟩
 have hts : t.size = k := by
  rw [← data_size, HtL.out, List.length_take, hLl]; omega
 go_upto_region 5 with (fail)
 go_quiet (fail)
 have hex : s.extract (i + 1) (i + 1 + k) = t := Ht.out
 rw [hex]
 have HW3 : Box (Wr q w (W1.drewN nq) ∧ Src (W1.drewN nq) q s i 0 ∧ Blk (W1.drewN nq) w.heap.size 126 zeroTok) := ⟨HW1.out.1.drewN nq, HW1.out.2.1.drewN nq, HW1.out.2.2.drewN nq⟩
 clear HW1 HW2 c0 c1 c2 cf hex Ht
 generalize W1.drewN nq = W3 at *
 have cf := HW3.out.2.1.frozen
 obtain ⟨c0, c1, c2⟩ := HW3.out.2.1.c3
 have HW2 : ∀ er : Int, Box (Wr q w (W3.setCell ⟨q, 2, none⟩ (.int .i64 er)) ∧ Src (W3.setCell ⟨q, 2, none⟩ (.int .i64 er)) q s i er ∧ Blk (W3.setCell ⟨q, 2, none⟩ (.int .i64 er)) w.heap.size 126 zeroTok) := fun er =>
  ⟨HW3.out.1.set 2 _, by have := HW3.out.2.1.set 2 (.int .i64 er); simpa using this, HW3.out.2.2.far (p := ⟨q, 2, none⟩) hq2 _⟩
 go_wp2_with fail
 go_loop [43] (fun v => ∃ j : Nat, v = .int .i64 j ∧ j ≤ k ∧ Hid (((L.take k).drop j).all txtB = (L.take k).all txtB)) (fun v => k - (intOf v).toNat)
 case atStart => exact ⟨0, rfl, by omega, by show ((L.take k).drop 0).all txtB = _; rw [List.drop_zero]⟩
 case round =>
  obtain ⟨j, rfl, hj, HJ⟩ := hrel
  by_cases hlt : j < k
  ·have hlt2 : (j : Int) < (k : Int) := by omega
   have hjt : j < t.size := by omega
   have hjL : (L.take k).drop j = t[j] :: (L.take k).drop (j + 1) := by rw [← HtL.out]; exact kdrop_at hjt
   have HJ2 : Hid ((txtB t[j] && ((L.take k).drop (j + 1)).all txtB) = (L.take k).all txtB) := by
    have := HJ.out
    rw [hjL, List.all_cons] at this
    exact this
   obtain ⟨r, Hr⟩ : ∃ r, Box (Lib.indexByte [92, 44, 123, 125] t[j] = r) := ⟨_, ⟨rfl⟩⟩
   have HIc : Box (∀ W, Calls Tryz.prog 135 #[.string ⟨#[92, 44, 123, 125]⟩, .int .u8 (t[j].toNat : Int)] W fun e w' => e = .returned (.int .i64 r) ∧ w' = W) := ⟨fun W => by
    have := kindex ⟨#[92, 44, 123, 125]⟩ t[j] W
    rw [show (⟨#[92, 44, 123, 125]⟩ : ByteArray).data.toList = [92, 44, 123, 125] from rfl, Hr.out] at this
    exact this⟩
   have HTX := txt_ix t[j] r Hr.out
   have hlt3 : (j : Int) < (t.size : Int) := by omega
   clear hjL HJ
   rcases HTX with ⟨h1, h2, h3, h4⟩ | ⟨h1, hbad⟩
   ·have HJ3 : Hid (((L.take k).drop (j + 1)).all txtB = (L.take k).all txtB) := by have := HJ2.out; rw [h1, Bool.true_and] at this; exact this
    clear HJ2 h1 HW2
    go_wp2_with (go_at_call 135; (with_reducible refine (HIc.out _).mono ?_); rintro e w7 ⟨rfl, hw⟩; subst w7)
    go_round
    case rel => exact ⟨j + 1, by go_num, by omega, HJ3.out⟩
    case measure => simp [intOf]; omega
   ·have HT2 : Box (R = (2, ⟨0, [], 0, 0⟩, 2)) := ⟨by
     have := HJ2.out
     rw [h1, Bool.false_and] at this
     rw [HT.out, ← this]; rfl⟩
    have HX := HW2 2
    clear HW2 HJ2 h1
    rcases hbad with hb1 | ⟨hb1, hb2⟩ | ⟨hb1, hb2, hb3⟩
    all_goals
     go_upto_region 12 with (go_at_call 135; (with_reducible refine (HIc.out _).mono ?_); rintro e w7 ⟨rfl, hw⟩; subst w7)
     generalize W3.setCell ⟨q, 2, none⟩ (.int .i64 2) = W2 at *
     clear c0 c1 c2 cf
     obtain ⟨t0, t1, t2, t3⟩ := HX.out.2.2.c4
     have tf := HX.out.2.2.frozen
     go_wp2_with fail
     clear t0 t1 t2 t3 tf
     have HF := Box.mk (tok_fin0 (k := 0) (t := ⟨#[]⟩) (n := 0) (o := 0) HX.out.1 HX.out.2.1 HX.out.2.2 hq)
     clear HX
     show bodyPost _ _ _ _ _ (putT W2 w.heap.size 0 ⟨#[]⟩ 0 0)
     generalize (putT W2 w.heap.size 0 ⟨#[]⟩ 0 0) = WF at HF ⊢
     obtain ⟨t0, t1, t2, t3⟩ := HF.out.1.c4
     have tf := HF.out.1.frozen
     exact bodyPost_ret (v := .agg #[.int .i64 0, .string ⟨#[]⟩, .int .i64 0, .int .i64 0]) (by simp [results, Tryz.results108, go_sem, t0, t1, t2, t3, tf]) rfl ⟨by rw [HT2.out]; rfl, by rw [HT2.out]; exact HF.out.2.2, HF.out.2.1⟩
  ·obtain rfl : j = k := by omega
   have hall : (L.take j).all txtB = true := by
    have := HJ.out
    rw [List.drop_eq_nil_of_le (by rw [List.length_take]; omega)] at this
    rw [← this]; rfl
   have HTB : Box (t = bsL (L.take j)) := ⟨by unfold bsL; rw [← HtL.out]⟩
   rw [if_pos hall] at HT
   have hlt3 : ¬ (j : Int) < (t.size : Int) := by omega
   clear HJ hall
   by_cases hbig : (16 : Int) < (j : Int)
   ·have HX := HW2 4
    have HT2 : Box (R = (4, ⟨2, L.take j, 0, i⟩, j + 2)) := ⟨by rw [HT.out, if_pos hbig]⟩
    clear HW2
    go_upto_region 16 with (fail)
    generalize W3.setCell ⟨q, 2, none⟩ (.int .i64 4) = W2 at *
    clear c0 c1 c2 cf
    obtain ⟨c0, c1, c2⟩ := HX.out.2.1.c3
    obtain ⟨t0, t1, t2, t3⟩ := HX.out.2.2.c4
    have tf := HX.out.2.2.frozen
    go_wp2_with fail
    clear t0 t1 t2 t3 tf
    have HF := Box.mk (tok_fin0 (k := 2) (t := t) (n := 0) (o := i) HX.out.1 HX.out.2.1 HX.out.2.2 hq)
    clear HX
    show bodyPost _ _ _ _ _ (putT W2 w.heap.size 2 t 0 i)
    generalize (putT W2 w.heap.size 2 t 0 i) = WF at HF ⊢
    obtain ⟨t0, t1, t2, t3⟩ := HF.out.1.c4
    have tf := HF.out.1.frozen
    exact bodyPost_ret (v := .agg #[.int .i64 2, .string t, .int .i64 0, .int .i64 i]) (by simp [results, Tryz.results108, go_sem, t0, t1, t2, t3, tf]) rfl ⟨by rw [HT2.out, HTB.out], by rw [HT2.out]; exact HF.out.2.2, HF.out.2.1⟩
   ·have HT2 : Box (R = (0, ⟨2, L.take j, 0, i⟩, j + 2)) := ⟨by rw [HT.out, if_neg hbig]⟩
    clear HW2
    go_upto_region 16 with (fail)
    obtain ⟨t0, t1, t2, t3⟩ := HW3.out.2.2.c4
    have tf := HW3.out.2.2.frozen
    go_wp2_with fail
    clear t0 t1 t2 t3 tf
    have HF := Box.mk (tok_fin0 (k := 2) (t := t) (n := 0) (o := i) HW3.out.1 HW3.out.2.1 HW3.out.2.2 hq)
    clear HW3
    show bodyPost _ _ _ _ _ (putT W3 w.heap.size 2 t 0 i)
    generalize (putT W3 w.heap.size 2 t 0 i) = WF at HF ⊢
    obtain ⟨t0, t1, t2, t3⟩ := HF.out.1.c4
    have tf := HF.out.1.frozen
    exact bodyPost_ret (v := .agg #[.int .i64 2, .string t, .int .i64 0, .int .i64 i]) (by simp [results, Tryz.results108, go_sem, t0, t1, t2, t3, tf]) rfl ⟨by rw [HT2.out, HTB.out], by rw [HT2.out]; exact HF.out.2.2, HF.out.2.1⟩
end
end Go.Proofs.YtkdojgkiclndfaaGreatDoor
