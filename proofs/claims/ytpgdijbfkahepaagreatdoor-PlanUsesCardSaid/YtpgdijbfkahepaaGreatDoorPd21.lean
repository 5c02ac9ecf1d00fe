/- Contracts, packed: Ki. -/
import Derived.Test.YtpgdijbfkahepaaGreatDoorPd8
import Derived.Deep.CutBlock
set_option linter.unusedVariables false
set_option linter.unusedSimpArgs false
namespace Go.Proofs.YtpgdijbfkahepaaGreatDoor
section
open Go.RowKit
theorem symN_1 {c : UInt8} {r : List UInt8} (h : c.toNat = 43 ∨ c.toNat = 45 ∨ c.toNat = 42 ∨ c.toNat = 47 ∨ c.toNat = 40 ∨ c.toNat = 41 ∨ c.toNat = 123 ∨ c.toNat = 125 ∨ c.toNat = 44 ∨ c.toNat = 46 ∨ c.toNat = 64 ∨ c.toNat = 61) : symN (c :: r) = 1 := by rw [symN, if_pos h]
theorem symN_2 {c : UInt8} {r : List UInt8} (h : c.toNat = 33 ∨ c.toNat = 94) (hr : (r.head?.map UInt8.toNat) = some 61) : symN (c :: r) = 2 := by
 rw [symN, if_neg (by omega), if_pos ⟨h, hr⟩]
theorem symN_3 {c : UInt8} {r : List UInt8} (h : c.toNat = 33 ∨ c.toNat = 94) (hr : (r.head?.map UInt8.toNat) ≠ some 61) : symN (c :: r) = 0 := by
 rw [symN, if_neg (by omega), if_neg (fun h => hr h.2)]
theorem symN_0 {c : UInt8} {r : List UInt8} (h : ¬ (c.toNat = 43 ∨ c.toNat = 45 ∨ c.toNat = 42 ∨ c.toNat = 47 ∨ c.toNat = 40 ∨ c.toNat = 41 ∨ c.toNat = 123 ∨ c.toNat = 125 ∨ c.toNat = 44 ∨ c.toNat = 46 ∨ c.toNat = 64 ∨ c.toNat = 61)) (h2 : ¬ (c.toNat = 33 ∨ c.toNat = 94)) : symN (c :: r) = 0 := by
 rw [symN, if_neg h, if_neg (fun h => h2 h.1)]
set_option maxHeartbeats 2000000 in
theorem ksymbol_any (q i : Nat) (s : ByteArray) (w : World) (h : Src w q s i 0) (hi : i < s.size) (hs : s.size ≤ 4000) :
  Calls Tryz.prog 76 #[.pointer (some ⟨q, 0, none⟩)] w (RetK q s i (tokS i (s.data.toList.drop i)) w) := by
 have hdi := kdrop_at hi
 obtain ⟨L, HL⟩ : ∃ L, Box (s.data.toList.drop (i + 1) = L) := ⟨_, ⟨rfl⟩⟩
 rw [HL.out] at hdi
 obtain ⟨m, HM⟩ : ∃ m, Box (symN (s[i] :: L) = m) := ⟨_, ⟨rfl⟩⟩
 obtain ⟨R, HR⟩ : ∃ R, Box (tokS i (s.data.toList.drop i) = R) := ⟨_, ⟨rfl⟩⟩
 have HRR : Box (R = (if m = 0 then 2 else 0, ⟨3, (s.data.toList.drop i).take m, 0, i⟩, m)) := ⟨by
  rw [← HR.out]; unfold tokS; rw [hdi, HM.out]⟩
 rw [HR.out]
 have HT : Box (s.extract i (i + m) = bsL ((s.data.toList.drop i).take m)) := ⟨ext_bs s i m⟩
 have HX1 : Box (∀ h1 : i + 1 < s.size, L.head?.map UInt8.toNat = some s[i + 1].toNat) := ⟨fun h1 => by rw [← HL.out, kdrop_at h1]; rfl⟩
 have HX2 : Box (¬ i + 1 < s.size → L.head?.map UInt8.toNat ≠ some 61) := ⟨fun h1 => by rw [← HL.out, List.drop_eq_nil_of_le (by rw [data_size]; omega)]; simp⟩
 have H0 := Box.mk h
 obtain ⟨c0, c1, c2⟩ := h.c3
 have cf := h.frozen
 have hq := h.lt
 have hq2 : ¬ w.heap.size = q := by omega
 have hq3 : ¬ q = w.heap.size := by omega
 clear h hdi
 go_enter Tryz.func76, Tryz.ntmps76
 have HW : Box (Wr q w (w.alloc (.cells zeroTok 103)) ∧ Src (w.alloc (.cells zeroTok 103)) q s i 0 ∧ Blk (w.alloc (.cells zeroTok 103)) w.heap.size 103 zeroTok) := ⟨(Wr.refl q w).alloc _, H0.out.alloc _, Blk.new _ _ _⟩
 go_upto_region 2 with (fail)
 generalize w.alloc (.cells zeroTok 103) = W at *
 clear c0 c1 c2 cf
 obtain ⟨c0, c1, c2⟩ := HW.out.2.1.c3
 go_quiet (fail)
 have HW3 : Box (Wr q w (W.drewN nq) ∧ Src (W.drewN nq) q s i 0 ∧ Blk (W.drewN nq) w.heap.size 103 zeroTok) := ⟨HW.out.1.drewN nq, HW.out.2.1.drewN nq, HW.out.2.2.drewN nq⟩
 clear HW c0 c1 c2
 generalize W.drewN nq = W3 at *
 obtain ⟨c0, c1, c2⟩ := HW3.out.2.1.c3
 go_upto_block 0 with (fail)
 go_cut [3, 12] (fun v x wx => (∃ z, x = .int .u8 z) ∧ v = .int .i64 m ∧ m ≤ 2 ∧ (m = 2 → i + 1 < s.size) ∧ Wr q w wx ∧ Src wx q s i 0 ∧ Blk wx w.heap.size 103 zeroTok)
 case first =>
  have hx := HM.out
  clear HM HRR HR HT
  by_cases hs1 : s[i].toNat = 43 ∨ s[i].toNat = 45 ∨ s[i].toNat = 42 ∨ s[i].toNat = 47 ∨ s[i].toNat = 40 ∨ s[i].toNat = 41 ∨ s[i].toNat = 123 ∨ s[i].toNat = 125 ∨ s[i].toNat = 44 ∨ s[i].toNat = 46 ∨ s[i].toNat = 64 ∨ s[i].toNat = 61
  ·have hm : m = 1 := by rw [← hx]; exact symN_1 hs1
   subst hm
   clear hx
   rcases hs1 with hc | hc | hc | hc | hc | hc | hc | hc | hc | hc | hc | hc
   all_goals
    go_wp2_with fail
    go_meet
    exact ⟨⟨_, rfl⟩, rfl, by omega, by omega, HW3.out.1, HW3.out.2.1, HW3.out.2.2⟩
  obtain ⟨n43, n45, n42, n47, n40, n41, n123, n125, n44, n46, n64, n61⟩ : ¬ s[i].toNat = 43 ∧ ¬ s[i].toNat = 45 ∧ ¬ s[i].toNat = 42 ∧ ¬ s[i].toNat = 47 ∧ ¬ s[i].toNat = 40 ∧ ¬ s[i].toNat = 41 ∧ ¬ s[i].toNat = 123 ∧ ¬ s[i].toNat = 125 ∧ ¬ s[i].toNat = 44 ∧ ¬ s[i].toNat = 46 ∧ ¬ s[i].toNat = 64 ∧ ¬ s[i].toNat = 61 := by omega
  by_cases hs2 : s[i].toNat = 33 ∨ s[i].toNat = 94
  ·by_cases hlt : i + 1 < s.size
   ·by_cases h61 : s[i + 1].toNat = 61
    ·have hm : m = 2 := by rw [← hx]; exact symN_2 hs2 (by rw [HX1.out hlt, h61])
     subst hm
     clear hx hs1
     have hlt2 : (i : Int) + 1 < (s.size : Int) := by omega
     have hwr : IntKind.i64.wrap ((i : Int) + 1) = (i : Int) + 1 := by rw [IntKind.wrap_i64]; omega
     have hnn : (0 : Int) ≤ (i : Int) + 1 := by omega
     have htn : ((i : Int) + 1).toNat = i + 1 := by omega
     rcases hs2 with hc | hc
     all_goals
      go_upto_region 18 with (fail)
      go_quiet (fail)
      have HW4 : Box (Wr q w (W3.drewN nq) ∧ Src (W3.drewN nq) q s i 0 ∧ Blk (W3.drewN nq) w.heap.size 103 zeroTok) := ⟨HW3.out.1.drewN nq, HW3.out.2.1.drewN nq, HW3.out.2.2.drewN nq⟩
      clear HW3 c0 c1 c2
      generalize W3.drewN nq = W4 at *
      go_wp2_with fail
      go_meet
      exact ⟨⟨_, rfl⟩, rfl, by omega, by omega, HW4.out.1, HW4.out.2.1, HW4.out.2.2⟩
    ·have hm : m = 0 := by rw [← hx]; exact symN_3 hs2 (by rw [HX1.out hlt]; simpa using h61)
     subst hm
     have h61b : ((s[i + 1].toNat : Int) == 61) = false := by rw [beq_eq_false_iff_ne]; omega
     clear hx hs1
     have hlt2 : (i : Int) + 1 < (s.size : Int) := by omega
     have hwr : IntKind.i64.wrap ((i : Int) + 1) = (i : Int) + 1 := by rw [IntKind.wrap_i64]; omega
     have hnn : (0 : Int) ≤ (i : Int) + 1 := by omega
     have htn : ((i : Int) + 1).toNat = i + 1 := by omega
     rcases hs2 with hc | hc
     all_goals
      go_upto_region 18 with (fail)
      go_quiet (fail)
      have HW4 : Box (Wr q w (W3.drewN nq) ∧ Src (W3.drewN nq) q s i 0 ∧ Blk (W3.drewN nq) w.heap.size 103 zeroTok) := ⟨HW3.out.1.drewN nq, HW3.out.2.1.drewN nq, HW3.out.2.2.drewN nq⟩
      clear HW3 c0 c1 c2
      generalize W3.drewN nq = W4 at *
      go_wp2_with fail
      go_meet
      exact ⟨⟨_, rfl⟩, rfl, by omega, by omega, HW4.out.1, HW4.out.2.1, HW4.out.2.2⟩
   ·have hm : m = 0 := by rw [← hx]; exact symN_3 hs2 (HX2.out hlt)
    subst hm
    clear hx hs1
    have hlt2 : ¬ (i : Int) + 1 < (s.size : Int) := by omega
    have hlt3 : decide ((i : Int) + 1 < (s.size : Int)) = false := decide_eq_false hlt2
    have hlt4 : decide (i + 1 < s.size) = false := decide_eq_false hlt
    have hwr : IntKind.i64.wrap ((i : Int) + 1) = (i : Int) + 1 := by rw [IntKind.wrap_i64]; omega
    have hnn : (0 : Int) ≤ (i : Int) + 1 := by omega
    have htn : ((i : Int) + 1).toNat = i + 1 := by omega
    rcases hs2 with hc | hc
    all_goals
     go_upto_region 18 with (fail)
     go_quiet (fail)
     have HW4 : Box (Wr q w (W3.drewN nq) ∧ Src (W3.drewN nq) q s i 0 ∧ Blk (W3.drewN nq) w.heap.size 103 zeroTok) := ⟨HW3.out.1.drewN nq, HW3.out.2.1.drewN nq, HW3.out.2.2.drewN nq⟩
     clear HW3 c0 c1 c2
     generalize W3.drewN nq = W4 at *
     go_wp2_with fail
     go_meet
     exact ⟨⟨_, rfl⟩, rfl, by omega, by omega, HW4.out.1, HW4.out.2.1, HW4.out.2.2⟩
  ·have hm : m = 0 := by rw [← hx]; exact symN_0 hs1 hs2
   subst hm
   clear hx hs1
   have n33 : ¬ s[i].toNat = 33 := fun h => hs2 (.inl h)
   have n94 : ¬ s[i].toNat = 94 := fun h => hs2 (.inr h)
   clear hs2
   go_wp2_with fail
   go_meet
   exact ⟨⟨_, rfl⟩, rfl, by omega, by omega, HW3.out.1, HW3.out.2.1, HW3.out.2.2⟩
 case rest =>
  clear HW3 c0 c1 c2
  obtain ⟨⟨z, rfl⟩, rfl, hm2, hm3, hr1, hr2, hr3⟩ := hcut
  rename World => W5
  have HW5 : Box (Wr q w W5 ∧ Src W5 q s i 0 ∧ Blk W5 w.heap.size 103 zeroTok) := ⟨hr1, hr2, hr3⟩
  clear hr1 hr2 hr3
  obtain ⟨c0, c1, c2⟩ := HW5.out.2.1.c3
  have cf := HW5.out.2.1.frozen
  have him : i + m ≤ s.size := by omega
  by_cases h0 : m = 0
  ·have h1 : ((m : Int) == 0) = true := by simpa using h0
   have HX : Box (Wr q w (W5.setCell ⟨q, 2, none⟩ (.int .i64 2)) ∧ Src (W5.setCell ⟨q, 2, none⟩ (.int .i64 2)) q s i 2 ∧ Blk (W5.setCell ⟨q, 2, none⟩ (.int .i64 2)) w.heap.size 103 zeroTok) :=
    ⟨HW5.out.1.set 2 _, by have := HW5.out.2.1.set 2 (.int .i64 2); simpa using this, HW5.out.2.2.far (p := ⟨q, 2, none⟩) hq2 _⟩
   go_upto_region 22 with (fail)
   have HB0 := Box.mk h0
   clear h0 h1
   generalize W5.setCell ⟨q, 2, none⟩ (.int .i64 2) = W2 at *
   clear c0 c1 c2 cf
   obtain ⟨c0, c1, c2⟩ := HX.out.2.1.c3
   obtain ⟨t0, t1, t2, t3⟩ := HX.out.2.2.c4
   have tf := HX.out.2.2.frozen
   go_region
   go_wp2_with fail
   clear c0 c1 c2 t0 t1 t2 t3 tf
   have HF := Box.mk (tok_fin (k := 3) (t := s.extract i (i + m)) (n := 0) (o := i) HX.out.1 HX.out.2.1 HX.out.2.2 hq)
   clear HX
   show bodyPost _ _ _ _ _ (putT W2 w.heap.size 3 (s.extract i (i + m)) 0 i).drew
   generalize (putT W2 w.heap.size 3 (s.extract i (i + m)) 0 i).drew = WF at HF ⊢
   obtain ⟨t0, t1, t2, t3⟩ := HF.out.1.c4
   have tf := HF.out.1.frozen
   exact bodyPost_ret (v := .agg #[.int .i64 3, .string (s.extract i (i + m)), .int .i64 0, .int .i64 i]) (by simp [results, Tryz.results76, go_sem, t0, t1, t2, t3, tf]) rfl ⟨by rw [HRR.out, HT.out], by rw [HRR.out]; simp only [if_pos HB0.out]; exact HF.out.2.2, HF.out.2.1⟩
  ·have h1 : ((m : Int) == 0) = false := by simpa using h0
   go_upto_region 22 with (fail)
   clear c0 c1 c2 cf
   obtain ⟨c0, c1, c2⟩ := HW5.out.2.1.c3
   obtain ⟨t0, t1, t2, t3⟩ := HW5.out.2.2.c4
   have tf := HW5.out.2.2.frozen
   go_region
   go_wp2_with fail
   clear c0 c1 c2 t0 t1 t2 t3 tf
   have HF := Box.mk (tok_fin (k := 3) (t := s.extract i (i + m)) (n := 0) (o := i) HW5.out.1 HW5.out.2.1 HW5.out.2.2 hq)
   clear HW5
   show bodyPost _ _ _ _ _ (putT W5 w.heap.size 3 (s.extract i (i + m)) 0 i).drew
   generalize (putT W5 w.heap.size 3 (s.extract i (i + m)) 0 i).drew = WF at HF ⊢
   obtain ⟨t0, t1, t2, t3⟩ := HF.out.1.c4
   have tf := HF.out.1.frozen
   exact bodyPost_ret (v := .agg #[.int .i64 3, .string (s.extract i (i + m)), .int .i64 0, .int .i64 i]) (by simp [results, Tryz.results76, go_sem, t0, t1, t2, t3, tf]) rfl ⟨by rw [HRR.out, HT.out], by rw [HRR.out]; simp only [if_neg h0]; exact HF.out.2.2, HF.out.2.1⟩
end
end Go.Proofs.YtpgdijbfkahepaaGreatDoor
