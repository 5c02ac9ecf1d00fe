/- Contracts, packed: Kc Kd Match Yb Se Ue. -/
import Derived.Test.YtkdojgkiclndfaaGreatDoorPx2
import Derived.Test.YtkdojgkiclndfaaGreatDoorPx3
import Derived.Test.YtkdojgkiclndfaaGreatDoorPx4
set_option linter.unusedVariables false
set_option linter.unusedSimpArgs false
namespace Go.Proofs.YtkdojgkiclndfaaGreatDoor
section
open Go.RowKit
theorem kletter_any (c : UInt8) (w : World) : Calls Tryz.prog 104 #[.int .u8 (c.toNat : Int)] w fun e w' => e = .returned (.bool (letB c)) ∧ w = w' := by
 obtain ⟨x, hx⟩ : ∃ x, c.toNat = x := ⟨_, rfl⟩
 have e : letB c = (decide (97 ≤ x) && decide (x ≤ 122)) := by unfold letB; rw [hx]
 rw [e, hx]
 clear e hx
 by_cases h : 97 ≤ x
 ·by_cases h2 : x ≤ 122
  ·have E := Lib.hid (show (decide (97 ≤ x) && decide (x ≤ 122)) = true by simp [h, h2])
   go_enter Tryz.func104, Tryz.ntmps104
   go_wp2
   go_ret
   exact ⟨ret_bool (by first | rfl | (rw [E.out]; try (simp; try omega))), rfl⟩
  ·have E := Lib.hid (show (decide (97 ≤ x) && decide (x ≤ 122)) = false by simp [h2])
   go_enter Tryz.func104, Tryz.ntmps104
   go_wp2
   go_ret
   exact ⟨ret_bool (by first | rfl | (rw [E.out]; try (simp; try omega))), rfl⟩
 ·have E := Lib.hid (show (decide (97 ≤ x) && decide (x ≤ 122)) = false by simp [h])
  go_enter Tryz.func104, Tryz.ntmps104
  go_wp2
  go_ret
  exact ⟨ret_bool (by first | rfl | (rw [E.out]; try (simp; try omega))), rfl⟩
theorem kdigit_any (c : UInt8) (w : World) : Calls Tryz.prog 106 #[.int .u8 (c.toNat : Int)] w fun e w' => e = .returned (.bool (digB c)) ∧ w = w' := by
 obtain ⟨x, hx⟩ : ∃ x, c.toNat = x := ⟨_, rfl⟩
 have e : digB c = (decide (48 ≤ x) && decide (x ≤ 57)) := by unfold digB; rw [hx]
 rw [e, hx]
 clear e hx
 by_cases h : 48 ≤ x
 ·by_cases h2 : x ≤ 57
  ·have E := Lib.hid (show (decide (48 ≤ x) && decide (x ≤ 57)) = true by simp [h, h2])
   go_enter Tryz.func106, Tryz.ntmps106
   go_wp2
   go_ret
   exact ⟨ret_bool (by first | rfl | (rw [E.out]; try (simp; try omega))), rfl⟩
  ·have E := Lib.hid (show (decide (48 ≤ x) && decide (x ≤ 57)) = false by simp [h2])
   go_enter Tryz.func106, Tryz.ntmps106
   go_wp2
   go_ret
   exact ⟨ret_bool (by first | rfl | (rw [E.out]; try (simp; try omega))), rfl⟩
 ·have E := Lib.hid (show (decide (48 ≤ x) && decide (x ≤ 57)) = false by simp [h])
  go_enter Tryz.func106, Tryz.ntmps106
  go_wp2
  go_ret
  exact ⟨ret_bool (by first | rfl | (rw [E.out]; try (simp; try omega))), rfl⟩
set_option maxHeartbeats 400000 in
theorem kword1_any (c : UInt8) (w : World) : Calls Tryz.prog 134 #[.int .u8 (c.toNat : Int)] w fun e w' => e = .returned (.bool (wrdB c)) ∧ w = w' := by
 obtain ⟨a, ha⟩ : ∃ a, letB c = a := ⟨_, rfl⟩
 obtain ⟨b, hb⟩ : ∃ b, digB c = b := ⟨_, rfl⟩
 obtain ⟨d, hd⟩ : ∃ d, (c.toNat == 95) = d := ⟨_, rfl⟩
 have e : wrdB c = (a || b || d) := by unfold wrdB; rw [ha, hb, hd]
 have hd2 : ((c.toNat : Int) == 95) = d := by rw [← hd]; rw [Bool.eq_iff_iff, beq_iff_eq, beq_iff_eq]; omega
 have HA : Box (∀ w, Calls Tryz.prog 104 #[.int .u8 (c.toNat : Int)] w fun e w' => e = .returned (.bool a) ∧ w = w') := ⟨fun w => by rw [← ha]; exact kletter_any c w⟩
 have HB : Box (∀ w, Calls Tryz.prog 106 #[.int .u8 (c.toNat : Int)] w fun e w' => e = .returned (.bool b) ∧ w = w') := ⟨fun w => by rw [← hb]; exact kdigit_any c w⟩
 rw [e]
 clear e hd ha hb
 cases a <;> cases b
 all_goals
  go_enter Tryz.func134, Tryz.ntmps134
  go_wp2_with (first
   | (go_at_call 104; (with_reducible refine (HA.out _).mono ?_); rintro e w' ⟨rfl, rfl⟩)
   | (go_at_call 106; (with_reducible refine (HB.out _).mono ?_); rintro e w' ⟨rfl, rfl⟩))
  go_ret
  exact ⟨rfl, rfl⟩
/-- the source at q -/
abbrev Src (w : World) (q : Nat) (s : ByteArray) (i e : Int) : Prop := Blk w q 123 #[.string s, .int .i64 i, .int .i64 e]
def twN (f : UInt8 → Bool) (s : ByteArray) (k : Nat) : Nat := ((s.data.toList.drop k).takeWhile f).length
theorem data_size (s : ByteArray) : s.data.toList.length = s.size := by show s.data.toList.length = s.data.size; simp
theorem kdrop_at {s : ByteArray} {k : Nat} (h : k < s.size) : s.data.toList.drop k = s[k] :: s.data.toList.drop (k + 1) := by
 rw [List.drop_eq_getElem_cons (by rw [data_size]; exact h)]
 rfl
theorem twN_step {f : UInt8 → Bool} {s : ByteArray} {k : Nat} (h : k < s.size) (hf : f s[k] = true) : twN f s k = twN f s (k + 1) + 1 := by
 unfold twN; rw [kdrop_at h, List.takeWhile_cons, hf]; simp
theorem twN_stop {f : UInt8 → Bool} {s : ByteArray} {k : Nat} (h : k < s.size) (hf : f s[k] = false) : twN f s k = 0 := by
 unfold twN; rw [kdrop_at h, List.takeWhile_cons, hf]; simp
theorem twN_end {f : UInt8 → Bool} {s : ByteArray} {k : Nat} (h : s.size ≤ k) : twN f s k = 0 := by
 unfold twN; rw [List.drop_eq_nil_of_le (by rw [data_size]; exact h)]; simp
theorem twN_le {f : UInt8 → Bool} {s : ByteArray} {k : Nat} (h : k ≤ s.size) : k + twN f s k ≤ s.size := by
 have h1 := List.takeWhile_prefix f (l := s.data.toList.drop k) |>.length_le
 have h2 : (s.data.toList.drop k).length = s.size - k := by rw [List.length_drop, data_size]
 unfold twN; omega
set_option maxHeartbeats 400000 in
theorem krun_word (q k0 : Nat) (s : ByteArray) (i er : Int) (w : World) (h : Src w q s i er) (hk : k0 ≤ s.size) (hs : s.size ≤ 4000) :
  Calls Tryz.prog 133 #[.pointer (some ⟨q, 0, none⟩), .int .i64 k0, .func (.func 134) #[] #[]] w fun e w' => e = .returned (.int .i64 ((k0 + twN wrdB s k0 : Nat) : Int)) ∧ w = w' := by
 obtain ⟨c0, c1, c2⟩ := h.c3
 obtain ⟨en, HE⟩ : ∃ en, Box (k0 + twN wrdB s k0 = en) := ⟨_, ⟨rfl⟩⟩
 rw [HE.out]
 clear h
 go_enter Tryz.func133, Tryz.ntmps133
 go_wp2_with fail
 go_loop [1] (fun v => ∃ k : Nat, v = .int .i64 k ∧ k ≤ s.size ∧ Hid (k + twN wrdB s k = en)) (fun v => s.size - (intOf v).toNat)
 case atStart => exact ⟨k0, rfl, hk, HE.out⟩
 case round =>
  obtain ⟨k, rfl, hk2, HK⟩ := hrel
  by_cases hlt : k < s.size
  ·have hlt2 : (k : Int) < (s.size : Int) := by omega
   obtain ⟨b, hb⟩ : ∃ b, wrdB s[k] = b := ⟨_, rfl⟩
   have HC : Box (∀ w, Calls Tryz.prog 134 #[.int .u8 (s[k].toNat : Int)] w fun e w' => e = .returned (.bool b) ∧ w = w') := ⟨fun w => by rw [← hb]; exact kword1_any _ w⟩
   cases b
   ·have HN : Hid (k = en) := by have := HK.out; rw [twN_stop hlt hb] at this; exact this
    clear hb
    go_wp2_with (go_at_call 134; (with_reducible refine (HC.out _).mono ?_); rintro e w' ⟨rfl, rfl⟩)
    go_ret
    exact ⟨ret_int (by rw [HN.out]), rfl⟩
   ·have HN : Hid (k + 1 + twN wrdB s (k + 1) = en) := by have h5 := HK.out; rw [twN_step hlt hb] at h5; show k + 1 + twN wrdB s (k + 1) = en; omega
    clear hb
    go_wp2_with (go_at_call 134; (with_reducible refine (HC.out _).mono ?_); rintro e w' ⟨rfl, rfl⟩)
    go_round
    case rel => exact ⟨k + 1, by go_num, by omega, HN.out⟩
    case measure => simp [intOf]; omega
  ·have hlt2 : ¬ (k : Int) < (s.size : Int) := by omega
   have HN : Hid (k = en) := by have := HK.out; rw [twN_end (by omega)] at this; exact this
   go_wp2_with fail
   go_ret
   exact ⟨ret_int (by rw [HN.out]), rfl⟩
set_option maxHeartbeats 400000 in
theorem krun_digit (q k0 : Nat) (s : ByteArray) (i er : Int) (w : World) (h : Src w q s i er) (hk : k0 ≤ s.size) (hs : s.size ≤ 4000) :
  Calls Tryz.prog 133 #[.pointer (some ⟨q, 0, none⟩), .int .i64 k0, .func (.func 106) #[] #[]] w fun e w' => e = .returned (.int .i64 ((k0 + twN digB s k0 : Nat) : Int)) ∧ w = w' := by
 obtain ⟨c0, c1, c2⟩ := h.c3
 obtain ⟨en, HE⟩ : ∃ en, Box (k0 + twN digB s k0 = en) := ⟨_, ⟨rfl⟩⟩
 rw [HE.out]
 clear h
 go_enter Tryz.func133, Tryz.ntmps133
 go_wp2_with fail
 go_loop [1] (fun v => ∃ k : Nat, v = .int .i64 k ∧ k ≤ s.size ∧ Hid (k + twN digB s k = en)) (fun v => s.size - (intOf v).toNat)
 case atStart => exact ⟨k0, rfl, hk, HE.out⟩
 case round =>
  obtain ⟨k, rfl, hk2, HK⟩ := hrel
  by_cases hlt : k < s.size
  ·have hlt2 : (k : Int) < (s.size : Int) := by omega
   obtain ⟨b, hb⟩ : ∃ b, digB s[k] = b := ⟨_, rfl⟩
   have HC : Box (∀ w, Calls Tryz.prog 106 #[.int .u8 (s[k].toNat : Int)] w fun e w' => e = .returned (.bool b) ∧ w = w') := ⟨fun w => by rw [← hb]; exact kdigit_any _ w⟩
   cases b
   ·have HN : Hid (k = en) := by have := HK.out; rw [twN_stop hlt hb] at this; exact this
    clear hb
    go_wp2_with (go_at_call 106; (with_reducible refine (HC.out _).mono ?_); rintro e w' ⟨rfl, rfl⟩)
    go_ret
    exact ⟨ret_int (by rw [HN.out]), rfl⟩
   ·have HN : Hid (k + 1 + twN digB s (k + 1) = en) := by have h5 := HK.out; rw [twN_step hlt hb] at h5; show k + 1 + twN digB s (k + 1) = en; omega
    clear hb
    go_wp2_with (go_at_call 106; (with_reducible refine (HC.out _).mono ?_); rintro e w' ⟨rfl, rfl⟩)
    go_round
    case rel => exact ⟨k + 1, by go_num, by omega, HN.out⟩
    case measure => simp [intOf]; omega
  ·have hlt2 : ¬ (k : Int) < (s.size : Int) := by omega
   have HN : Hid (k = en) := by have := HK.out; rw [twN_end (by omega)] at this; exact this
   go_wp2_with fail
   go_ret
   exact ⟨ret_int (by rw [HN.out]), rfl⟩
end
section
open Go.RowKit
abbrev tokC (t : Tok) : Array Value := #[.int .i64 t.kind, .string (bsL t.text), .int .i64 t.n, .int .i64 (t.off : Int)]
theorem Wr.alloc {q : Nat} {A B : World} (h : Wr q A B) (o : Obj) : Wr q A (B.alloc o) :=
 ⟨h.ko.trans (KeepsOthers.alloc _ _), h.os, h.tape, h.output, fun k hk hn => (Below.heap_alloc B o k (Nat.lt_of_lt_of_le hk h.ko.size)).trans (h.block k hk hn)⟩
theorem Wr.set {q : Nat} {A B : World} (h : Wr q A B) (k : Nat) (v : Value) : Wr q A (B.setCell ⟨q, k, none⟩ v) :=
 ⟨h.ko.trans (KeepsOthers.setCell _ _ _), h.os, h.tape, h.output, fun i hi hn => (Below.heap_setCell _ _ _ _ hn).trans (h.block i hi hn)⟩
theorem Wr.setNew {q : Nat} {A B : World} (h : Wr q A B) {g : Nat} (hg : A.heap.size ≤ g) (k : Nat) (v : Value) : Wr q A (B.setCell ⟨g, k, none⟩ v) :=
 ⟨h.ko.trans (KeepsOthers.setCell _ _ _), h.os, h.tape, h.output, fun i hi hn => (Below.heap_setCell _ _ _ _ (by simp only; omega)).trans (h.block i hi hn)⟩
theorem Wr.drew {q : Nat} {A B : World} (h : Wr q A B) : Wr q A B.drew := ⟨⟨h.ko.size, h.ko.same⟩, h.os, h.tape, h.output, h.block⟩
theorem Wr.drewN {q : Nat} {A B : World} (h : Wr q A B) (n : Nat) : Wr q A (B.drewN n) := ⟨⟨h.ko.size, h.ko.same⟩, h.os, h.tape, h.output, h.block⟩
abbrev zeroTok : Array Value := #[.int .i64 0, .string ⟨#[]⟩, .int .i64 0, .int .i64 0]
theorem Blk.c4 {w : World} {b : Nat} {t : TypeId} {v0 v1 v2 v3 : Value} (h : Blk w b t #[v0, v1, v2, v3]) : w.cell? ⟨b, 0, none⟩ = some v0 ∧ w.cell? ⟨b, 1, none⟩ = some v1 ∧ w.cell? ⟨b, 2, none⟩ = some v2 ∧ w.cell? ⟨b, 3, none⟩ = some v3 := by
 unfold Blk at h
 refine ⟨?_, ?_, ?_, ?_⟩ <;> simp [World.cell?, h]
/-- what a function that reads a token hands back -/
def RetK (q : Nat) (s : ByteArray) (i : Nat) (r : Int × Tok × Nat) (w : World) (e : Ending) (w' : World) : Prop := e = .returned (.agg (tokC r.2.1)) ∧ Src w' q s i r.1 ∧ Wr q w w'
theorem ext_bs (s : ByteArray) (i n : Nat) : s.extract i (i + n) = bsL ((s.data.toList.drop i).take n) := by
 apply ByteArray.ext
 rw [ByteArray.data_extract]
 unfold bsL
 apply Array.toList_inj.1
 simp [Array.toList_extract, List.extract_eq_take_drop]
theorem tw_take (f : UInt8 → Bool) (l : List UInt8) : l.take (l.takeWhile f).length = l.takeWhile f := by
 induction l with
 | nil => rfl
 | cons c r ih =>
  rw [List.takeWhile_cons]
  split
  ·rw [List.length_cons, List.take_succ_cons, ih]
  ·rfl
theorem ext_tw (f : UInt8 → Bool) (s : ByteArray) (i : Nat) : s.extract i (i + twN f s i) = bsL ((s.data.toList.drop i).takeWhile f) := by
 rw [ext_bs]; unfold twN; rw [tw_take]
/-- the four cells of a token, written -/
def putT (W : World) (g : Nat) (k : Int) (t : ByteArray) (n o : Int) : World := (((W.setCell ⟨g, 0, none⟩ (.int .i64 k)).setCell ⟨g, 1, none⟩ (.string t)).setCell ⟨g, 2, none⟩ (.int .i64 n)).setCell ⟨g, 3, none⟩ (.int .i64 o)
theorem tok_fin {q : Nat} {s : ByteArray} {i er k n o : Int} {t : ByteArray} {w W : World} (h1 : Wr q w W) (h2 : Src W q s i er) (h3 : Blk W w.heap.size 126 zeroTok) (hq : q < w.heap.size) :
  Blk (putT W w.heap.size k t n o).drew w.heap.size 126 #[.int .i64 k, .string t, .int .i64 n, .int .i64 o] ∧ Wr q w (putT W w.heap.size k t n o).drew ∧ Src (putT W w.heap.size k t n o).drew q s i er := by
 have hne : q ≠ w.heap.size := by omega
 unfold putT
 refine ⟨?_, ((((h1.setNew (Nat.le_refl _) _ _).setNew (Nat.le_refl _) _ _).setNew (Nat.le_refl _) _ _).setNew (Nat.le_refl _) _ _).drew, ?_⟩
 ·have := (((h3.set 0 (.int .i64 k)).set 1 (.string t)).set 2 (.int .i64 n)).set 3 (.int .i64 o)
  exact Blk.drewN (by simpa using this) 1
 ·exact Blk.drewN ((((h2.far (p := ⟨w.heap.size, 0, none⟩) hne _).far (p := ⟨w.heap.size, 1, none⟩) hne _).far (p := ⟨w.heap.size, 2, none⟩) hne _).far (p := ⟨w.heap.size, 3, none⟩) hne _) 1
theorem tok_fin0 {q : Nat} {s : ByteArray} {i er k n o : Int} {t : ByteArray} {w W : World} (h1 : Wr q w W) (h2 : Src W q s i er) (h3 : Blk W w.heap.size 126 zeroTok) (hq : q < w.heap.size) :
  Blk (putT W w.heap.size k t n o) w.heap.size 126 #[.int .i64 k, .string t, .int .i64 n, .int .i64 o] ∧ Wr q w (putT W w.heap.size k t n o) ∧ Src (putT W w.heap.size k t n o) q s i er := by
 have hne : q ≠ w.heap.size := by omega
 unfold putT
 refine ⟨?_, (((h1.setNew (Nat.le_refl _) _ _).setNew (Nat.le_refl _) _ _).setNew (Nat.le_refl _) _ _).setNew (Nat.le_refl _) _ _, ?_⟩
 ·have := (((h3.set 0 (.int .i64 k)).set 1 (.string t)).set 2 (.int .i64 n)).set 3 (.int .i64 o)
  simpa using this
 ·exact (((h2.far (p := ⟨w.heap.size, 0, none⟩) hne _).far (p := ⟨w.heap.size, 1, none⟩) hne _).far (p := ⟨w.heap.size, 2, none⟩) hne _).far (p := ⟨w.heap.size, 3, none⟩) hne _
theorem bsL_size (l : List UInt8) : (bsL l).size = l.length := by unfold bsL; show l.toArray.size = _; simp
/-- a token is stored in a block of the round -/
theorem tok_put {q tb i : Nat} {s : ByteArray} {er : Int} {t : Tok} {wr w3 w5 : World} (h0 : Wr q wr w3) (hb : Blk w3 tb 126 zeroTok) (h1 : Wr q w3 w5) (h2 : Src w5 q s i er) (hz : wr.heap.size ≤ tb) (hne : q ≠ tb) :
  Wr q wr (putT w5 tb t.kind (bsL t.text) t.n t.off) ∧ Src (putT w5 tb t.kind (bsL t.text) t.n t.off) q s i er ∧ Blk (putT w5 tb t.kind (bsL t.text) t.n t.off) tb 126 (tokC t) := by
 have h3 : Blk w5 tb 126 zeroTok := (h1.block tb hb.lt (Ne.symm hne)).trans hb
 unfold putT
 refine ⟨((((h0.trans h1).setNew hz _ _).setNew hz _ _).setNew hz _ _).setNew hz _ _, (((h2.far (p := ⟨tb, 0, none⟩) hne _).far (p := ⟨tb, 1, none⟩) hne _).far (p := ⟨tb, 2, none⟩) hne _).far (p := ⟨tb, 3, none⟩) hne _, ?_⟩
 have := (((h3.set 0 (.int .i64 t.kind)).set 1 (.string (bsL t.text))).set 2 (.int .i64 t.n)).set 3 (.int .i64 t.off)
 simpa using this
set_option maxHeartbeats 1000000 in
theorem kword_any (q i : Nat) (s : ByteArray) (w : World) (h : Src w q s i 0) (hi : i ≤ s.size) (hs : s.size ≤ 4000) :
  Calls Tryz.prog 105 #[.pointer (some ⟨q, 0, none⟩)] w (RetK q s i (tokW i (s.data.toList.drop i)) w) := by
 obtain ⟨en, HE⟩ : ∃ en, Box (i + twN wrdB s i = en) := ⟨_, ⟨rfl⟩⟩
 have hen : i ≤ en ∧ en ≤ s.size := by have := twN_le (f := wrdB) hi; have := HE.out; omega
 have HT : Box (s.extract i en = bsL ((s.data.toList.drop i).takeWhile wrdB)) := ⟨by rw [← HE.out]; exact ext_tw _ _ _⟩
 obtain ⟨er, HR⟩ : ∃ er, Box ((tokW i (s.data.toList.drop i)).1 = er) := ⟨_, ⟨rfl⟩⟩
 have HR2 : Box (er = if 16 < en - i then 4 else 0) := ⟨by rw [← HR.out, ← HE.out]; unfold tokW; simp only; rw [show (List.takeWhile wrdB (List.drop i s.data.toList)).length = twN wrdB s i from rfl, Nat.add_sub_cancel_left]⟩
 have H0 := Box.mk h
 have c0 := h.c3
 obtain ⟨c0, c1, c2⟩ := c0
 have cf := h.frozen
 have hq := h.lt
 have hq2 : ¬ w.heap.size = q := by omega
 have hq3 : ¬ q = w.heap.size := by omega
 clear h
 go_enter Tryz.func105, Tryz.ntmps105
 go_wp2_with fail
 refine (krun_word q i s i 0 _ (H0.out.alloc _) hi hs).mono ?_
 rintro e w1 ⟨rfl, rfl⟩
 rw [HE.out]
 have hsub : IntKind.i64.wrap ((en : Int) - (i : Int)) = (en : Int) - (i : Int) := by rw [IntKind.wrap_i64]; omega
 have HW : Box (Wr q w (w.alloc (.cells zeroTok 126)) ∧ Src (w.alloc (.cells zeroTok 126)) q s i 0 ∧ Blk (w.alloc (.cells zeroTok 126)) w.heap.size 126 zeroTok) := ⟨(Wr.refl q w).alloc _, H0.out.alloc _, Blk.new _ _ _⟩
 by_cases hl : 16 < en - i
 ·have hl2 : (16 : Int) < (en : Int) - (i : Int) := by omega
  obtain rfl : er = 4 := by rw [HR2.out, if_pos hl]
  have HW4 : Box (Wr q w ((w.setCell ⟨q, 2, none⟩ (.int .i64 4)).alloc (.cells zeroTok 126)) ∧ Src ((w.setCell ⟨q, 2, none⟩ (.int .i64 4)).alloc (.cells zeroTok 126)) q s i 4 ∧ Blk ((w.setCell ⟨q, 2, none⟩ (.int .i64 4)).alloc (.cells zeroTok 126)) w.heap.size 126 zeroTok) :=
   ⟨((Wr.refl q w).set 2 _).alloc _, Blk.alloc (by have := H0.out.set 2 (.int .i64 4); simpa using this) _, Blk.newAt _ _ (by simp [World.setCell])⟩
  go_upto_region 4 with (fail)
  generalize (w.setCell ⟨q, 2, none⟩ (.int .i64 4)).alloc (.cells zeroTok 126) = W at *
  clear c0 c1 c2 cf
  obtain ⟨c0, c1, c2⟩ := HW4.out.2.1.c3
  obtain ⟨t0, t1, t2, t3⟩ := HW4.out.2.2.c4
  have tf := HW4.out.2.2.frozen
  go_region
  go_wp2_with fail
  clear c0 c1 c2 t0 t1 t2 t3 tf
  have HF := Box.mk (tok_fin (k := 0) (t := s.extract i en) (n := 0) (o := i) HW4.out.1 HW4.out.2.1 HW4.out.2.2 hq)
  clear HW4
  show bodyPost _ _ _ _ _ (putT W w.heap.size 0 (s.extract i en) 0 i).drew
  generalize (putT W w.heap.size 0 (s.extract i en) 0 i).drew = WF at HF ⊢
  obtain ⟨t0, t1, t2, t3⟩ := HF.out.1.c4
  have tf := HF.out.1.frozen
  exact bodyPost_ret (v := .agg #[.int .i64 0, .string (s.extract i en), .int .i64 0, .int .i64 i]) (by simp [results, Tryz.results105, go_sem, t0, t1, t2, t3, tf]) rfl ⟨by rw [HT.out]; rfl, by rw [HR.out]; exact HF.out.2.2, HF.out.2.1⟩
 ·have hl2 : ¬ (16 : Int) < (en : Int) - (i : Int) := by omega
  obtain rfl : er = 0 := by rw [HR2.out, if_neg hl]
  go_upto_region 4 with (fail)
  generalize w.alloc (.cells zeroTok 126) = W at *
  clear c0 c1 c2 cf
  obtain ⟨c0, c1, c2⟩ := HW.out.2.1.c3
  obtain ⟨t0, t1, t2, t3⟩ := HW.out.2.2.c4
  have tf := HW.out.2.2.frozen
  go_region
  go_wp2_with fail
  clear c0 c1 c2 t0 t1 t2 t3 tf
  have HF := Box.mk (tok_fin (k := 0) (t := s.extract i en) (n := 0) (o := i) HW.out.1 HW.out.2.1 HW.out.2.2 hq)
  clear HW
  show bodyPost _ _ _ _ _ (putT W w.heap.size 0 (s.extract i en) 0 i).drew
  generalize (putT W w.heap.size 0 (s.extract i en) 0 i).drew = WF at HF ⊢
  obtain ⟨t0, t1, t2, t3⟩ := HF.out.1.c4
  have tf := HF.out.1.frozen
  exact bodyPost_ret (v := .agg #[.int .i64 0, .string (s.extract i en), .int .i64 0, .int .i64 i]) (by simp [results, Tryz.results105, go_sem, t0, t1, t2, t3, tf]) rfl ⟨by rw [HT.out]; rfl, by rw [HR.out]; exact HF.out.2.2, HF.out.2.1⟩
end
section
open Go.RowKit
abbrev Mat := ByteArray × Int × ByteArray
def matCells (x : Mat) : List Value := [.string x.1, .int .i64 x.2.1, .string x.2.2]
theorem flat_len {α : Type} (f : α → List Value) (size : Nat) (hf : ∀ x, (f x).length = size) (l : List α) : (l.flatMap f).length = l.length * size := by
 induction l with
 | nil => simp
 | cons x r ih => rw [List.flatMap_cons, List.length_append, ih, hf, List.length_cons, Nat.succ_mul]; omega
theorem flat_get {α : Type} (f : α → List Value) (size : Nat) (hf : ∀ x, (f x).length = size) (l : List α) (i j : Nat) (x : α) (hi : l[i]? = some x) (hj : j < size) :
  (l.flatMap f)[i * size + j]? = (f x)[j]? := by
 induction l generalizing i with
 | nil => simp at hi
 | cons y r ih =>
  rw [List.flatMap_cons]
  cases i with
  | zero =>
   simp at hi; subst hi
   rw [List.getElem?_append_left (by rw [hf]; omega)]; simp
  | succ i =>
   simp at hi
   rw [List.getElem?_append_right (by rw [hf, Nat.succ_mul]; omega), hf]
   rw [show (i + 1) * size + j - size = i * size + j by rw [Nat.succ_mul]; omega]
   exact ih i hi
def Mats (w : World) (base : Nat) (v : Value) (l : List Mat) : Prop := Seq w base 86 3 v l.length (l.flatMap matCells)
theorem Mats.at_ {w : World} {base : Nat} {A : Option Addr} {n c : Nat} {l : List Mat} (h : Mats w base (.slice A n c) l) (k : Nat) (x : Mat) (hk : l[k]? = some x) :
  ∃ b off, A = some ⟨b, off, none⟩ ∧ b < w.heap.size ∧ w.cell? ⟨b, off + k * 3, none⟩ = some (.string x.1) ∧ w.cell? ⟨b, off + k * 3 + 1, none⟩ = some (.int .i64 x.2.1) ∧ w.cell? ⟨b, off + k * 3 + 2, none⟩ = some (.string x.2.2) := by
 obtain ⟨_, A', c', hv, _, _, h2⟩ := h
 cases hv
 have hlt : k < l.length := (List.getElem?_eq_some_iff.1 hk).1
 obtain ⟨b, off, rfl, hf, hx⟩ := h2 (by omega)
 refine ⟨b, off, rfl, hf.1, ?_, ?_, ?_⟩
 ·have := flat_get matCells 3 (fun _ => rfl) l k 0 x hk (by omega)
  exact hx _ _ (this.trans rfl)
 ·have := flat_get matCells 3 (fun _ => rfl) l k 1 x hk (by omega)
  have := hx _ _ (this.trans rfl)
  rwa [← Nat.add_assoc] at this
 ·have := flat_get matCells 3 (fun _ => rfl) l k 2 x hk (by omega)
  have := hx _ _ (this.trans rfl)
  rwa [← Nat.add_assoc] at this
end
section
open Go.RowKit
def RetB (v : Value) (w : World) (e : Ending) (w' : World) : Prop := e = .returned v ∧ Below w.heap.size w w'
/-- what the program's own variables hold -/
structure WordsW (w : World) : Prop where
 groups : ∀ k : Nat, k < 5 → ∃ s : ByteArray, w.cell? ⟨3, k, none⟩ = some (.string s) ∧ (s.toList == [114, 101, 113]) = false
 low : 3 < w.heap.size ∧ 3 < w.heap.size
end
section
open Go.RowKit FracM
end
section
open Go.RowKit
def encI (n : Int) : List Nat := uvN (zig n)
def encS (s : ByteArray) : List Nat := uvN s.size ++ s.data.toList.map (·.toNat)
end
end Go.Proofs.YtkdojgkiclndfaaGreatDoor
