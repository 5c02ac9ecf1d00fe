/- Contracts, packed: Match Yb Kc Se. -/
import Derived.Test.YthoibeajhdhdhaaGreatDoorPe1
import Derived.Test.YthoibeajhdhdhaaGreatDoorPe2
import Derived.Test.YthoibeajhdhdhaaGreatDoorPe3
set_option linter.unusedVariables false
set_option linter.unusedSimpArgs false
namespace Go.Proofs.YthoibeajhdhdhaaGreatDoor
section
open Go.RowKit
abbrev Lab := ByteArray × ByteArray
abbrev Mat := ByteArray × Int × ByteArray
def matCells (x : Mat) : List Value := [.string x.1, .int .i64 x.2.1, .string x.2.2]
theorem flat_len {α : Type} (f : α → List Value) (size : Nat) (hf : ∀ x, (f x).length = size) (l : List α) : (l.flatMap f).length = l.length * size := by
 induction l with
 | nil => simp
 | cons x r ih => rw [List.flatMap_cons, List.length_append, ih, hf, List.length_cons, Nat.succ_mul]; omega
theorem flat_get {α : Type} (f : α → List Value) (size : Nat) (hf : ∀ x, (f x).length = size) (l : List α) (i j : Nat) (x : α) (hi : l[i]? = some x) (hj : j < size) :
  (l.flatMap f)[i * size + j]? = (f x)[j]? := by
 induction l generalizing i with
 | nil => simp at hi
 | cons y r ih =>
  rw [List.flatMap_cons]
  cases i with
  | zero =>
   simp at hi; subst hi
   rw [List.getElem?_append_left (by rw [hf]; omega)]; simp
  | succ i =>
   simp at hi
   rw [List.getElem?_append_right (by rw [hf, Nat.succ_mul]; omega), hf]
   rw [show (i + 1) * size + j - size = i * size + j by rw [Nat.succ_mul]; omega]
   exact ih i hi
def Mats (w : World) (base : Nat) (v : Value) (l : List Mat) : Prop := Seq w base 91 3 v l.length (l.flatMap matCells)
theorem Mats.at_ {w : World} {base : Nat} {A : Option Addr} {n c : Nat} {l : List Mat} (h : Mats w base (.slice A n c) l) (k : Nat) (x : Mat) (hk : l[k]? = some x) :
  ∃ b off, A = some ⟨b, off, none⟩ ∧ b < w.heap.size ∧ w.cell? ⟨b, off + k * 3, none⟩ = some (.string x.1) ∧ w.cell? ⟨b, off + k * 3 + 1, none⟩ = some (.int .i64 x.2.1) ∧ w.cell? ⟨b, off + k * 3 + 2, none⟩ = some (.string x.2.2) := by
 obtain ⟨_, A', c', hv, _, _, h2⟩ := h
 cases hv
 have hlt : k < l.length := (List.getElem?_eq_some_iff.1 hk).1
 obtain ⟨b, off, rfl, hf, hx⟩ := h2 (by omega)
 refine ⟨b, off, rfl, hf.1, ?_, ?_, ?_⟩
 ·have := flat_get matCells 3 (fun _ => rfl) l k 0 x hk (by omega)
  exact hx _ _ (this.trans rfl)
 ·have := flat_get matCells 3 (fun _ => rfl) l k 1 x hk (by omega)
  have := hx _ _ (this.trans rfl)
  rwa [← Nat.add_assoc] at this
 ·have := flat_get matCells 3 (fun _ => rfl) l k 2 x hk (by omega)
  have := hx _ _ (this.trans rfl)
  rwa [← Nat.add_assoc] at this
end
section
open Go.RowKit
def RetB (v : Value) (w : World) (e : Ending) (w' : World) : Prop := e = .returned v ∧ Below w.heap.size w w'
/-- what the program's own variables hold -/
structure WordsW (w : World) : Prop where
 groups : ∀ k : Nat, k < 5 → ∃ s : ByteArray, w.cell? ⟨1, k, none⟩ = some (.string s) ∧ (s.toList == [114, 101, 113]) = false
 low : 1 < w.heap.size ∧ 1 < w.heap.size
end
section
open Go.RowKit
theorem kletter_any (c : UInt8) (w : World) : Calls Tryz.prog 93 #[.int .u8 (c.toNat : Int)] w fun e w' => e = .returned (.bool (letB c)) ∧ w = w' := by
 obtain ⟨x, hx⟩ : ∃ x, c.toNat = x := ⟨_, rfl⟩
 have e : letB c = (decide (97 ≤ x) && decide (x ≤ 122)) := by unfold letB; rw [hx]
 rw [e, hx]
 clear e hx
 by_cases h : 97 ≤ x
 ·by_cases h2 : x ≤ 122
  ·have E := Lib.hid (show (decide (97 ≤ x) && decide (x ≤ 122)) = true by simp [h, h2])
   go_enter Tryz.func93, Tryz.ntmps93
   go_wp2
   go_ret
   exact ⟨ret_bool (by first | rfl | (rw [E.out]; try (simp; try omega))), rfl⟩
  ·have E := Lib.hid (show (decide (97 ≤ x) && decide (x ≤ 122)) = false by simp [h2])
   go_enter Tryz.func93, Tryz.ntmps93
   go_wp2
   go_ret
   exact ⟨ret_bool (by first | rfl | (rw [E.out]; try (simp; try omega))), rfl⟩
 ·have E := Lib.hid (show (decide (97 ≤ x) && decide (x ≤ 122)) = false by simp [h])
  go_enter Tryz.func93, Tryz.ntmps93
  go_wp2
  go_ret
  exact ⟨ret_bool (by first | rfl | (rw [E.out]; try (simp; try omega))), rfl⟩
theorem kdigit_any (c : UInt8) (w : World) : Calls Tryz.prog 95 #[.int .u8 (c.toNat : Int)] w fun e w' => e = .returned (.bool (digB c)) ∧ w = w' := by
 obtain ⟨x, hx⟩ : ∃ x, c.toNat = x := ⟨_, rfl⟩
 have e : digB c = (decide (48 ≤ x) && decide (x ≤ 57)) := by unfold digB; rw [hx]
 rw [e, hx]
 clear e hx
 by_cases h : 48 ≤ x
 ·by_cases h2 : x ≤ 57
  ·have E := Lib.hid (show (decide (48 ≤ x) && decide (x ≤ 57)) = true by simp [h, h2])
   go_enter Tryz.func95, Tryz.ntmps95
   go_wp2
   go_ret
   exact ⟨ret_bool (by first | rfl | (rw [E.out]; try (simp; try omega))), rfl⟩
  ·have E := Lib.hid (show (decide (48 ≤ x) && decide (x ≤ 57)) = false by simp [h2])
   go_enter Tryz.func95, Tryz.ntmps95
   go_wp2
   go_ret
   exact ⟨ret_bool (by first | rfl | (rw [E.out]; try (simp; try omega))), rfl⟩
 ·have E := Lib.hid (show (decide (48 ≤ x) && decide (x ≤ 57)) = false by simp [h])
  go_enter Tryz.func95, Tryz.ntmps95
  go_wp2
  go_ret
  exact ⟨ret_bool (by first | rfl | (rw [E.out]; try (simp; try omega))), rfl⟩
set_option maxHeartbeats 400000 in
theorem kword1_any (c : UInt8) (w : World) : Calls Tryz.prog 125 #[.int .u8 (c.toNat : Int)] w fun e w' => e = .returned (.bool (wrdB c)) ∧ w = w' := by
 obtain ⟨a, ha⟩ : ∃ a, letB c = a := ⟨_, rfl⟩
 obtain ⟨b, hb⟩ : ∃ b, digB c = b := ⟨_, rfl⟩
 obtain ⟨d, hd⟩ : ∃ d, (c.toNat == 95) = d := ⟨_, rfl⟩
 have e : wrdB c = (a || b || d) := by unfold wrdB; rw [ha, hb, hd]
 have hd2 : ((c.toNat : Int) == 95) = d := by rw [← hd]; rw [Bool.eq_iff_iff, beq_iff_eq, beq_iff_eq]; omega
 have HA : Box (∀ w, Calls Tryz.prog 93 #[.int .u8 (c.toNat : Int)] w fun e w' => e = .returned (.bool a) ∧ w = w') := ⟨fun w => by rw [← ha]; exact kletter_any c w⟩
 have HB : Box (∀ w, Calls Tryz.prog 95 #[.int .u8 (c.toNat : Int)] w fun e w' => e = .returned (.bool b) ∧ w = w') := ⟨fun w => by rw [← hb]; exact kdigit_any c w⟩
 rw [e]
 clear e hd ha hb
 cases a <;> cases b
 all_goals
  go_enter Tryz.func125, Tryz.ntmps125
  go_wp2_with (first
   | (go_at_call 93; (with_reducible refine (HA.out _).mono ?_); rintro e w' ⟨rfl, rfl⟩)
   | (go_at_call 95; (with_reducible refine (HB.out _).mono ?_); rintro e w' ⟨rfl, rfl⟩))
  go_ret
  exact ⟨rfl, rfl⟩
/-- the source at q -/
abbrev Src (w : World) (q : Nat) (s : ByteArray) (i e : Int) : Prop := Blk w q 96 #[.string s, .int .i64 i, .int .i64 e]
def twN (f : UInt8 → Bool) (s : ByteArray) (k : Nat) : Nat := ((s.data.toList.drop k).takeWhile f).length
theorem data_size (s : ByteArray) : s.data.toList.length = s.size := by show s.data.toList.length = s.data.size; simp
theorem kdrop_at {s : ByteArray} {k : Nat} (h : k < s.size) : s.data.toList.drop k = s[k] :: s.data.toList.drop (k + 1) := by
 rw [List.drop_eq_getElem_cons (by rw [data_size]; exact h)]
 rfl
theorem twN_step {f : UInt8 → Bool} {s : ByteArray} {k : Nat} (h : k < s.size) (hf : f s[k] = true) : twN f s k = twN f s (k + 1) + 1 := by
 unfold twN; rw [kdrop_at h, List.takeWhile_cons, hf]; simp
theorem twN_stop {f : UInt8 → Bool} {s : ByteArray} {k : Nat} (h : k < s.size) (hf : f s[k] = false) : twN f s k = 0 := by
 unfold twN; rw [kdrop_at h, List.takeWhile_cons, hf]; simp
theorem twN_end {f : UInt8 → Bool} {s : ByteArray} {k : Nat} (h : s.size ≤ k) : twN f s k = 0 := by
 unfold twN; rw [List.drop_eq_nil_of_le (by rw [data_size]; exact h)]; simp
theorem twN_le {f : UInt8 → Bool} {s : ByteArray} {k : Nat} (h : k ≤ s.size) : k + twN f s k ≤ s.size := by
 have h1 := List.takeWhile_prefix f (l := s.data.toList.drop k) |>.length_le
 have h2 : (s.data.toList.drop k).length = s.size - k := by rw [List.length_drop, data_size]
 unfold twN; omega
set_option maxHeartbeats 400000 in
theorem krun_word (q k0 : Nat) (s : ByteArray) (i er : Int) (w : World) (h : Src w q s i er) (hk : k0 ≤ s.size) (hs : s.size ≤ 4000) :
  Calls Tryz.prog 124 #[.pointer (some ⟨q, 0, none⟩), .int .i64 k0, .func (.func 125) #[] #[]] w fun e w' => e = .returned (.int .i64 ((k0 + twN wrdB s k0 : Nat) : Int)) ∧ w = w' := by
 obtain ⟨c0, c1, c2⟩ := h.c3
 obtain ⟨en, HE⟩ : ∃ en, Box (k0 + twN wrdB s k0 = en) := ⟨_, ⟨rfl⟩⟩
 rw [HE.out]
 clear h
 go_enter Tryz.func124, Tryz.ntmps124
 go_wp2_with fail
 go_loop [1] (fun v => ∃ k : Nat, v = .int .i64 k ∧ k ≤ s.size ∧ Hid (k + twN wrdB s k = en)) (fun v => s.size - (intOf v).toNat)
 case atStart => exact ⟨k0, rfl, hk, HE.out⟩
 case round =>
  obtain ⟨k, rfl, hk2, HK⟩ := hrel
  by_cases hlt : k < s.size
  ·have hlt2 : (k : Int) < (s.size : Int) := by omega
   obtain ⟨b, hb⟩ : ∃ b, wrdB s[k] = b := ⟨_, rfl⟩
   have HC : Box (∀ w, Calls Tryz.prog 125 #[.int .u8 (s[k].toNat : Int)] w fun e w' => e = .returned (.bool b) ∧ w = w') := ⟨fun w => by rw [← hb]; exact kword1_any _ w⟩
   cases b
   ·have HN : Hid (k = en) := by have := HK.out; rw [twN_stop hlt hb] at this; exact this
    clear hb
    go_wp2_with (go_at_call 125; (with_reducible refine (HC.out _).mono ?_); rintro e w' ⟨rfl, rfl⟩)
    go_ret
    exact ⟨ret_int (by rw [HN.out]), rfl⟩
   ·have HN : Hid (k + 1 + twN wrdB s (k + 1) = en) := by have h5 := HK.out; rw [twN_step hlt hb] at h5; show k + 1 + twN wrdB s (k + 1) = en; omega
    clear hb
    go_wp2_with (go_at_call 125; (with_reducible refine (HC.out _).mono ?_); rintro e w' ⟨rfl, rfl⟩)
    go_round
    case rel => exact ⟨k + 1, by go_num, by omega, HN.out⟩
    case measure => simp [intOf]; omega
  ·have hlt2 : ¬ (k : Int) < (s.size : Int) := by omega
   have HN : Hid (k = en) := by have := HK.out; rw [twN_end (by omega)] at this; exact this
   go_wp2_with fail
   go_ret
   exact ⟨ret_int (by rw [HN.out]), rfl⟩
set_option maxHeartbeats 400000 in
theorem krun_digit (q k0 : Nat) (s : ByteArray) (i er : Int) (w : World) (h : Src w q s i er) (hk : k0 ≤ s.size) (hs : s.size ≤ 4000) :
  Calls Tryz.prog 124 #[.pointer (some ⟨q, 0, none⟩), .int .i64 k0, .func (.func 95) #[] #[]] w fun e w' => e = .returned (.int .i64 ((k0 + twN digB s k0 : Nat) : Int)) ∧ w = w' := by
 obtain ⟨c0, c1, c2⟩ := h.c3
 obtain ⟨en, HE⟩ : ∃ en, Box (k0 + twN digB s k0 = en) := ⟨_, ⟨rfl⟩⟩
 rw [HE.out]
 clear h
 go_enter Tryz.func124, Tryz.ntmps124
 go_wp2_with fail
 go_loop [1] (fun v => ∃ k : Nat, v = .int .i64 k ∧ k ≤ s.size ∧ Hid (k + twN digB s k = en)) (fun v => s.size - (intOf v).toNat)
 case atStart => exact ⟨k0, rfl, hk, HE.out⟩
 case round =>
  obtain ⟨k, rfl, hk2, HK⟩ := hrel
  by_cases hlt : k < s.size
  ·have hlt2 : (k : Int) < (s.size : Int) := by omega
   obtain ⟨b, hb⟩ : ∃ b, digB s[k] = b := ⟨_, rfl⟩
   have HC : Box (∀ w, Calls Tryz.prog 95 #[.int .u8 (s[k].toNat : Int)] w fun e w' => e = .returned (.bool b) ∧ w = w') := ⟨fun w => by rw [← hb]; exact kdigit_any _ w⟩
   cases b
   ·have HN : Hid (k = en) := by have := HK.out; rw [twN_stop hlt hb] at this; exact this
    clear hb
    go_wp2_with (go_at_call 95; (with_reducible refine (HC.out _).mono ?_); rintro e w' ⟨rfl, rfl⟩)
    go_ret
    exact ⟨ret_int (by rw [HN.out]), rfl⟩
   ·have HN : Hid (k + 1 + twN digB s (k + 1) = en) := by have h5 := HK.out; rw [twN_step hlt hb] at h5; show k + 1 + twN digB s (k + 1) = en; omega
    clear hb
    go_wp2_with (go_at_call 95; (with_reducible refine (HC.out _).mono ?_); rintro e w' ⟨rfl, rfl⟩)
    go_round
    case rel => exact ⟨k + 1, by go_num, by omega, HN.out⟩
    case measure => simp [intOf]; omega
  ·have hlt2 : ¬ (k : Int) < (s.size : Int) := by omega
   have HN : Hid (k = en) := by have := HK.out; rw [twN_end (by omega)] at this; exact this
   go_wp2_with fail
   go_ret
   exact ⟨ret_int (by rw [HN.out]), rfl⟩
end
section
open Go.RowKit FracM
end
end Go.Proofs.YthoibeajhdhdhaaGreatDoor
