/- Contracts, packed: Ya Match Yb Kc Kb. -/
import Derived.Test.YtpgdijbfkahepaaGreatDoorPd2
import Derived.Test.YtpgdijbfkahepaaGreatDoorPd3
import Derived.Deep.RegionHeld3
import Derived.Deep.DeepCutAuto
import Derived.RangeFuncNested
import Derived.RangeFuncBound
import Derived.RangeFuncCalls
import Derived.RangeFuncLeaves
import Derived.RangeFuncFrom
import Derived.RangeFuncKeeps
import Derived.Shelf.Abstract
import Derived.Shelf.RegionOpen
import Derived.WalkKit
import Derived.OwnWalkIn
import Derived.TacticsInMore
import Derived.LoopNIn
import Derived.LoopIn
set_option linter.unusedVariables false
set_option linter.unusedSimpArgs false
namespace Go.Proofs.YtpgdijbfkahepaaGreatDoor
section
open Go.RowKit
def W64 (x : Int) : Int := IntKind.i64.wrap x
theorem W64_eq (x : Int) : W64 x = (x + 9223372036854775808) % 18446744073709551616 - 9223372036854775808 := by
 simp [W64, IntKind.wrap, IntKind.bits, IntKind.signed]; omega
theorem W64_in {x : Int} (h1 : -9223372036854775808 ≤ x) (h2 : x ≤ 9223372036854775807) : W64 x = x := by rw [W64_eq]; omega
end
section
open Go.RowKit
abbrev Lab := ByteArray × ByteArray
abbrev Mat := ByteArray × Int × ByteArray
def labCells (x : Lab) : List Value := [.string x.1, .string x.2]
def matCells (x : Mat) : List Value := [.string x.1, .int .i64 x.2.1, .string x.2.2]
theorem flat_get {α : Type} (f : α → List Value) (size : Nat) (hf : ∀ x, (f x).length = size) (l : List α) (i j : Nat) (x : α) (hi : l[i]? = some x) (hj : j < size) :
  (l.flatMap f)[i * size + j]? = (f x)[j]? := by
 induction l generalizing i with
 | nil => simp at hi
 | cons y r ih =>
  rw [List.flatMap_cons]
  cases i with
  | zero =>
   simp at hi; subst hi
   rw [List.getElem?_append_left (by rw [hf]; omega)]; simp
  | succ i =>
   simp at hi
   rw [List.getElem?_append_right (by rw [hf, Nat.succ_mul]; omega), hf]
   rw [show (i + 1) * size + j - size = i * size + j by rw [Nat.succ_mul]; omega]
   exact ih i hi
def Labs (w : World) (base : Nat) (v : Value) (l : List Lab) : Prop := Seq w base 65 2 v l.length (l.flatMap labCells)
def Mats (w : World) (base : Nat) (v : Value) (l : List Mat) : Prop := Seq w base 75 3 v l.length (l.flatMap matCells)
theorem Labs.below {w w' : World} {base : Nat} {v : Value} {l : List Lab} (h : Labs w base v l) (f : Below w.heap.size w w') : Labs w' base v l := Seq.below h f
theorem Mats.below {w w' : World} {base : Nat} {v : Value} {l : List Mat} (h : Mats w base v l) (f : Below w.heap.size w w') : Mats w' base v l := Seq.below h f
theorem Labs.keep {w w' : World} {base : Nat} {T : List TypeId} {v : Value} {l : List Lab} (h : Labs w base v l) (f : Fr base T w w') (ht : 65 ∉ T) : Labs w' base v l := Seq.keep h f ht
/-- one element of a slice of labels: its two cells -/
theorem Labs.at_ {w : World} {base : Nat} {A : Option Addr} {n c : Nat} {l : List Lab} (h : Labs w base (.slice A n c) l) (k : Nat) (x : Lab) (hk : l[k]? = some x) :
  ∃ b off, A = some ⟨b, off, none⟩ ∧ b < w.heap.size ∧ w.cell? ⟨b, off + k * 2, none⟩ = some (.string x.1) ∧ w.cell? ⟨b, off + k * 2 + 1, none⟩ = some (.string x.2) := by
 obtain ⟨_, A', c', hv, _, _, h2⟩ := h
 cases hv
 have hlt : k < l.length := (List.getElem?_eq_some_iff.1 hk).1
 obtain ⟨b, off, rfl, hf, hx⟩ := h2 (by omega)
 refine ⟨b, off, rfl, hf.1, ?_, ?_⟩
 ·have := flat_get labCells 2 (fun _ => rfl) l k 0 x hk (by omega)
  exact hx _ _ (this.trans rfl)
 ·have := flat_get labCells 2 (fun _ => rfl) l k 1 x hk (by omega)
  have := hx _ _ (this.trans rfl)
  rwa [← Nat.add_assoc] at this
theorem Mats.at_ {w : World} {base : Nat} {A : Option Addr} {n c : Nat} {l : List Mat} (h : Mats w base (.slice A n c) l) (k : Nat) (x : Mat) (hk : l[k]? = some x) :
  ∃ b off, A = some ⟨b, off, none⟩ ∧ b < w.heap.size ∧ w.cell? ⟨b, off + k * 3, none⟩ = some (.string x.1) ∧ w.cell? ⟨b, off + k * 3 + 1, none⟩ = some (.int .i64 x.2.1) ∧ w.cell? ⟨b, off + k * 3 + 2, none⟩ = some (.string x.2.2) := by
 obtain ⟨_, A', c', hv, _, _, h2⟩ := h
 cases hv
 have hlt : k < l.length := (List.getElem?_eq_some_iff.1 hk).1
 obtain ⟨b, off, rfl, hf, hx⟩ := h2 (by omega)
 refine ⟨b, off, rfl, hf.1, ?_, ?_, ?_⟩
 ·have := flat_get matCells 3 (fun _ => rfl) l k 0 x hk (by omega)
  exact hx _ _ (this.trans rfl)
 ·have := flat_get matCells 3 (fun _ => rfl) l k 1 x hk (by omega)
  have := hx _ _ (this.trans rfl)
  rwa [← Nat.add_assoc] at this
 ·have := flat_get matCells 3 (fun _ => rfl) l k 2 x hk (by omega)
  have := hx _ _ (this.trans rfl)
  rwa [← Nat.add_assoc] at this
theorem Labs.len {w : World} {base : Nat} {A : Option Addr} {n c : Nat} {l : List Lab} (h : Labs w base (.slice A n c) l) : n = l.length ∧ n ≤ 9223372036854775807 := by
 obtain ⟨_, A', c', hv, h1, h2, _⟩ := h
 cases hv
 unfold maxLen at h2
 exact ⟨rfl, by omega⟩
theorem Mats.len {w : World} {base : Nat} {A : Option Addr} {n c : Nat} {l : List Mat} (h : Mats w base (.slice A n c) l) : n = l.length ∧ n ≤ 9223372036854775807 := by
 obtain ⟨_, A', c', hv, h1, h2, _⟩ := h
 cases hv
 unfold maxLen at h2
 exact ⟨rfl, by omega⟩
/-- the value of the first label with this name -/
def getL (l : List Lab) (nm : ByteArray) : ByteArray := match l with
 | [] => ⟨#[]⟩
 | x :: r => if x.1.toList == nm.toList then x.2 else getL r nm
theorem getL_yes {l : List Lab} {k : Nat} {x : Lab} {nm : ByteArray} (hk : l[k]? = some x) (h : (x.1.toList == nm.toList) = true) : getL (l.drop k) nm = x.2 := by
 obtain ⟨hlt, e⟩ := List.getElem?_eq_some_iff.1 hk
 rw [List.drop_eq_getElem_cons hlt, e]
 unfold getL
 rw [if_pos h]
theorem getL_no {l : List Lab} {k : Nat} {x : Lab} {nm : ByteArray} (hk : l[k]? = some x) (h : (x.1.toList == nm.toList) = false) : getL (l.drop k) nm = getL (l.drop (k + 1)) nm := by
 obtain ⟨hlt, e⟩ := List.getElem?_eq_some_iff.1 hk
 rw [List.drop_eq_getElem_cons hlt, e]
 conv => lhs; unfold getL
 rw [if_neg (by simp [h])]
set_option maxHeartbeats 400000 in
theorem rget_any (A : Option Addr) (n c base : Nat) (l : List Lab) (nm : ByteArray) (w : World) (h : Labs w base (.slice A n c) l) :
  Calls Tryz.prog 57 #[.slice A n c, .string nm] w fun e w' => e = .returned (.string (getL l nm)) ∧ w = w' := by
 obtain ⟨hn, hm⟩ := h.len
 have HN := Lib.hid hn; clear hn
 have HL := Lib.hid h; clear h
 go_enter Tryz.func57, Tryz.ntmps57
 go_wp2
 go_loop [5] (fun i => ∃ k : Nat, k ≤ n ∧ i = .int .i64 k ∧ Hid (getL (l.drop k) nm = getL l nm)) (fun i => n - (intOf i).toNat)
 case atStart => exact ⟨0, Nat.zero_le _, rfl, rfl⟩
 case round =>
  obtain ⟨k, hk, rfl, HK⟩ := hrel
  by_cases hlt : k < n
  ·obtain ⟨x, hx⟩ : ∃ x, l[k]? = some x := ⟨l[k]'(by rw [← HN.out]; exact hlt), List.getElem?_eq_getElem _⟩
   obtain ⟨b, off, rfl, hb, c0, c1⟩ := HL.out.at_ k x hx
   have HX := Lib.hid hx; clear hx
   by_cases he : (x.1.toList == nm.toList) = true
   ·go_wp2
    go_ret
    exact ⟨ret_str (by rw [← HK.out, getL_yes HX.out he]), rfl⟩
   ·have he' : (x.1.toList == nm.toList) = false := by simpa using he
    clear he
    go_wp2
    go_round
    case rel => exact ⟨k + 1, by omega, by go_num, by rw [← HK.out, getL_no HX.out he']; rfl⟩
    case measure => simp [intOf]; omega
  ·go_wp2
   go_ret
   exact ⟨ret_str (by rw [← HK.out, List.drop_eq_nil_of_le (by rw [← HN.out]; omega)]; rfl), rfl⟩
set_option maxHeartbeats 400000 in
theorem get_any (A : Option Addr) (n c base : Nat) (l : List Lab) (nm : ByteArray) (w : World) (h : Labs w base (.slice A n c) l) :
  Calls Tryz.prog 34 #[.slice A n c, .string nm] w fun e w' => e = .returned (.string (getL l nm)) ∧ Below w.heap.size w w' := by
 obtain ⟨hn, hm⟩ := h.len
 have HN := Lib.hid hn; clear hn
 have HL := Lib.hid h; clear h
 go_enter Tryz.func34, Tryz.ntmps34
 go_wp2
 go_loopw [9] (fun i wr => ∃ k : Nat, k ≤ n ∧ i = .int .i64 k ∧ Below w.heap.size w wr ∧ Hid (getL (l.drop k) nm = getL l nm)) (fun i _ => n - (intOf i).toNat)
 case atStart => exact ⟨0, Nat.zero_le _, rfl, Below.refl _ _, rfl⟩
 case round =>
  obtain ⟨k, hk, rfl, hbw, HK⟩ := hrel
  have hsz := hbw.size
  by_cases hlt : k < n
  ·obtain ⟨x, hx⟩ : ∃ x, l[k]? = some x := ⟨l[k]'(by rw [← HN.out]; exact hlt), List.getElem?_eq_getElem _⟩
   obtain ⟨b, off, rfl, hb, c0, c1⟩ := (HL.out.below hbw).at_ k x hx
   have HX := Lib.hid hx; clear hx
   have HB := Lib.hid hbw; clear hbw
   by_cases he : (x.1.toList == nm.toList) = true
   ·go_wp2
    go_ret
    exact ⟨ret_str (by rw [← HK.out, getL_yes HX.out he]), HB.out.alloc hsz _⟩
   ·have he' : (x.1.toList == nm.toList) = false := by simpa using he
    clear he
    go_wp2
    go_roundw
    case rel => exact ⟨k + 1, by omega, by go_num, HB.out.alloc hsz _, by rw [← HK.out, getL_no HX.out he']; rfl⟩
    case measure => simp [intOf]; omega
  ·go_wp2
   go_ret
   exact ⟨ret_str (by rw [← HK.out, List.drop_eq_nil_of_le (by rw [← HN.out]; omega)]; rfl), hbw⟩
end
section
open Go.RowKit
def RetB (v : Value) (w : World) (e : Ending) (w' : World) : Prop := e = .returned v ∧ Below w.heap.size w w'
/-- what the program's own variables hold -/
structure WordsW (w : World) : Prop where
 groups : ∀ k : Nat, k < 5 → ∃ s : ByteArray, w.cell? ⟨1, k, none⟩ = some (.string s) ∧ (s.toList == [114, 101, 113]) = false
 low : 1 < w.heap.size ∧ 1 < w.heap.size
end
section
open Go.RowKit
theorem kletter_any (c : UInt8) (w : World) : Calls Tryz.prog 71 #[.int .u8 (c.toNat : Int)] w fun e w' => e = .returned (.bool (letB c)) ∧ w = w' := by
 obtain ⟨x, hx⟩ : ∃ x, c.toNat = x := ⟨_, rfl⟩
 have e : letB c = (decide (97 ≤ x) && decide (x ≤ 122)) := by unfold letB; rw [hx]
 rw [e, hx]
 clear e hx
 by_cases h : 97 ≤ x
 ·by_cases h2 : x ≤ 122
  ·have E := Lib.hid (show (decide (97 ≤ x) && decide (x ≤ 122)) = true by simp [h, h2])
   go_enter Tryz.func71, Tryz.ntmps71
   go_wp2
   go_ret
   exact ⟨ret_bool (by first | rfl | (rw [E.out]; try (simp; try omega))), rfl⟩
  ·have E := Lib.hid (show (decide (97 ≤ x) && decide (x ≤ 122)) = false by simp [h2])
   go_enter Tryz.func71, Tryz.ntmps71
   go_wp2
   go_ret
   exact ⟨ret_bool (by first | rfl | (rw [E.out]; try (simp; try omega))), rfl⟩
 ·have E := Lib.hid (show (decide (97 ≤ x) && decide (x ≤ 122)) = false by simp [h])
  go_enter Tryz.func71, Tryz.ntmps71
  go_wp2
  go_ret
  exact ⟨ret_bool (by first | rfl | (rw [E.out]; try (simp; try omega))), rfl⟩
theorem kdigit_any (c : UInt8) (w : World) : Calls Tryz.prog 73 #[.int .u8 (c.toNat : Int)] w fun e w' => e = .returned (.bool (digB c)) ∧ w = w' := by
 obtain ⟨x, hx⟩ : ∃ x, c.toNat = x := ⟨_, rfl⟩
 have e : digB c = (decide (48 ≤ x) && decide (x ≤ 57)) := by unfold digB; rw [hx]
 rw [e, hx]
 clear e hx
 by_cases h : 48 ≤ x
 ·by_cases h2 : x ≤ 57
  ·have E := Lib.hid (show (decide (48 ≤ x) && decide (x ≤ 57)) = true by simp [h, h2])
   go_enter Tryz.func73, Tryz.ntmps73
   go_wp2
   go_ret
   exact ⟨ret_bool (by first | rfl | (rw [E.out]; try (simp; try omega))), rfl⟩
  ·have E := Lib.hid (show (decide (48 ≤ x) && decide (x ≤ 57)) = false by simp [h2])
   go_enter Tryz.func73, Tryz.ntmps73
   go_wp2
   go_ret
   exact ⟨ret_bool (by first | rfl | (rw [E.out]; try (simp; try omega))), rfl⟩
 ·have E := Lib.hid (show (decide (48 ≤ x) && decide (x ≤ 57)) = false by simp [h])
  go_enter Tryz.func73, Tryz.ntmps73
  go_wp2
  go_ret
  exact ⟨ret_bool (by first | rfl | (rw [E.out]; try (simp; try omega))), rfl⟩
set_option maxHeartbeats 400000 in
theorem kword1_any (c : UInt8) (w : World) : Calls Tryz.prog 87 #[.int .u8 (c.toNat : Int)] w fun e w' => e = .returned (.bool (wrdB c)) ∧ w = w' := by
 obtain ⟨a, ha⟩ : ∃ a, letB c = a := ⟨_, rfl⟩
 obtain ⟨b, hb⟩ : ∃ b, digB c = b := ⟨_, rfl⟩
 obtain ⟨d, hd⟩ : ∃ d, (c.toNat == 95) = d := ⟨_, rfl⟩
 have e : wrdB c = (a || b || d) := by unfold wrdB; rw [ha, hb, hd]
 have hd2 : ((c.toNat : Int) == 95) = d := by rw [← hd]; rw [Bool.eq_iff_iff, beq_iff_eq, beq_iff_eq]; omega
 have HA : Box (∀ w, Calls Tryz.prog 71 #[.int .u8 (c.toNat : Int)] w fun e w' => e = .returned (.bool a) ∧ w = w') := ⟨fun w => by rw [← ha]; exact kletter_any c w⟩
 have HB : Box (∀ w, Calls Tryz.prog 73 #[.int .u8 (c.toNat : Int)] w fun e w' => e = .returned (.bool b) ∧ w = w') := ⟨fun w => by rw [← hb]; exact kdigit_any c w⟩
 rw [e]
 clear e hd ha hb
 cases a <;> cases b
 all_goals
  go_enter Tryz.func87, Tryz.ntmps87
  go_wp2_with (first
   | (go_at_call 71; (with_reducible refine (HA.out _).mono ?_); rintro e w' ⟨rfl, rfl⟩)
   | (go_at_call 73; (with_reducible refine (HB.out _).mono ?_); rintro e w' ⟨rfl, rfl⟩))
  go_ret
  exact ⟨rfl, rfl⟩
/-- the source at q -/
abbrev Src (w : World) (q : Nat) (s : ByteArray) (i e : Int) : Prop := Blk w q 100 #[.string s, .int .i64 i, .int .i64 e]
def twN (f : UInt8 → Bool) (s : ByteArray) (k : Nat) : Nat := ((s.data.toList.drop k).takeWhile f).length
theorem data_size (s : ByteArray) : s.data.toList.length = s.size := by show s.data.toList.length = s.data.size; simp
theorem kdrop_at {s : ByteArray} {k : Nat} (h : k < s.size) : s.data.toList.drop k = s[k] :: s.data.toList.drop (k + 1) := by
 rw [List.drop_eq_getElem_cons (by rw [data_size]; exact h)]
 rfl
theorem twN_step {f : UInt8 → Bool} {s : ByteArray} {k : Nat} (h : k < s.size) (hf : f s[k] = true) : twN f s k = twN f s (k + 1) + 1 := by
 unfold twN; rw [kdrop_at h, List.takeWhile_cons, hf]; simp
theorem twN_stop {f : UInt8 → Bool} {s : ByteArray} {k : Nat} (h : k < s.size) (hf : f s[k] = false) : twN f s k = 0 := by
 unfold twN; rw [kdrop_at h, List.takeWhile_cons, hf]; simp
theorem twN_end {f : UInt8 → Bool} {s : ByteArray} {k : Nat} (h : s.size ≤ k) : twN f s k = 0 := by
 unfold twN; rw [List.drop_eq_nil_of_le (by rw [data_size]; exact h)]; simp
theorem twN_le {f : UInt8 → Bool} {s : ByteArray} {k : Nat} (h : k ≤ s.size) : k + twN f s k ≤ s.size := by
 have h1 := List.takeWhile_prefix f (l := s.data.toList.drop k) |>.length_le
 have h2 : (s.data.toList.drop k).length = s.size - k := by rw [List.length_drop, data_size]
 unfold twN; omega
set_option maxHeartbeats 400000 in
theorem krun_word (q k0 : Nat) (s : ByteArray) (i er : Int) (w : World) (h : Src w q s i er) (hk : k0 ≤ s.size) (hs : s.size ≤ 4000) :
  Calls Tryz.prog 86 #[.pointer (some ⟨q, 0, none⟩), .int .i64 k0, .func (.func 87) #[] #[]] w fun e w' => e = .returned (.int .i64 ((k0 + twN wrdB s k0 : Nat) : Int)) ∧ w = w' := by
 obtain ⟨c0, c1, c2⟩ := h.c3
 obtain ⟨en, HE⟩ : ∃ en, Box (k0 + twN wrdB s k0 = en) := ⟨_, ⟨rfl⟩⟩
 rw [HE.out]
 clear h
 go_enter Tryz.func86, Tryz.ntmps86
 go_wp2_with fail
 go_loop [1] (fun v => ∃ k : Nat, v = .int .i64 k ∧ k ≤ s.size ∧ Hid (k + twN wrdB s k = en)) (fun v => s.size - (intOf v).toNat)
 case atStart => exact ⟨k0, rfl, hk, HE.out⟩
 case round =>
  obtain ⟨k, rfl, hk2, HK⟩ := hrel
  by_cases hlt : k < s.size
  ·have hlt2 : (k : Int) < (s.size : Int) := by omega
   obtain ⟨b, hb⟩ : ∃ b, wrdB s[k] = b := ⟨_, rfl⟩
   have HC : Box (∀ w, Calls Tryz.prog 87 #[.int .u8 (s[k].toNat : Int)] w fun e w' => e = .returned (.bool b) ∧ w = w') := ⟨fun w => by rw [← hb]; exact kword1_any _ w⟩
   cases b
   ·have HN : Hid (k = en) := by have := HK.out; rw [twN_stop hlt hb] at this; exact this
    clear hb
    go_wp2_with (go_at_call 87; (with_reducible refine (HC.out _).mono ?_); rintro e w' ⟨rfl, rfl⟩)
    go_ret
    exact ⟨ret_int (by rw [HN.out]), rfl⟩
   ·have HN : Hid (k + 1 + twN wrdB s (k + 1) = en) := by have h5 := HK.out; rw [twN_step hlt hb] at h5; show k + 1 + twN wrdB s (k + 1) = en; omega
    clear hb
    go_wp2_with (go_at_call 87; (with_reducible refine (HC.out _).mono ?_); rintro e w' ⟨rfl, rfl⟩)
    go_round
    case rel => exact ⟨k + 1, by go_num, by omega, HN.out⟩
    case measure => simp [intOf]; omega
  ·have hlt2 : ¬ (k : Int) < (s.size : Int) := by omega
   have HN : Hid (k = en) := by have := HK.out; rw [twN_end (by omega)] at this; exact this
   go_wp2_with fail
   go_ret
   exact ⟨ret_int (by rw [HN.out]), rfl⟩
set_option maxHeartbeats 400000 in
theorem krun_digit (q k0 : Nat) (s : ByteArray) (i er : Int) (w : World) (h : Src w q s i er) (hk : k0 ≤ s.size) (hs : s.size ≤ 4000) :
  Calls Tryz.prog 86 #[.pointer (some ⟨q, 0, none⟩), .int .i64 k0, .func (.func 73) #[] #[]] w fun e w' => e = .returned (.int .i64 ((k0 + twN digB s k0 : Nat) : Int)) ∧ w = w' := by
 obtain ⟨c0, c1, c2⟩ := h.c3
 obtain ⟨en, HE⟩ : ∃ en, Box (k0 + twN digB s k0 = en) := ⟨_, ⟨rfl⟩⟩
 rw [HE.out]
 clear h
 go_enter Tryz.func86, Tryz.ntmps86
 go_wp2_with fail
 go_loop [1] (fun v => ∃ k : Nat, v = .int .i64 k ∧ k ≤ s.size ∧ Hid (k + twN digB s k = en)) (fun v => s.size - (intOf v).toNat)
 case atStart => exact ⟨k0, rfl, hk, HE.out⟩
 case round =>
  obtain ⟨k, rfl, hk2, HK⟩ := hrel
  by_cases hlt : k < s.size
  ·have hlt2 : (k : Int) < (s.size : Int) := by omega
   obtain ⟨b, hb⟩ : ∃ b, digB s[k] = b := ⟨_, rfl⟩
   have HC : Box (∀ w, Calls Tryz.prog 73 #[.int .u8 (s[k].toNat : Int)] w fun e w' => e = .returned (.bool b) ∧ w = w') := ⟨fun w => by rw [← hb]; exact kdigit_any _ w⟩
   cases b
   ·have HN : Hid (k = en) := by have := HK.out; rw [twN_stop hlt hb] at this; exact this
    clear hb
    go_wp2_with (go_at_call 73; (with_reducible refine (HC.out _).mono ?_); rintro e w' ⟨rfl, rfl⟩)
    go_ret
    exact ⟨ret_int (by rw [HN.out]), rfl⟩
   ·have HN : Hid (k + 1 + twN digB s (k + 1) = en) := by have h5 := HK.out; rw [twN_step hlt hb] at h5; show k + 1 + twN digB s (k + 1) = en; omega
    clear hb
    go_wp2_with (go_at_call 73; (with_reducible refine (HC.out _).mono ?_); rintro e w' ⟨rfl, rfl⟩)
    go_round
    case rel => exact ⟨k + 1, by go_num, by omega, HN.out⟩
    case measure => simp [intOf]; omega
  ·have hlt2 : ¬ (k : Int) < (s.size : Int) := by omega
   have HN : Hid (k = en) := by have := HK.out; rw [twN_end (by omega)] at this; exact this
   go_wp2_with fail
   go_ret
   exact ⟨ret_int (by rw [HN.out]), rfl⟩
end
section
open Go.RowKit Go.Shelf
/-- what may happen in the iterator between two rounds: of the old blocks q alone turns, and q holds cells -/
structure Wr (q : Nat) (A B : World) : Prop where
 ko : KeepsOthers A B
 os : B.os = A.os
 tape : B.tape = A.tape
 output : B.output = A.output
 block : ∀ k, k < A.heap.size → k ≠ q → B.heap[k]? = A.heap[k]?
theorem Wr.refl (q : Nat) (A : World) : Wr q A A := ⟨KeepsOthers.refl _, rfl, rfl, rfl, fun _ _ _ => rfl⟩
theorem Wr.trans {q : Nat} {A B C : World} (h : Wr q A B) (k : Wr q B C) : Wr q A C := ⟨h.ko.trans k.ko, k.os.trans h.os, k.tape.trans h.tape, k.output.trans h.output, fun i hi hn => (k.block i (Nat.lt_of_lt_of_le hi h.ko.size) hn).trans (h.block i hi hn)⟩
/-- what a loop's caller must bear between two of its rounds: below n nothing but q turns; blocks of cells but q lie as they lay -/
structure Wq (n q : Nat) (A B : World) : Prop where
 size : A.heap.size ≤ B.heap.size
 os : B.os = A.os
 tape : B.tape = A.tape
 output : B.output = A.output
 low : ∀ k, k < n → k ≠ q → B.heap[k]? = A.heap[k]?
 cells : ∀ k o, A.heap[k]? = some o → o.isCells = true → k ≠ q → B.heap[k]? = some o
theorem Wq.trans {n q : Nat} {A B C : World} (h : Wq n q A B) (k : Wq n q B C) : Wq n q A C :=
 ⟨Nat.le_trans h.size k.size, k.os.trans h.os, k.tape.trans h.tape, k.output.trans h.output, fun i hi hn => (k.low i hi hn).trans (h.low i hi hn), fun i o ho hc hn => k.cells i o (h.cells i o ho hc hn) hc hn⟩
theorem Wr.wq {q : Nat} {A B : World} (h : Wr q A B) {n : Nat} (hn : n ≤ A.heap.size) : Wq n q A B :=
 ⟨h.ko.size, h.os, h.tape, h.output, fun k hk hq => h.block k (by omega) hq, fun k o ho _ hq => (h.block k (Array.getElem?_eq_some_iff.1 ho).1 hq).trans ho⟩
theorem Wq.put (n q : Nat) (A : World) (l : Nat) (o o' : Obj) (hl : n ≤ l) (h : A.heap[l]? = some o) (ho : o.isCells = false) : Wq n q A (A.putObj l o') := by
 have hg := grownBy_putObj' A l o'
 refine ⟨hg.size, hg.os, hg.tape, hg.output, fun k hk _ => World.putObj_heap_other (by omega), fun k u hu hc _ => ?_⟩
 have : k ≠ l := fun e => by subst e; rw [h] at hu; cases hu; rw [ho] at hc; cases hc
 exact (World.putObj_heap_other this).trans hu
theorem Wq.alloc (n q : Nat) (A : World) (o : Obj) (hn : n ≤ A.heap.size) : Wq n q A (A.alloc o) :=
 ⟨by simp, rfl, rfl, rfl, fun k hk _ => Below.heap_alloc A o k (by omega), fun k u hu _ _ => (Below.heap_alloc A o k (Array.getElem?_eq_some_iff.1 hu).1).trans hu⟩
end
end Go.Proofs.YtpgdijbfkahepaaGreatDoor
